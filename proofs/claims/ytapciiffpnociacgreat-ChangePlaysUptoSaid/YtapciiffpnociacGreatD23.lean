/- Several texts in one: MoE StrG MoF MoG SamP MoH MoI ChA. Condition: none. -/
import Derived.Test.YtapciiffpnociacGreatD22
import Derived.Test.YtapciiffpnociacGreatD19
import Derived.Test.YtapciiffpnociacGreatD01
import Derived.Test.YtapciiffpnociacGreatD21
import Derived.Test.YtapciiffpnociacGreatD16

/- The program's model.Rights, All, Model, Is, Ask. Condition: none. -/
namespace Go.Proofs.YtapciiffpnociacGreat
open Go Go.RowKit
theorem mErr_lev {p:Prg} {l:List Fct}:mErr p l=if levE p≠0 then levE p else factsE p.arity l:=by
 unfold mErr levE
 by_cases h:progE nameR p=0
 ·rw [h]
  cases docOk p <;> simp
 ·simp [h]
attribute [local irreducible] DW DS DL DQ Ev FnOk FnP thenD inBlockD DT
set_option maxHeartbeats 8000000 in
theorem rights_fn (p:Prg) (l:List Fct):Fn 59 [elPrg p,.d (.slice 2 (l.map encFct))] (fun r=>r = .d (.int .i64 (factsE p.arity l))):=by
 refine fnp_enter' _ Tryz.func59 rfl rfl (by kernel_rfl) ?_
 intro O w0 E0 β0
 have ll:(l.map encFct).length=l.length:=List.length_map _
 refine dw_len_map (t:=1) rfl fun hk=>?_
 unfold factsE
 by_cases h2:60 < l.length
 ·rw [if_pos h2]
  repeat' (first|refine z0 ?_|apply ds_nil|apply dw_seq2|refine z16 ?_|apply dw_block|apply dw_skip|apply dw_ret|apply thenD_n|apply thenD_r|refine z1 ?_|(refine z23 ?_ ?_ <;> intro hg)|fail)
  all_goals try (exfalso;omega)
  all_goals exact⟨.inl rfl,_,rfl,rfl,rfl⟩
 ·rw [if_neg h2]
  repeat' (first|refine z0 ?_|apply ds_nil|apply dw_seq2|refine z16 ?_|apply dw_block|apply dw_skip|apply dw_ret|apply thenD_n|apply thenD_r|refine z1 ?_|(refine z23 ?_ ?_ <;> intro hg)|fail)
  all_goals try (exfalso;omega)
  refine ds_loop (ι:=Nat) (fun i=>⟨1,[(2,.loc 0 0),(11,.d (.slice 2 (l.map encFct))),(12,.d (.int .i64 l.length)),(13,.d (.int .i64 i))],[(0,.blk 26 [.d (.slice 1 (p.arity.map encI)),.d (.slice 1 (p.names.map encT)),.d (.slice 5 (p.rules.map encRul))])]⟩)
   (fun i=>i≤l.length∧firstL (factE p.arity) l=firstL (factE p.arity) (l.drop i)) (fun i=>l.length - i) 0 ⟨Nat.zero_le _,rfl⟩ (ent_ren id ⟨rfl,rfl,by rw [← ll];rfl,rfl,trivial⟩ ⟨rfl,trivial⟩ rfl rfl rfl rfl rfl rfl) ?_
  rintro i ⟨g1,g2⟩
  dsimp only at g1 g2 ⊢
  by_cases hi:i < l.length
  ·rw [firstL_step hi] at g2
   have w2:=fright_fn p l[i]
   by_cases h3:factE p.arity l[i]≠0
   ·rw [if_pos h3] at g2
    rw [g2]
    repeat' (first|refine z0 ?_|apply ds_nil|apply dw_seq2|refine z16 ?_|apply dw_block|apply dw_skip|apply dw_exit|apply dw_ret|apply thenD_n|apply thenD_e|apply thenD_r|apply inB_n|apply inB_r|refine z17 ?_|refine z21 ?_ (hc:=by apply w2)|refine z1 ?_|refine z3 ?_|(refine z23 ?_ ?_ <;> intro hg)|fail)
    all_goals try (exfalso;omega)
    all_goals exact⟨.inl rfl,_,rfl,rfl,rfl⟩
   ·rw [if_neg h3] at g2
    repeat' (first|refine z0 ?_|apply ds_nil|apply dw_seq2|refine z16 ?_|apply dw_block|apply dw_skip|apply dw_exit|apply dw_ret|apply thenD_n|apply thenD_e|apply thenD_r|apply inB_n|apply inB_r|refine z17 ?_|refine z21 ?_ (hc:=by apply w2)|refine z1 ?_|refine z3 ?_|(refine z23 ?_ ?_ <;> intro hg)|fail)
    all_goals try (exfalso;omega)
    exact⟨i + 1,⟨hi,g2⟩,ent_ren id ⟨rfl,rfl,rfl,rfl,trivial⟩ ⟨rfl,trivial⟩ rfl rfl rfl rfl rfl rfl,by omega⟩
  ·rw [firstL_end (by omega)] at g2
   rw [g2]
   repeat' (first|refine z0 ?_|apply ds_nil|apply dw_seq2|refine z16 ?_|apply dw_block|apply dw_skip|apply dw_exit|apply dw_ret|apply thenD_n|apply thenD_e|refine z17 ?_|refine z1 ?_|refine z3 ?_|(refine z23 ?_ ?_ <;> intro hg)|fail)
   all_goals try (exfalso;omega)
   all_goals exact⟨.inl rfl,_,rfl,rfl,rfl⟩
set_option maxHeartbeats 8000000 in
theorem mall_fn (p:Prg) (l:List Fct) :
  Fn 57 [elPrg p,.d (.slice 2 (l.map encFct))]
   (fun r=>∃ (m:List Fct) (hw:List Stp) (e:Int),r = .tup [.d (.slice 2 (m.map encFct)),.d (.slice 4 (hw.map encStp)),.d (.int .i64 e)]∧ModelR p l e m∧(e=0→HwOk l m hw∧HwM p (docLv p) p.arity.length l hw m)):=by
 refine fnp_enter' _ Tryz.func57 rfl rfl (by kernel_rfl) ?_
 intro O w0 E0 β0
 have w1:=levels_fn p
 have w2:=rights_fn p l
 by_cases h0:mErr p l=0
 ·have ho:=mOk h0
  have hE:levE p=0:=by unfold levE;rw [if_neg (by rw [ho.prog];simp),ho.doc];rfl
  have hL:levL p=docLv p:=by unfold levL;rw [if_pos ⟨ho.prog,ho.doc⟩]
  have hF:factsE p.arity l=0:=by rw [mErr_lev,if_neg (by rw [hE];simp)] at h0;exact h0
  rw [hE,hL] at w1
  rw [hF] at w2
  have w3:=built_fn p (docLv p) l ho.pr ho.fit ho.len ho.facts
  repeat' (first|refine z0 ?_|apply ds_nil|apply dw_seq2|refine z16 ?_|apply dw_skip|refine z18 ?_|refine z19 ?_|apply thenD_n|refine z21 ?_ (hc:=by apply w1)|refine z21 ?_ (hc:=by apply w2)|refine z1 ?_|fail)
  all_goals try (exfalso;omega)
  apply ds_call;exact rfl;exact rfl;exact w3;exact rfl;exact rfl;exact rfl
  rintro _ ⟨m,hw,b,rfl,⟨rfl,q1,q2,q3⟩|⟨rfl,rfl,rfl,q1⟩⟩
  ·clear w1 w2 w3
   repeat' (first|refine z0 ?_|apply ds_nil|apply dw_seq2|refine z16 ?_|apply dw_skip|apply dw_ret|refine z19 ?_|apply thenD_n)
   all_goals try (exfalso;omega)
   exact⟨.inl rfl,_,rfl,rfl,m,hw,0,rfl,.ok m h0 q1,fun _=>⟨q2,q3⟩⟩
  ·clear w1 w2 w3
   repeat' (first|refine z0 ?_|apply ds_nil|apply dw_seq2|refine z16 ?_|refine z18 ?_|apply thenD_n)
   all_goals try (exfalso;omega)
   refine dw_ent (ent_nild 4 2 rfl) ?_
   refine dw_ent (ent_nild 5 4 rfl) ?_
   repeat' (first|apply dw_ret|apply thenD_r)
   exact⟨.inl rfl,_,rfl,rfl,[],[],2,rfl,.much h0 q1,fun h=>absurd h (by simp)⟩
 ·have hE:=mErr_lev (p:=p) (l:=l)
  have hb:ModelR p l (mErr p l) []:=.bad h0
  by_cases hl:levE p=0
  ·rw [if_neg (by rw [hl];simp)] at hE
   rw [hl] at w1
   rw [hE] at h0 hb
   generalize factsE p.arity l=e at *
   repeat' (first|refine z0 ?_|apply ds_nil|apply dw_seq2|refine z16 ?_|apply dw_skip|refine z18 ?_|apply thenD_n|refine z21 ?_ (hc:=by apply w1)|refine z21 ?_ (hc:=by apply w2)|refine z1 ?_|(refine z23 ?_ ?_ <;> intro hg)|fail)
   all_goals try (exfalso;omega)
   refine dw_ent (ent_nild 4 2 rfl) ?_
   refine dw_ent (ent_nild 5 4 rfl) ?_
   repeat' (first|apply dw_ret|apply thenD_r)
   exact⟨.inl rfl,_,rfl,rfl,[],[],e,rfl,hb,fun h=>absurd h h0⟩
  ·rw [if_pos hl] at hE
   rw [hE] at h0 hb
   generalize levE p=e at *
   repeat' (first|refine z0 ?_|apply ds_nil|apply dw_seq2|refine z16 ?_|apply dw_skip|apply thenD_n|refine z21 ?_ (hc:=by apply w1)|refine z21 ?_ (hc:=by apply w2)|refine z1 ?_|(refine z23 ?_ ?_ <;> intro hg)|fail)
   all_goals try (exfalso;omega)
   refine dw_ent (ent_nild 4 2 rfl) ?_
   refine dw_ent (ent_nild 5 4 rfl) ?_
   repeat' (first|apply dw_ret|apply thenD_r)
   exact⟨.inl rfl,_,rfl,rfl,[],[],e,rfl,hb,fun h=>absurd h h0⟩
set_option maxHeartbeats 8000000 in
theorem model_fn (p:Prg) (l:List Fct) (e:Int) (m:List Fct) (hm:ModelR p l e m):Fn 20 [elPrg p,.d (.slice 2 (l.map encFct))] (fun r=>r = .tup [.d (.slice 2 (m.map encFct)),.d (.int .i64 e)]):=by
 refine fnp_enter' _ Tryz.func20 rfl rfl (by kernel_rfl) ?_
 intro O w0 E0 β0
 have w1:=mall_fn p l
 repeat' (first|refine z0 ?_|apply ds_nil|apply dw_seq2|refine z16 ?_|apply thenD_n|refine z1 ?_|fail)
 apply ds_call;exact rfl;exact rfl;exact w1;exact rfl;exact rfl;exact rfl
 rintro _ ⟨m',hw,e',rfl,q1,_⟩
 obtain⟨rfl,rfl⟩:=q1.unique hm
 repeat' (first|refine z0 ?_|apply ds_nil|apply dw_seq2|refine z16 ?_|apply dw_ret|apply thenD_n)
 exact⟨.inl rfl,_,rfl,rfl,rfl⟩
set_option maxHeartbeats 8000000 in
theorem is1_fn (a b:Fct):Fn 62 ([elFct a,elFct b]++[]) (fun r=>r = .d (.bool (Fct.same a b))):=by
 refine fnp_enter' _ Tryz.func62 rfl rfl (by kernel_rfl) ?_
 intro O w0 E0 β0
 have w1:=orderF_fn a b
 repeat' (first|refine z0 ?_|apply ds_nil|apply dw_seq2|refine z16 ?_|apply dw_ret|apply thenD_n|refine z21 ?_ (hc:=by apply w1)|refine z1 ?_|fail)
 exact ret_b rfl rfl
set_option maxHeartbeats 8000000 in
theorem equalFunc_fn {f:FuncId} (l m:List Fct) (hp:∀ a b,Fn f ([elFct a,elFct b]++[]) (fun r=>r = .d (.bool (Fct.same a b)))):Fn 61 [.d (.slice 2 (l.map encFct)),.d (.slice 2 (m.map encFct)),.fn f []] (fun r=>r = .d (.bool (sameL Fct.same l m))):=by
 refine fnp_enter' _ Tryz.func61 rfl rfl (by kernel_rfl) ?_
 intro O w0 E0 β0
 refine dw_len_map (t:=0) rfl fun hb=>?_
 refine dw_len_map (t:=1) rfl fun hb2=>?_
 have ll:(l.map encFct).length=l.length:=List.length_map _
 have lm:(m.map encFct).length=m.length:=List.length_map _
 by_cases hl:l.length=m.length
 ·repeat' (first|refine z0 ?_|apply ds_nil|apply dw_seq2|refine z16 ?_|apply dw_block|apply dw_skip|apply dw_ret|apply thenD_n|apply thenD_r|(refine z23 ?_ ?_ <;> intro hg)|fail)
  all_goals try (exfalso;omega)
  refine ds_loop (ι:=Nat) (fun i=>⟨0,[(1,.d (.slice 2 (m.map encFct))),(2,.fn f []),(15,.d (.slice 2 (l.map encFct))),(16,.d (.int .i64 l.length)),(17,.d (.int .i64 i))],[]⟩)
   (fun i=>i≤l.length∧sameL Fct.same l m=sameL Fct.same (l.drop i) (m.drop i)) (fun i=>l.length - i) 0 ⟨Nat.zero_le _,rfl⟩ (ent_ren id ⟨rfl,rfl,rfl,by rw [← ll];rfl,rfl,trivial⟩ trivial rfl rfl rfl rfl rfl rfl) ?_
  rintro i ⟨g1,g2⟩
  dsimp only at g1 g2 ⊢
  by_cases hi:i < l.length
  ·have w:=hp l[i] (m[i]'(by omega))
   rw [sameL_drop Fct.same l m i hi (by omega)] at g2
   cases hs:Fct.same l[i] (m[i]'(by omega)) with
   | true =>
    rw [hs] at w
    rw [hs,Bool.true_and] at g2
    repeat' (first|refine z0 ?_|apply ds_nil|apply dw_seq2|refine z16 ?_|apply dw_block|apply dw_skip|apply dw_exit|apply dw_ret|refine z19 ?_|apply thenD_n|apply thenD_e|apply inB_n|refine z17 ?_|(apply ds_callV;exact rfl;exact rfl;exact rfl;exact rfl;apply w;exact rfl;(exact rfl);exact rfl;rintro _ rfl)|refine z1 ?_|refine z3 ?_|(refine z23 ?_ ?_ <;> intro hg)|fail)
    all_goals try (exfalso;omega)
    exact⟨i + 1,⟨hi,g2⟩,ent_ren id ⟨rfl,rfl,rfl,rfl,rfl,trivial⟩ trivial rfl rfl rfl rfl rfl rfl,by omega⟩
   | false =>
    rw [hs] at w
    rw [hs,Bool.false_and] at g2
    repeat' (first|refine z0 ?_|apply ds_nil|apply dw_seq2|refine z16 ?_|apply dw_block|apply dw_skip|apply dw_exit|apply dw_ret|refine z18 ?_|apply thenD_n|apply thenD_e|apply thenD_r|apply inB_r|refine z17 ?_|(apply ds_callV;exact rfl;exact rfl;exact rfl;exact rfl;apply w;exact rfl;(exact rfl);exact rfl;rintro _ rfl)|refine z1 ?_|refine z3 ?_|(refine z23 ?_ ?_ <;> intro hg)|fail)
    all_goals try (exfalso;omega)
    exact⟨.inl rfl,_,rfl,rfl,by rw [g2];rfl⟩
  ·rw [sameL_end Fct.same l m i (by omega) (by omega)] at g2
   repeat' (first|refine z0 ?_|apply ds_nil|apply dw_seq2|refine z16 ?_|apply dw_block|apply dw_skip|apply dw_exit|apply dw_ret|apply thenD_n|apply thenD_e|refine z17 ?_|refine z1 ?_|refine z3 ?_|(refine z23 ?_ ?_ <;> intro hg)|fail)
   all_goals try (exfalso;omega)
   exact⟨.inl rfl,_,rfl,rfl,by rw [g2];rfl⟩
 ·rw [sameL_len Fct.same l m hl]
  repeat' (first|refine z0 ?_|apply ds_nil|apply dw_seq2|refine z16 ?_|apply dw_block|apply dw_skip|apply dw_ret|apply thenD_n|apply thenD_r|(refine z23 ?_ ?_ <;> intro hg)|fail)
  all_goals try (exfalso;omega)
  exact⟨.inl rfl,_,rfl,rfl,rfl⟩
def isE (p:Prg) (l m:List Fct) (e:Int):Int:=if mErr p l≠0 then mErr p l else if factsE p.arity m≠0 then factsE p.arity m else e
set_option maxHeartbeats 8000000 in
theorem mis_fn (p:Prg) (l m:List Fct) (e:Int) (x:List Fct) (hx:ModelR p l e x) :
  Fn 21 [elPrg p,.d (.slice 2 (l.map encFct)),.d (.slice 2 (m.map encFct))] (fun r=>r = .tup [.d (.bool (decide (isE p l m e=0) && sameL Fct.same x (setF' m))),.d (.int .i64 (isE p l m e))]):=by
 refine fnp_enter' _ Tryz.func21 rfl rfl (by kernel_rfl) ?_
 intro O w0 E0 β0
 have w1:=levels_fn p
 have w2:=rights_fn p l
 have w3:=rights_fn p m
 have hE:=mErr_lev (p:=p) (l:=l)
 by_cases h0:mErr p l=0
 ·have ho:=mOk h0
  have hEl:levE p=0:=by unfold levE;rw [if_neg (by rw [ho.prog];simp),ho.doc];rfl
  have hL:levL p=docLv p:=by unfold levL;rw [if_pos ⟨ho.prog,ho.doc⟩]
  have hF:factsE p.arity l=0:=by rw [hE,if_neg (by rw [hEl];simp)] at h0;exact h0
  rw [hEl,hL] at w1
  rw [hF] at w2
  by_cases hM:factsE p.arity m=0
  ·rw [hM] at w3
   have hI:isE p l m e=e:=by unfold isE;rw [if_neg (by rw [h0];simp),if_neg (by rw [hM];simp)]
   rw [hI]
   obtain⟨m1,m2⟩:=factsE_ok hM
   have w4:=built_fn p (docLv p) l ho.pr ho.fit ho.len ho.facts
   have w5:=set_fn m (by omega) (fun x hx=>by have:=fct_len ho.pr (m2 x hx);omega)
   have w6:=equalFunc_fn x (setF' m) is1_fn
   repeat' (first|refine z0 ?_|apply ds_nil|apply dw_seq2|refine z16 ?_|apply dw_skip|refine z18 ?_|refine z19 ?_|apply thenD_n|refine z21 ?_ (hc:=by apply w1)|refine z21 ?_ (hc:=by apply w2)|refine z21 ?_ (hc:=by apply w3)|refine z1 ?_|fail)
   all_goals try (exfalso;omega)
   apply ds_call;exact rfl;exact rfl;exact w4;exact rfl;exact rfl;exact rfl
   rintro _ ⟨m',hw,b,rfl,⟨rfl,q1,q2,q3⟩|⟨rfl,rfl,rfl,q1⟩⟩
   ·obtain⟨he,hx'⟩:=hx.unique (.ok m' h0 q1)
    subst he
    subst hx'
    rw [decide_eq_true rfl,Bool.true_and]
    clear w1 w2 w3 w4
    repeat' (first|refine z0 ?_|apply ds_nil|apply dw_seq2|refine z16 ?_|apply dw_skip|apply dw_ret|refine z19 ?_|apply thenD_n|refine z21 ?_ (hc:=by apply w5)|refine z21 ?_ (hc:=by apply w6)|fail)
    all_goals try (exfalso;omega)
    exact⟨.inl rfl,_,rfl,rfl,rfl⟩
   ·obtain⟨he,hx'⟩:=hx.unique (.much h0 q1)
    subst he
    subst hx'
    clear w1 w2 w3 w4
    repeat' (first|refine z0 ?_|apply ds_nil|apply dw_seq2|refine z16 ?_|apply dw_ret|refine z18 ?_|apply thenD_n|apply thenD_r)
    all_goals try (exfalso;omega)
    exact⟨.inl rfl,_,rfl,rfl,rfl⟩
  ·have hI:isE p l m e=factsE p.arity m:=by unfold isE;rw [if_neg (by rw [h0];simp),if_pos hM]
   rw [hI]
   generalize factsE p.arity m=e2 at *
   rw [decide_eq_false hM,Bool.false_and]
   repeat' (first|refine z0 ?_|apply ds_nil|apply dw_seq2|refine z16 ?_|apply dw_skip|apply dw_ret|refine z18 ?_|apply thenD_n|apply thenD_r|refine z21 ?_ (hc:=by apply w1)|refine z21 ?_ (hc:=by apply w2)|refine z21 ?_ (hc:=by apply w3)|refine z1 ?_|(refine z23 ?_ ?_ <;> intro hg)|fail)
   all_goals try (exfalso;omega)
   exact⟨.inl rfl,_,rfl,rfl,rfl⟩
 ·have hI:isE p l m e=mErr p l:=by unfold isE;rw [if_pos h0]
  rw [hI,decide_eq_false h0,Bool.false_and]
  by_cases hl:levE p=0
  ·rw [if_neg (by rw [hl];simp)] at hE
   rw [hl] at w1
   rw [hE] at h0 ⊢
   generalize factsE p.arity l=e2 at *
   repeat' (first|refine z0 ?_|apply ds_nil|apply dw_seq2|refine z16 ?_|apply dw_skip|apply dw_ret|refine z18 ?_|apply thenD_n|apply thenD_r|refine z21 ?_ (hc:=by apply w1)|refine z21 ?_ (hc:=by apply w2)|refine z21 ?_ (hc:=by apply w3)|refine z1 ?_|(refine z23 ?_ ?_ <;> intro hg)|fail)
   all_goals try (exfalso;omega)
   exact⟨.inl rfl,_,rfl,rfl,rfl⟩
  ·rw [if_pos hl] at hE
   rw [hE] at h0 ⊢
   generalize levE p=e2 at *
   repeat' (first|refine z0 ?_|apply ds_nil|apply dw_seq2|refine z16 ?_|apply dw_skip|apply dw_ret|apply thenD_n|apply thenD_r|refine z21 ?_ (hc:=by apply w1)|refine z21 ?_ (hc:=by apply w2)|refine z21 ?_ (hc:=by apply w3)|refine z1 ?_|(refine z23 ?_ ?_ <;> intro hg)|fail)
   all_goals try (exfalso;omega)
   exact⟨.inl rfl,_,rfl,rfl,rfl⟩
set_option maxHeartbeats 8000000 in
theorem ask_fn (p:Prg) (l:List Fct) (pred:Int) (args:List Int) (bound:List Bool) (e:Int) (x:List Fct) (hx:ModelR p l e x) :
  Fn 22 [elPrg p,.d (.slice 2 (l.map encFct)),.d (.int .i64 pred),.d (.slice 1 (args.map encI)),.d (.slice 1 (bound.map encBm))] (fun r=>r = .tup [.d (.slice 2 ((if e=0 then setF' (matchL x pred args bound) else []).map encFct)),.d (.int .i64 e)]):=by
 refine fnp_enter' _ Tryz.func22 rfl rfl (by kernel_rfl) ?_
 intro O w0 E0 β0
 have w1:=model_fn p l e x hx
 obtain⟨x1,x2,x3⟩:=hx.strict
 by_cases he:e=0
 ·subst he
  rw [if_pos rfl]
  have ho:=mOk hx.ok0
  have w2:=match_fn x pred args bound (by omega) (fun y hy=>by have:=fct_len ho.pr (x3 y hy);omega)
  repeat' (first|refine z0 ?_|apply ds_nil|apply dw_seq2|refine z16 ?_|apply dw_skip|apply dw_ret|refine z19 ?_|apply thenD_n|refine z21 ?_ (hc:=by apply w1)|refine z21 ?_ (hc:=by apply w2)|refine z1 ?_|fail)
  all_goals try (exfalso;omega)
  exact⟨.inl rfl,_,rfl,rfl,rfl⟩
 ·rw [if_neg he]
  repeat' (first|refine z0 ?_|apply ds_nil|apply dw_seq2|refine z16 ?_|apply dw_skip|apply thenD_n|refine z21 ?_ (hc:=by apply w1)|refine z1 ?_|(refine z23 ?_ ?_ <;> intro hg)|fail)
  all_goals try (exfalso;omega)
  refine dw_ent (ent_nild 10 2 rfl) ?_
  repeat' (first|apply dw_ret|apply thenD_r)
  exact⟨.inl rfl,_,rfl,rfl,rfl⟩
end Go.Proofs.YtapciiffpnociacGreat

/- The document's levels and needs. Condition: none. -/
namespace Go.Proofs.YtapciiffpnociacGreat
open Go Go.RowKit
attribute [local irreducible] DW DS DL DQ Ev FnOk FnP thenD inBlockD DWr
abbrev dlL (n:Nat) (rose:Bool):Sl:=[(1,.loc 0 0),(4,.row 1),(5,.d (.bool rose)),(6,.d (.int .i64 n))]
abbrev dlH (p:Prg) (lv:List Int):Hp:=[(0,prgBk p),(1,.row 3 1 (lv.map encI))]
set_option maxHeartbeats 8000000 in
theorem levelsOf_fn (p:Prg) (hok:PrgOk p):Fn 67 [elPrg p] (fun res=>res = .tup [.d (.slice 1 ((docLv p).map encI)),.d (.bool (docOk p))]):=by
 refine fnp_enter' _ Tryz.func67 rfl rfl (by kernel_rfl) ?_
 intro O w0 E0 β0
 have la:(p.arity.map encI).length=p.arity.length:=List.length_map _
 have lr:(p.rules.map encRul).length=p.rules.length:=List.length_map _
 have h10:=hok.preds
 have h12:=hok.rules
 repeat' (first|refine z0 ?_|apply ds_nil|apply dw_seq2|refine z16 ?_|apply thenD_n|refine z1 ?_|fail)
 refine ds_mk ((zeros p.arity.length).map encI) rfl rfl (by rw [la]) rfl rfl rfl rfl rfl rfl (by show 8 * _≤_;omega) (by unfold maxLen;omega) (by unfold zeros;rw [List.map_replicate];rfl) rfl rfl ?_
 repeat' (first|refine z0 ?_|apply ds_nil|apply dw_seq2|refine z16 ?_|apply dw_block|apply thenD_n)
 refine ds_loop (ι:=Nat × List Int × Bool) (fun x=>⟨2,dlL x.1 x.2.2,dlH p x.2.1⟩)
  (fun x=>x.1≤p.arity.length + 1∧x.2.1=lvIter p.rules x.1 (zeros p.arity.length)∧x.2.1.length=p.arity.length∧(∀ v∈x.2.1,0≤v∧v≤x.1 * 48)∧∀ m,x.1=m + 1→x.2.2 = !decide (lvIter p.rules (m + 1) (zeros p.arity.length)=lvIter p.rules m (zeros p.arity.length)))
  (fun x=>p.arity.length + 1 - x.1) (0,zeros p.arity.length,false) ⟨Nat.zero_le _,rfl,by simp [zeros],fun v hv=>by rw [List.eq_of_mem_replicate hv];constructor <;> simp,fun m h=>by cases h⟩
  (ent_ren id ⟨rfl,rfl,rfl,rfl,trivial⟩ ⟨rfl,rfl,trivial⟩ rfl rfl rfl rfl rfl rfl) ?_
 rintro⟨n,lv0,rose⟩ ⟨g1,g2,g3,g4,g5⟩
 dsimp only at g1 g2 g3 g4 g5 ⊢
 by_cases hn:n < p.arity.length + 1
 ·repeat' (first|refine z0 ?_|apply ds_nil|apply dw_seq2|refine z16 ?_|apply dw_block|apply dw_skip|apply dw_exit|apply dw_ret|apply thenD_n|apply thenD_e|refine z17 ?_|(refine z23 ?_ ?_ <;> intro hg)|fail)
  all_goals try (exfalso;omega)
  refine ds_loop (ι:=Nat × List Int × Bool) (fun x=>⟨2,(7,.d (.int .i64 x.1))::dlL n x.2.2,dlH p x.2.1⟩)
   (fun x=>x.1≤p.rules.length∧lvRound p.rules lv0=lvRound (p.rules.drop x.1) x.2.1∧RdL lv0 x.2.1 x.2.2 (n * 48 + x.1 * 4)) (fun x=>p.rules.length - x.1)
   (0,lv0,false) ⟨Nat.zero_le _,rfl,RdL.refl (fun v hv=>by have:=g4 v hv;omega)⟩ (ent_ren id ⟨rfl,rfl,rfl,rfl,rfl,trivial⟩ ⟨rfl,rfl,trivial⟩ rfl rfl rfl rfl rfl rfl) ?_
  rintro⟨i,lv1,rose1⟩ ⟨f1,f2,f3⟩
  dsimp only at f1 f2 f3 ⊢
  by_cases hi:i < p.rules.length
  ·have hm:=List.getElem_mem hi
   have hrk:=hok.each _ hm
   rw [List.drop_eq_getElem_cons hi] at f2
   repeat' (first|refine z0 ?_|apply ds_nil|apply dw_seq2|refine z16 ?_|apply dw_block|apply dw_skip|apply dw_exit|apply thenD_n|apply thenD_e|apply inB_n|refine z17 ?_|refine z1 ?_|refine z3 ?_|(refine z23 ?_ ?_ <;> intro hg)|fail)
   all_goals try (exfalso;omega)
   generalize p.rules[i]=r at hrk f2 ⊢
   have hp1:=hrk.pred
   have hb4:=hrk.body
   have hlt:=hrk.lits
   have lb:(r.body.map encLtl).length=r.body.length:=List.length_map _
   have f2:lvRound p.rules lv0=lvRound (p.rules.drop (i + 1)) (r.body.foldl (lvLit r.fold r.pred) lv1):=f2
   refine ds_loop (ι:=Nat × List Int × Bool) (fun x=>⟨3,(9,.d (.int .i64 x.1))::(8,.loc 2 0)::(7,.d (.int .i64 i))::dlL n x.2.2,(2,ruleB r)::dlH p x.2.1⟩)
    (fun x=>x.1≤r.body.length∧lvRound p.rules lv0=lvRound (p.rules.drop (i + 1)) ((r.body.drop x.1).foldl (lvLit r.fold r.pred) x.2.1)∧RdL lv0 x.2.1 x.2.2 (n * 48 + i * 4 + x.1)) (fun x=>r.body.length - x.1)
    (0,lv1,rose1) ⟨Nat.zero_le _,f2,f3.more (by simp)⟩ (ent_ren id ⟨rfl,rfl,rfl,rfl,rfl,rfl,rfl,trivial⟩ ⟨rfl,rfl,rfl,trivial⟩ rfl rfl rfl rfl rfl rfl) ?_
   clear f2 f3
   rintro⟨k,lv2,rose2⟩ ⟨e1,e2,e3⟩
   dsimp only at e1 e2 e3 ⊢
   have l2:(lv2.map encI).length=lv2.length:=List.length_map _
   have hl2:lv2.length=lv0.length:=e3.1.1.symm
   by_cases hk:k < r.body.length
   ·have hxm:=List.getElem_mem hk
    obtain⟨⟨k1,k2⟩,kp⟩:=hlt _ hxm
    rw [List.drop_eq_getElem_cons hk,List.foldl_cons] at e2
    by_cases hkind:2 < r.body[k].kind
    ·rw [show lvLit r.fold r.pred lv2 r.body[k]=lv2 from if_pos hkind] at e2
     repeat' (first|refine z0 ?_|refine z12 ?_|apply ds_nil|(apply ds_stP;exact rfl;exact rfl;(apply hv_get;(omega));exact rfl;exact rfl;(exact hv_set rfl);exact rfl;exact rfl;exact rfl;exact rfl;exact rfl;exact rfl)|apply dw_seq2|refine z16 ?_|apply dw_block|apply dw_skip|apply dw_exit|refine z18 ?_|apply thenD_n|apply thenD_e|apply inB_n|refine z17 ?_|refine z1 ?_|refine z3 ?_|(refine z23 ?_ ?_ <;> intro hg)|((fail_if_success (apply ds_known;exact rfl));apply ds_guardP;exact rfl;exact rfl;exact rfl;all_goals intro hg))
     all_goals try (exfalso;omega)
     exact⟨(k + 1,lv2,rose2),⟨by dsimp only;omega,e2,e3.more (by omega)⟩,ent_ren id ⟨rfl,rfl,rfl,rfl,rfl,rfl,rfl,trivial⟩ ⟨rfl,rfl,rfl,trivial⟩ rfl rfl rfl rfl rfl rfl,by show r.body.length - (k + 1) < r.body.length - k;omega⟩
    ·have hh:hangsB r.body[k]=true:=by
      have h12:r.body[k].kind=1∨r.body[k].kind=2:=by omega
      unfold hangsB
      rcases h12 with h|h <;> simp [h]
     obtain⟨q1,q2⟩:=kp hh
     have hA:=e3.2.2.2 (lv2[r.body[k].pred.toNat]'(by omega)) (List.getElem_mem _)
     have hlit:=lvLit_if (f:=r.fold) (pr:=r.pred) (lv:=lv2) hkind (by omega) (by omega)
     have hset:=fun v=>e3.set (i:=r.pred.toNat) (v:=v) (by omega)
     have hNf:liftN r.fold r.body[k]=if r.body[k].kind=2∨r.fold≠0 then 1 else 0:=rfl
     have hfold:=hrk.fold
     repeat' (first|refine z0 ?_|refine z12 ?_|apply ds_nil|(apply ds_stP;exact rfl;exact rfl;(apply hv_get;(omega));exact rfl;exact rfl;(exact hv_set rfl);exact rfl;exact rfl;exact rfl;exact rfl;exact rfl;exact rfl)|apply dw_seq2|refine z16 ?_|apply dw_block|apply dw_skip|apply dw_exit|refine z18 ?_|apply thenD_n|apply thenD_e|apply inB_n|refine z17 ?_|refine z1 ?_|refine z3 ?_|(refine z23 ?_ ?_ <;> intro hg)|((fail_if_success (apply ds_known;exact rfl));apply ds_guardP;exact rfl;exact rfl;exact rfl;all_goals intro hg))
     all_goals try (exfalso;omega)
     all_goals first
      | (have hL:liftN r.fold r.body[k]=1:=by rw [hNf,if_pos (by omega)]
         rw [hlit,hL,if_pos (by omega)] at e2
         exact⟨(k + 1,_,true),⟨by dsimp only;omega,e2,(hset _ (by omega) (by omega)).more (by omega)⟩,ent_ren id ⟨rfl,rfl,rfl,rfl,rfl,rfl,rfl,trivial⟩ ⟨rfl,rfl,rfl,trivial⟩ rfl rfl rfl rfl rfl rfl,by show r.body.length - (k + 1) < r.body.length - k;omega⟩)
      | (have hL:liftN r.fold r.body[k]=1:=by rw [hNf,if_pos (by omega)]
         rw [hlit,hL,if_neg (by omega)] at e2
         exact⟨(k + 1,lv2,rose2),⟨by dsimp only;omega,e2,e3.more (by omega)⟩,ent_ren id ⟨rfl,rfl,rfl,rfl,rfl,rfl,rfl,trivial⟩ ⟨rfl,rfl,rfl,trivial⟩ rfl rfl rfl rfl rfl rfl,by show r.body.length - (k + 1) < r.body.length - k;omega⟩)
      | (have hL:liftN r.fold r.body[k]=0:=by rw [hNf,if_neg (by omega)]
         rw [hlit,hL,Int.add_zero,if_pos (by omega)] at e2
         exact⟨(k + 1,_,true),⟨by dsimp only;omega,e2,(hset _ (by omega) (by omega)).more (by omega)⟩,ent_ren id ⟨rfl,rfl,rfl,rfl,rfl,rfl,rfl,trivial⟩ ⟨rfl,rfl,rfl,trivial⟩ rfl rfl rfl rfl rfl rfl,by show r.body.length - (k + 1) < r.body.length - k;omega⟩)
      | (have hL:liftN r.fold r.body[k]=0:=by rw [hNf,if_neg (by omega)]
         rw [hlit,hL,Int.add_zero,if_neg (by omega)] at e2
         exact⟨(k + 1,lv2,rose2),⟨by dsimp only;omega,e2,e3.more (by omega)⟩,ent_ren id ⟨rfl,rfl,rfl,rfl,rfl,rfl,rfl,trivial⟩ ⟨rfl,rfl,rfl,trivial⟩ rfl rfl rfl rfl rfl rfl,by show r.body.length - (k + 1) < r.body.length - k;omega⟩)
   ·rw [show r.body.drop k=[] from List.drop_of_length_le (by omega)] at e2
    repeat' (first|refine z0 ?_|refine z12 ?_|apply ds_nil|(apply ds_stP;exact rfl;exact rfl;(apply hv_get;(omega));exact rfl;exact rfl;(exact hv_set rfl);exact rfl;exact rfl;exact rfl;exact rfl;exact rfl;exact rfl)|apply dw_seq2|refine z16 ?_|apply dw_block|apply dw_skip|apply dw_exit|refine z18 ?_|apply thenD_n|apply thenD_e|apply inB_n|refine z17 ?_|refine z1 ?_|refine z3 ?_|(refine z23 ?_ ?_ <;> intro hg)|((fail_if_success (apply ds_known;exact rfl));apply ds_guardP;exact rfl;exact rfl;exact rfl;all_goals intro hg))
    all_goals try (exfalso;omega)
    exact⟨(i + 1,lv2,rose2),⟨by dsimp only;omega,e2,e3.more (by omega)⟩,ent_ren id ⟨rfl,rfl,rfl,rfl,rfl,trivial⟩ ⟨rfl,rfl,trivial⟩ rfl rfl rfl rfl rfl rfl,by show p.rules.length - (i + 1) < p.rules.length - i;omega⟩
  ·rw [List.drop_of_length_le (by omega)] at f2
   have f2:lvRound p.rules lv0=lv1:=f2
   repeat' (first|refine z0 ?_|apply ds_nil|apply dw_seq2|refine z16 ?_|apply dw_block|apply dw_skip|apply dw_exit|apply thenD_n|apply thenD_e|apply inB_n|refine z17 ?_|refine z1 ?_|refine z3 ?_|(refine z23 ?_ ?_ <;> intro hg)|fail)
   all_goals try (exfalso;omega)
   have hsucc:=lvIter_succ p.rules n (zeros p.arity.length)
   rw [← g2,f2] at hsucc
   refine⟨(n + 1,lv1,rose1),⟨by dsimp only;omega,hsucc.symm,by dsimp only;rw [← f3.1.1];exact g3,fun v hv=>by have:=f3.2.2.2 v hv;dsimp only;omega,fun m hm=>?_⟩,ent_ren id ⟨rfl,rfl,rfl,rfl,trivial⟩ ⟨rfl,rfl,trivial⟩ rfl rfl rfl rfl rfl rfl,by show p.arity.length + 1 - (n + 1) < p.arity.length + 1 - n;omega⟩
   cases hm
   dsimp only
   rw [hsucc,← g2]
   cases rose1 with
   | true=>rw [decide_eq_false (f3.2.2.1 rfl)];rfl
   | false=>rw [decide_eq_true (f3.2.1 rfl)];rfl
 ·have hne:n=p.arity.length + 1:=by omega
  subst hne
  have hro:=g5 _ rfl
  repeat' (first|refine z0 ?_|apply ds_nil|apply dw_seq2|refine z16 ?_|apply dw_block|apply dw_skip|apply dw_exit|apply thenD_n|apply thenD_e|refine z17 ?_|(refine z23 ?_ ?_ <;> intro hg)|fail)
  all_goals try (exfalso;omega)
  refine dw_ent (ent_seal 2 rfl rfl rfl) ?_
  repeat' (apply dw_ret)
  have hd:docOk p = !rose:=by
   rw [hro,Bool.not_not,lvIter_succ]
   rfl
  refine ret_2 rfl ⟨by rw [g2];rfl,by rw [hd]⟩
end Go.Proofs.YtapciiffpnociacGreat

/- The document's ModelOf. Condition: none. -/
namespace Go.Proofs.YtapciiffpnociacGreat
open Go Go.RowKit
theorem setF_self {l:List Fct} (h:Strict l):setF' l=l:=strict_ext (setF_spec l).1 h (setF_spec l).2
structure HdOk (p:Prg) (lv:List Int) (n:Nat) (S hs:List Fct) (i:Nat):Prop where
 src:∀ x∈hs,∃ r∈p.rules,lv.getD r.pred.toNat 0=n∧x∈hdW S r
 all:∀ j (hj:j < p.rules.length),j < i→lv.getD (p.rules[j]).pred.toNat 0=n→manyW S p.rules[j]=true∧∀ x∈hdW S p.rules[j],x∈hs
 len:hs.length≤2000 * i
attribute [local irreducible] DW DS DL DQ Ev FnOk FnP thenD inBlockD DT
set_option maxHeartbeats 8000000 in
theorem modelOf_fn (p:Prg) (l:List Fct) (ho:MOk p l) :
  Fn 65 [elPrg p,.d (.slice 2 (l.map encFct))]
   (fun r=>∃ (m:List Fct) (b:Bool),r = .tup [.d (.slice 2 (m.map encFct)),.d (.bool b)]∧((b=true∧RunTo p (docLv p) l p.arity.length m)∨(b=false∧m=[]∧¬ ∃ m,RunTo p (docLv p) l p.arity.length m))):=by
 refine fnp_enter' _ Tryz.func65 rfl rfl (by kernel_rfl) ?_
 intro O w0 E0 β0
 have hp:=ho.pr
 have hlv:=ho.fit
 have hll:=ho.len
 have la:(p.arity.map encI).length=p.arity.length:=List.length_map _
 have lr:(p.rules.map encRul).length=p.rules.length:=List.length_map _
 have hal:=hp.alen
 have hrl:=hp.rlen
 have w1:=levelsOf_fn p (progE_ok ho.prog)
 have w2:=setOf_fn l (by omega)
 generalize docLv p=lv at *
 have llv:(lv.map encI).length=lv.length:=List.length_map _
 repeat' (first|refine z0 ?_|apply ds_nil|apply dw_seq2|refine z16 ?_|apply dw_block|apply thenD_n|refine z21 ?_ (hc:=by apply w1)|refine z21 ?_ (hc:=by apply w2)|refine z1 ?_|fail)
 refine ds_loop (ι:=Nat × List Fct) (fun c=>⟨1,[(2,.loc 0 0),(6,.d (.slice 1 (lv.map encI))),(8,.d (.slice 2 (c.2.map encFct))),(9,.d (.int .i64 c.1))],
   [(0,.blk 26 [.d (.slice 1 (p.arity.map encI)),.d (.slice 1 (p.names.map encT)),.d (.slice 5 (p.rules.map encRul))])]⟩)
  (fun c=>c.1≤p.arity.length∧RunTo p lv l c.1 c.2) (fun c=>p.arity.length - c.1) (0,setF' l) ⟨Nat.zero_le _,rfl⟩
  (ent_ren id ⟨rfl,rfl,rfl,rfl,trivial⟩ ⟨rfl,trivial⟩ rfl rfl rfl rfl rfl rfl) ?_
 rintro⟨n,m0⟩ ⟨g1,g2⟩
 dsimp only at g1 g2 ⊢
 obtain⟨s1,s2,s3,s4⟩:=RunTo.ok ho.facts ho.len g2
 have hV:=lvV_ok hp hlv n m0
 by_cases hn:n < p.arity.length
 ·clear w1 w2
  repeat' (first|refine z0 ?_|apply ds_nil|apply dw_seq2|refine z16 ?_|apply dw_block|apply dw_skip|apply dw_exit|apply dw_ret|apply thenD_n|apply thenD_e|refine z17 ?_|(refine z23 ?_ ?_ <;> intro hg)|fail)
  all_goals try (exfalso;omega)
  refine ds_loop (ι:=Int × List Fct) (fun c=>⟨1,[(2,.loc 0 0),(6,.d (.slice 1 (lv.map encI))),(8,.d (.slice 2 (c.2.map encFct))),(9,.d (.int .i64 n)),(10,.d (.int .i64 c.1))],
    [(0,.blk 26 [.d (.slice 1 (p.arity.map encI)),.d (.slice 1 (p.names.map encT)),.d (.slice 5 (p.rules.map encRul))])]⟩)
   (fun c=>InvM (lvV p lv n m0) m0 c.2∧(c.1 = -1∨∃ S1,c.1=(S1.length:Int)∧Strict S1∧(∀ x∈S1,x∈c.2)∧∀ r∈(lvV p lv n m0).rs,manyW S1 r=true∧∀ x∈hdW S1 r,x∈c.2)) (fun c=>2 * (61 - c.2.length) + if c.1 < c.2.length then 1 else 0) (-1,m0) ⟨inv_first s1 ⟨s3,fun _ _=>Iff.rfl⟩ s2,.inl rfl⟩
   (ent_ren id ⟨rfl,rfl,rfl,rfl,rfl,trivial⟩ ⟨rfl,trivial⟩ rfl rfl rfl rfl rfl rfl) ?_
  rintro⟨many,S⟩ ⟨q1,q2⟩
  dsimp only at q1 q2 ⊢
  have lS:(S.map encFct).length=S.length:=List.length_map _
  have hS60:=q1.len
  repeat' ((fail_if_success (apply dw_stopS 10));(first|refine z0 ?_|apply ds_nil|apply dw_seq2|refine z16 ?_|apply dw_block|apply dw_skip|apply dw_exit|apply thenD_n|apply thenD_e|apply inB_n|refine z17 ?_|(refine z23 ?_ ?_ <;> intro hg)|fail))
  ·refine dw_ent (ent_nilrow (t:=11) 48 2 rfl) ?_
   repeat' (first|refine z0 ?_|apply ds_nil|apply dw_seq2|refine z16 ?_|apply dw_block|apply thenD_n)
   refine ds_loop (ι:=Nat × List Fct) (fun c=>⟨2,[(2,.loc 0 0),(6,.d (.slice 1 (lv.map encI))),(8,.d (.slice 2 (S.map encFct))),(9,.d (.int .i64 n)),(10,.d (.int .i64 S.length)),(11,.row 1),(12,.d (.int .i64 c.1))],
     [(0,.blk 26 [.d (.slice 1 (p.arity.map encI)),.d (.slice 1 (p.names.map encT)),.d (.slice 5 (p.rules.map encRul))]),(1,.row 48 2 (c.2.map encFct))]⟩)
    (fun c=>c.1≤p.rules.length∧HdOk p lv n S c.2 c.1) (fun c=>p.rules.length - c.1) (0,[]) ⟨Nat.zero_le _,⟨fun x hx=>by simp at hx,fun j _ h=>absurd h (Nat.not_lt_zero j),by simp⟩⟩
    (ent_ren id ⟨rfl,rfl,rfl,rfl,by rw [← lS];rfl,rfl,rfl,trivial⟩ ⟨rfl,rfl,trivial⟩ rfl rfl rfl rfl rfl rfl) ?_
   rintro⟨i,hs⟩ ⟨r1,r2⟩
   dsimp only at r1 r2 ⊢
   have lhs:(hs.map encFct).length=hs.length:=List.length_map _
   have hsl:=r2.len
   by_cases hi:i < p.rules.length
   ·have hr:=hp.rul _ (List.getElem_mem hi)
    have hpr:=hr.pred
    have hlvl:=hlv.len
    have hgd:lv.getD (p.rules[i]).pred.toNat 0=lv[(p.rules[i]).pred.toNat]'(by omega):=by rw [List.getD,List.getElem?_eq_getElem (by omega)];rfl
    have hok:=raw_ok hr hp.ar q1.a.1 q1.strict.nodup
    have hSS:=setF_self q1.strict
    have w1:=waysOf_fn S p.rules[i] hS60 (by rw [hSS];exact rulS_mk hr hp.ar q1.a.1)
    rw [hSS] at w1
    have w2:=headsOf_fn p.arity p.rules[i] (rawW S p.rules[i]) hok
    have hhl:(setF' (headsD p.rules[i] (rawW S p.rules[i]))).length≤2000:=by
     refine Nat.le_trans (setF_lenle _) ?_
     rw [headsD_eq]
     exact Nat.le_trans (List.length_filterMap_le _ _) hok.many
    have lhd:((setF' (headsD p.rules[i] (rawW S p.rules[i]))).map encFct).length=(setF' (headsD p.rules[i] (rawW S p.rules[i]))).length:=List.length_map _
    by_cases hlev:lv.getD (p.rules[i]).pred.toNat 0=n
    ·have hrs:p.rules[i]∈(lvV p lv n m0).rs:=List.mem_filter.2 ⟨List.getElem_mem hi,decide_eq_true hlev⟩
     rw [hgd] at hlev
     cases hmm:manyW S p.rules[i] with
     | false =>
      rw [hmm] at w1
      clear w2
      repeat' (first|refine z0 ?_|apply ds_nil|apply dw_seq2|refine z16 ?_|apply dw_block|apply dw_skip|apply dw_exit|refine z18 ?_|apply thenD_n|apply thenD_e|refine z17 ?_|refine z21 ?_ (hc:=by apply w1)|(refine z23 ?_ ?_ <;> intro hg)|fail)
      all_goals try (exfalso;omega)
      refine dw_ent (ent_nild 4 2 rfl) ?_
      repeat' (first|apply dw_ret|apply thenD_r|apply inB_r)
      exact⟨.inl rfl,_,rfl,rfl,[],false,rfl,.inr ⟨rfl,rfl,run_none hn g2 (no_many hV q1 hrs hmm)⟩⟩
     | true =>
      rw [hmm] at w1
      repeat' (first|refine z0 ?_|apply ds_nil|apply dw_seq2|refine z16 ?_|apply dw_block|apply dw_skip|apply dw_exit|refine z19 ?_|apply thenD_n|apply thenD_e|apply inB_n|refine z17 ?_|refine z21 ?_ (hc:=by apply w1)|refine z21 ?_ (hc:=by apply w2)|refine z2 ?_|(refine z23 ?_ ?_ <;> intro hg)|fail)
      all_goals try (exfalso;omega)
      refine⟨(i + 1,hs++hdW S p.rules[i]),⟨hi,fun x hx=>?_,fun j hj hji hl=>?_,?_⟩,ent_ren (fun j=>match j with|1=>2|j=>j) ⟨rfl,rfl,rfl,rfl,rfl,rfl,rfl,trivial⟩ ⟨rfl,by dsimp only;rw [List.map_append];rfl,trivial⟩ rfl rfl rfl rfl rfl rfl,by dsimp only;omega⟩
      ·rcases List.mem_append.1 hx with hx|hx
       ·exact r2.src x hx
       ·exact⟨_,List.getElem_mem hi,hgd.trans hlev,hx⟩
      ·by_cases he:j=i
       ·subst he
        exact⟨hmm,fun x hx=>List.mem_append_right _ hx⟩
       ·obtain⟨a1,a2⟩:=r2.all j hj (by omega) hl
        exact⟨a1,fun x hx=>List.mem_append_left _ (a2 x hx)⟩
      ·dsimp only
       rw [List.length_append]
       show hs.length + (setF' (headsD p.rules[i] (rawW S p.rules[i]))).length≤_
       omega
    ·rw [hgd] at hlev
     clear w1 w2
     repeat' (first|refine z0 ?_|apply ds_nil|apply dw_seq2|refine z16 ?_|apply dw_block|apply dw_skip|apply dw_exit|apply thenD_n|apply thenD_e|refine z17 ?_|(refine z23 ?_ ?_ <;> intro hg)|fail)
     all_goals try (exfalso;omega)
     exact⟨(i + 1,hs),⟨hi,r2.src,fun j hj hji hl=>by
      by_cases he:j=i
      ·subst he;exact absurd (hgd.symm.trans hl) hlev
      ·exact r2.all j hj (by omega) hl,by dsimp only;omega⟩,ent_ren id ⟨rfl,rfl,rfl,rfl,rfl,rfl,rfl,trivial⟩ ⟨rfl,rfl,trivial⟩ rfl rfl rfl rfl rfl rfl,by dsimp only;omega⟩
   ·have hil:i=p.rules.length:=by omega
    subst hil
    have hHn:=setF_spec (minusL hs S)
    have hHl:(setF' (minusL hs S)).length≤hs.length:=Nat.le_trans (setF_lenle _) (List.length_filter_le _ _)
    have w3:=minusOf_fn hs S (by omega)
    have w4:=unionOf_fn S (setF' (minusL hs S)) (by omega)
    have lH:((setF' (minusL hs S)).map encFct).length=(setF' (minusL hs S)).length:=List.length_map _
    have hsrc:∀ x∈setF' (minusL hs S),∃ r∈(lvV p lv n m0).rs,∃ m',InvM (lvV p lv n m0) m0 m'∧x∈(lvV p lv n m0).hd m' r:=by
     intro x hx
     obtain⟨r,a1,a2,a3⟩:=r2.src x (List.mem_filter.1 ((hHn.2 x).1 hx)).1
     exact⟨r,List.mem_filter.2 ⟨a1,decide_eq_true a2⟩,S,q1,a3⟩
    repeat' (first|refine z0 ?_|apply ds_nil|apply dw_seq2|refine z16 ?_|apply dw_block|apply dw_skip|apply dw_exit|apply thenD_n|apply thenD_e|refine z17 ?_|(refine z23 ?_ ?_ <;> intro hg)|fail)
    all_goals try (exfalso;omega)
    refine ds_ent (ent_seal 74 rfl rfl rfl) ?_
    repeat' (first|refine z0 ?_|apply ds_nil|apply dw_seq2|refine z16 ?_|apply dw_skip|apply thenD_n|apply inB_n|refine z21 ?_ (hc:=by apply w3)|refine z21 ?_ (hc:=by apply w4)|(refine z23 ?_ ?_ <;> intro hg)|fail)
    all_goals try (exfalso;omega)
    ·refine dw_ent (ent_nild 4 2 rfl) ?_
     repeat' (first|apply dw_ret|apply thenD_r|apply inB_r)
     refine⟨.inl rfl,_,rfl,rfl,[],false,rfl,.inr ⟨rfl,rfl,run_none hn g2 (no_room hV q1 hsrc hHn.1.nodup (fun x hx hxS=>?_) (by omega))⟩⟩
     have:=(List.mem_filter.1 ((hHn.2 x).1 hx)).2
     rw [hasF_iff.2 hxS] at this
     cases this
    ·have hU:=setF_spec (S++setF' (minusL hs S))
     have hUl:=setF_lenle (S++setF' (minusL hs S))
     rw [List.length_append] at hUl
     have hinv:=inv_put hV q1 hsrc (by omega)
     have hle:S.length≤(setF' (S++setF' (minusL hs S))).length:=nodup_len q1.strict.nodup fun x hx=>(hU.2 x).2 (List.mem_append_left _ hx)
     have hl60:=hinv.len
     refine⟨((S.length:Int),setF' (S++setF' (minusL hs S))),⟨hinv,.inr ⟨S,rfl,q1.strict,fun x hx=>(hU.2 x).2 (List.mem_append_left _ hx),fun r hr=>?_⟩⟩,ent_ren id ⟨rfl,rfl,rfl,rfl,rfl,trivial⟩ ⟨rfl,trivial⟩ rfl rfl rfl rfl rfl rfl,?_⟩
     ·obtain⟨hm,hl⟩:=List.mem_filter.1 hr
      obtain⟨j,hj,rfl⟩:=List.mem_iff_getElem.1 hm
      obtain⟨a1,a2⟩:=r2.all j hj hj (of_decide_eq_true hl)
      refine⟨a1,fun x hx=>(hU.2 x).2 ?_⟩
      by_cases hxS:hasF S x=true
      ·exact List.mem_append_left _ (hasF_iff.1 hxS)
      ·exact List.mem_append_right _ ((hHn.2 x).2 (List.mem_filter.2 ⟨a2 x hx,by simpa using hxS⟩))
     ·dsimp only
      rw [if_pos (by omega:many < (S.length:Int))]
      split <;> omega
  ·rcases q2 with q2|⟨S1,e1,e2,e3,e4⟩
   ·exfalso;omega
   ·have he:=same_len e2 q1.strict e3 (by omega)
    subst he
    exact⟨(n + 1,S1),⟨hn,m0,g2,fit_done q1 (fun r hr=>(e4 r hr).1) fun r hr=>(e4 r hr).2⟩,ent_ren id ⟨rfl,rfl,rfl,rfl,trivial⟩ ⟨rfl,trivial⟩ rfl rfl rfl rfl rfl rfl,by dsimp only;omega⟩
 ·have hnn:n=p.arity.length:=by omega
  subst hnn
  repeat' (first|refine z0 ?_|apply ds_nil|apply dw_seq2|refine z16 ?_|apply dw_block|apply dw_skip|apply dw_exit|apply dw_ret|apply thenD_n|apply thenD_e|refine z17 ?_|(refine z23 ?_ ?_ <;> intro hg)|fail)
  all_goals try (exfalso;omega)
  exact⟨.inl rfl,_,rfl,rfl,m0,true,rfl,.inl ⟨rfl,g2⟩⟩
end Go.Proofs.YtapciiffpnociacGreat

/- The document's CheckModel, FullModel; the law's factsAre. Condition: none. -/
namespace Go.Proofs.YtapciiffpnociacGreat
open Go Go.RowKit
attribute [local irreducible] DW DS DL DQ Ev FnOk FnP thenD inBlockD DT
set_option maxHeartbeats 8000000 in
theorem checkModel_fn (p:Prg) (l:List Fct):Fn 24 [elPrg p,.d (.slice 2 (l.map encFct))] (fun r=>r = .d (.int .i64 (mErr p l))):=by
 refine fnp_enter' _ Tryz.func24 rfl rfl (by kernel_rfl) ?_
 intro O w0 E0 β0
 have w1:=rcheck_fn p
 have w3:=checkFacts_fn p l
 unfold mErr
 by_cases h0:progE nameR p=0
 ·have w2:=levelsOf_fn p (progE_ok h0)
  rw [h0] at w1 ⊢
  rw [if_neg (by simp)]
  cases hd:docOk p with
  | true =>
   rw [hd] at w2
   rw [if_neg (by simp)]
   repeat' (first|refine z0 ?_|apply ds_nil|apply dw_seq2|refine z16 ?_|apply dw_skip|apply dw_ret|refine z19 ?_|apply thenD_n|refine z21 ?_ (hc:=by apply w1)|refine z21 ?_ (hc:=by apply w2)|refine z21 ?_ (hc:=by apply w3)|refine z1 ?_|fail)
   all_goals try (exfalso;omega)
   exact⟨.inl rfl,_,rfl,rfl,rfl⟩
  | false =>
   rw [hd] at w2
   rw [if_pos rfl]
   repeat' (first|refine z0 ?_|apply ds_nil|apply dw_seq2|refine z16 ?_|apply dw_skip|apply dw_ret|refine z18 ?_|refine z19 ?_|apply thenD_n|apply thenD_r|refine z21 ?_ (hc:=by apply w1)|refine z21 ?_ (hc:=by apply w2)|refine z1 ?_|fail)
   all_goals try (exfalso;omega)
   exact⟨.inl rfl,_,rfl,rfl,rfl⟩
 ·rw [if_pos h0]
  generalize progE nameR p=e at *
  clear w3
  repeat' (first|refine z0 ?_|apply ds_nil|apply dw_seq2|refine z16 ?_|apply dw_skip|apply dw_ret|apply thenD_n|apply thenD_r|refine z21 ?_ (hc:=by apply w1)|refine z1 ?_|(refine z23 ?_ ?_ <;> intro hg)|fail)
  all_goals try (exfalso;omega)
  exact⟨.inl rfl,_,rfl,rfl,rfl⟩
set_option maxHeartbeats 8000000 in
theorem fullModel_fn (p:Prg) (l:List Fct) (e:Int) (m:List Fct) (hm:ModelR p l e m):Fn 23 [elPrg p,.d (.slice 2 (l.map encFct))] (fun r=>r = .tup [.d (.slice 2 (m.map encFct)),.d (.int .i64 e)]):=by
 refine fnp_enter' _ Tryz.func23 rfl rfl (by kernel_rfl) ?_
 intro O w0 E0 β0
 have w1:=checkModel_fn p l
 by_cases h0:mErr p l=0
 ·rw [h0] at w1
  have w2:=modelOf_fn p l (mOk h0)
  repeat' (first|refine z0 ?_|apply ds_nil|apply dw_seq2|refine z16 ?_|apply dw_skip|refine z19 ?_|apply thenD_n|refine z21 ?_ (hc:=by apply w1)|refine z1 ?_|fail)
  all_goals try (exfalso;omega)
  apply ds_call;exact rfl;exact rfl;exact w2;exact rfl;exact rfl;exact rfl
  rintro _ ⟨m',b,rfl,⟨rfl,q1⟩|⟨rfl,rfl,q1⟩⟩
  ·obtain⟨he,hx'⟩:=hm.unique (.ok m' h0 q1)
   subst he
   subst hx'
   clear w1 w2
   repeat' (first|refine z0 ?_|apply ds_nil|apply dw_seq2|refine z16 ?_|apply dw_skip|apply dw_ret|refine z19 ?_|apply thenD_n)
   all_goals try (exfalso;omega)
   exact⟨.inl rfl,_,rfl,rfl,rfl⟩
  ·obtain⟨he,hx'⟩:=hm.unique (.much h0 q1)
   subst he
   subst hx'
   clear w1 w2
   repeat' (first|refine z0 ?_|apply ds_nil|apply dw_seq2|refine z16 ?_|refine z18 ?_|apply thenD_n)
   all_goals try (exfalso;omega)
   refine dw_ent (ent_nild 4 2 rfl) ?_
   repeat' (first|apply dw_ret|apply thenD_r)
   exact⟨.inl rfl,_,rfl,rfl,rfl⟩
 ·obtain⟨he,hx'⟩:=hm.unique (.bad h0)
  subst he
  subst hx'
  generalize mErr p l=e at *
  repeat' (first|refine z0 ?_|apply ds_nil|apply dw_seq2|refine z16 ?_|apply dw_skip|apply thenD_n|refine z21 ?_ (hc:=by apply w1)|refine z1 ?_|(refine z23 ?_ ?_ <;> intro hg)|fail)
  all_goals try (exfalso;omega)
  refine dw_ent (ent_nild 4 2 rfl) ?_
  repeat' (first|apply dw_ret|apply thenD_r)
  exact⟨.inl rfl,_,rfl,rfl,rfl⟩
end Go.Proofs.YtapciiffpnociacGreat

/- Plain words: lists that are held against each other. Condition: none. -/
namespace Go.Proofs.YtapciiffpnociacGreat
theorem sameL_iff {α:Type} {p:α→α→Bool} (hp:∀ x y,p x y=true↔x=y):∀ {a b:List α},sameL p a b=true↔a=b
 | [],[]=>by simp [sameL]
 | [],_::_=>by simp [sameL]
 | _::_,[]=>by simp [sameL]
 | x::a,y::b=>by
  unfold sameL
  rw [Bool.and_eq_true,hp,sameL_iff hp,List.cons.injEq]
theorem fsame_iff (x y:Fct):Fct.same x y=true↔x=y:=by
 unfold Fct.same
 rw [decide_eq_true_eq]
 exact⟨ordF_eq0,fun h=>by rw [h];exact ordF_self y⟩
end Go.Proofs.YtapciiffpnociacGreat

/- The law's begun run of models; the law ModelTells. Condition: none. -/
namespace Go.Proofs.YtapciiffpnociacGreat
open Go Go.RowKit
def smallQ:Rul:=⟨1,[⟨0,0⟩,⟨1,0⟩],0,[⟨1,0,0,[⟨0,0⟩,⟨1,0⟩]⟩],2⟩
theorem smallP_rules:smallP.rules=[smallQ,smallR]:=rfl
theorem small_doc:docOk smallP=true:=by kernel_rfl
theorem small_lv:docLv smallP=[0,0]:=by kernel_rfl
theorem small_err:mErr smallP pairsF=0:=by
 unfold mErr
 rw [if_neg (by rw [show progE nameR smallP=0 by kernel_rfl];simp),if_neg (by rw [small_doc];simp)]
 kernel_rfl
theorem one_way {S:List Fct} {r:Rul} {o:List (List Int)} (h:fromE S r.body (yesOf r.body) (e0 r.vars.toNat)=o) (hs:SortW o) (hl:o.length≤2000):manyW S r=true∧rawW S r=o:=by
 have hw:waysL S r.vars.toNat r.body=o:=(waysL_eq hs (by rw [h])).symm
 have hm:manyW S r=true:=by unfold manyW;rw [hw];exact decide_eq_true hl
 exact⟨hm,by unfold rawW;rw [if_pos hm,hw]⟩
theorem sortW_two {a b:List Int} (h:ordL a b≤0):SortW [a,b]:=List.pairwise_cons.2 ⟨fun x hx=>by rw [List.mem_singleton] at hx;subst hx;exact h,List.pairwise_singleton _ _⟩
def midF:List Fct:=[⟨0,[1,2]⟩,⟨0,[2,3]⟩,⟨1,[1,2]⟩,⟨1,[2,3]⟩]
theorem q_pairs:manyW pairsF smallQ=true∧rawW pairsF smallQ=[[1,2],[2,3]]:=one_way (by kernel_rfl) (sortW_two (by decide)) (by simp)
theorem q_full:manyW fullF smallQ=true∧rawW fullF smallQ=[[1,2],[2,3]]:=one_way (by kernel_rfl) (sortW_two (by decide)) (by simp)
theorem r_mid:manyW midF smallR=true∧rawW midF smallR=[[1,2,3]]:=one_way (by kernel_rfl) (List.pairwise_singleton _ _) (by simp)
theorem r_full:manyW fullF smallR=true∧rawW fullF smallR=[[1,2,3]]:=one_way (by kernel_rfl) (List.pairwise_singleton _ _) (by simp)
theorem small_fct:∀ x∈fullF,FctOk smallP.arity x:=by
 intro x hx
 have:firstL (factE smallP.arity) fullF=0:=by kernel_rfl
 exact factE_ok (firstL_all0 this x hx)
theorem small_strict:Strict fullF:=by
 have:=(setF_spec fullF).1
 rw [show setF' fullF=fullF by kernel_rfl] at this
 exact this
theorem small_model:ModelR smallP pairsF 0 fullF:=by
 have ho:=mOk small_err
 have hV:=lvV_ok ho.pr ho.fit 0 pairsF
 have hset0:setF' pairsF=pairsF:=by kernel_rfl
 have hst0:Strict pairsF:=by
  have:=(setF_spec pairsF).1
  rw [hset0] at this
  exact this
 have i0:InvM (lvV smallP (docLv smallP) 0 pairsF) pairsF pairsF:=inv_first hst0 ⟨ho.facts,fun _ _=>Iff.rfl⟩ (by decide)
 have hQ:smallQ∈(lvV smallP (docLv smallP) 0 pairsF).rs:=List.mem_filter.2 ⟨by rw [smallP_rules];simp,by rw [small_lv];decide⟩
 have hR:smallR∈(lvV smallP (docLv smallP) 0 pairsF).rs:=List.mem_filter.2 ⟨by rw [smallP_rules];simp,by rw [small_lv];decide⟩
 have hq:hdW pairsF smallQ=[⟨1,[1,2]⟩,⟨1,[2,3]⟩]:=by unfold hdW;rw [q_pairs.2];kernel_rfl
 have hr:hdW midF smallR=[⟨1,[1,3]⟩]:=by unfold hdW;rw [r_mid.2];kernel_rfl
 have hqf:hdW fullF smallQ=[⟨1,[1,2]⟩,⟨1,[2,3]⟩]:=by unfold hdW;rw [q_full.2];kernel_rfl
 have hrf:hdW fullF smallR=[⟨1,[1,3]⟩]:=by unfold hdW;rw [r_full.2];kernel_rfl
 have i1:=inv_put hV i0 (H:=[⟨1,[1,2]⟩,⟨1,[2,3]⟩]) (fun x hx=>⟨smallQ,hQ,pairsF,i0,by show x∈hdW pairsF smallQ;rw [hq];exact hx⟩) (by decide)
 rw [show setF' (pairsF++[⟨1,[1,2]⟩,⟨1,[2,3]⟩])=midF by kernel_rfl] at i1
 have i2:=inv_put hV i1 (H:=[⟨1,[1,3]⟩]) (fun x hx=>⟨smallR,hR,midF,i1,by show x∈hdW midF smallR;rw [hr];exact hx⟩) (by decide)
 rw [show setF' (midF++[⟨1,[1,3]⟩])=fullF by kernel_rfl] at i2
 have hfit0:Fit (lvV smallP (docLv smallP) 0 pairsF) pairsF fullF:=by
  have key:∀ r∈(lvV smallP (docLv smallP) 0 pairsF).rs,manyW fullF r=true∧∀ x∈hdW fullF r,x∈fullF:=by
   intro r hr'
   have hm:=(List.mem_filter.1 hr').1
   rw [smallP_rules] at hm
   simp only [List.mem_cons,List.not_mem_nil,or_false] at hm
   rcases hm with rfl|rfl
   ·refine⟨q_full.1,fun x hx=>?_⟩
    rw [hqf] at hx
    simp only [List.mem_cons,List.not_mem_nil,or_false] at hx
    rcases hx with rfl|rfl <;> simp [fullF]
   ·refine⟨r_full.1,fun x hx=>?_⟩
    rw [hrf] at hx
    simp only [List.mem_cons,List.not_mem_nil,or_false] at hx
    subst hx
    simp [fullF]
  exact fit_done i2 (fun r hr=>(key r hr).1) fun r hr=>(key r hr).2
 have hfit1:Fit (lvV smallP (docLv smallP) 1 fullF) fullF fullF:=by
  have hno:∀ r∈(lvV smallP (docLv smallP) 1 fullF).rs,False:=by
   intro r hr'
   obtain⟨hm,hl⟩:=List.mem_filter.1 hr'
   rw [smallP_rules] at hm
   simp only [List.mem_cons,List.not_mem_nil,or_false] at hm
   rw [small_lv] at hl
   rcases hm with rfl|rfl <;> exact absurd (of_decide_eq_true hl) (by decide)
  exact fit_done (inv_first small_strict ⟨small_fct,fun _ _=>Iff.rfl⟩ (by decide)) (fun r hr=>(hno r hr).elim) fun r hr=>(hno r hr).elim
 refine .ok fullF small_err ⟨fullF,⟨pairsF,?_,?_⟩,?_⟩
 ·show pairsF=setF' pairsF
  exact hset0.symm
 ·exact hfit0
 ·exact hfit1
attribute [local irreducible] DW DS DL DQ Ev FnOk FnP thenD inBlockD DT
set_option maxHeartbeats 8000000 in
theorem modelBegun_fn:Fn 26 [] (fun r=>r = .d (.bool true)):=by
 refine fnp_enter' _ Tryz.func26 rfl rfl (by kernel_rfl) ?_
 intro O w0 E0 β0
 have h1:=lsmall_fn
 have h2:=lpairs_fn
 have h3:=lfull_fn
 have h4:=model_fn smallP pairsF 0 fullF small_model
 have h5:=mis_fn smallP pairsF fullF 0 fullF small_model
 rw [show isE smallP pairsF fullF 0=0 by unfold isE;rw [if_neg (by rw [small_err];simp),if_neg (by rw [show factsE smallP.arity fullF=0 by kernel_rfl];simp)]] at h5
 rw [show (decide ((0:Int)=0) && sameL Fct.same fullF (setF' fullF))=true by kernel_rfl] at h5
 have h6:=mis_fn smallP pairsF (fullF.drop 1) 0 fullF small_model
 rw [show isE smallP pairsF (fullF.drop 1) 0=0 by unfold isE;rw [if_neg (by rw [small_err];simp),if_neg (by rw [show factsE smallP.arity (fullF.drop 1)=0 by kernel_rfl];simp)]] at h6
 rw [show (decide ((0:Int)=0) && sameL Fct.same fullF (setF' (fullF.drop 1)))=false by kernel_rfl] at h6
 have h7:=ask_fn smallP pairsF 1 [1,0] [true] 0 fullF small_model
 rw [if_pos rfl,show setF' (matchL fullF 1 [1,0] [true])=[⟨1,[1,2]⟩,⟨1,[1,3]⟩] by kernel_rfl] at h7
 have h8:=sameFacts_fn fullF fullF
 rw [sameF_eq] at h8
 have h9:=sameFacts_fn [⟨1,[1,2]⟩,⟨1,[1,3]⟩] [⟨1,[1,2]⟩,⟨1,[1,3]⟩]
 rw [sameF_eq] at h9
 have lf:(fullF.map encFct).length=5:=rfl
 have lf2:fullF.length=5:=rfl
 repeat' (first|(apply ds_slD;exact rfl;exact rfl;exact rfl;exact rfl;exact rfl;exact rfl;(refine⟨?_,?_,?_⟩ <;> (omega));(first|((with_reducible apply hv_drop);(exact nat_add_1 _))|exact rfl);exact rfl;exact rfl)|refine z0 ?_|apply ds_nil|apply dw_seq2|refine z16 ?_|apply dw_ret|apply thenD_n|refine z21 ?_ (hc:=by apply h1)|refine z21 ?_ (hc:=by apply h2)|refine z21 ?_ (hc:=by apply h3)|refine z21 ?_ (hc:=by apply h4)|refine z21 ?_ (hc:=by apply h5)|refine z21 ?_ (hc:=by apply h6)|refine z21 ?_ (hc:=by apply h7)|refine z21 ?_ (hc:=by apply h8)|refine z21 ?_ (hc:=by apply h9)|refine z4 ?_|fail)
 exact⟨.inl rfl,_,rfl,rfl,rfl⟩
end Go.Proofs.YtapciiffpnociacGreat

/- The law ModelClosed. Condition: none. -/
namespace Go.Proofs.YtapciiffpnociacGreat
open Go Go.RowKit
theorem factE_zero {arity:List Int} {x:Fct} (h:FctOk arity x):factE arity x=0:=by
 unfold factE
 have hp:=h.pred
 have h1:inR x.pred 0 ((arity.length:Int) - 1)=true:=by unfold inR;simp;omega
 rw [if_neg (by rw [h1];simp),if_neg (by simp [h.len]),if_neg]
 intro hc
 rw [List.any_eq_true] at hc
 obtain⟨n,hn,hb⟩:=hc
 rw [numB_of (h.nums n hn)] at hb
 cases hb
theorem factsE_zero {arity:List Int} {l:List Fct} (h:∀ x∈l,FctOk arity x) (hl:l.length≤60):factsE arity l=0:=by
 unfold factsE
 rw [if_neg (by omega)]
 exact z0_firstL fun x hx=>factE_zero (h x hx)
attribute [local irreducible] DW DS DL DQ Ev FnOk FnP thenD inBlockD DT
end Go.Proofs.YtapciiffpnociacGreat

/- The program's change.Between, same, Apply, Play. Condition: none. -/
namespace Go.Proofs.YtapciiffpnociacGreat
open Go Go.RowKit
def encL (l:List Fct):List D:=[.slice 2 (l.map encFct)]
abbrev elChg (came went:List Fct):SV:=.agg [.d (.slice 2 (came.map encFct)),.d (.slice 2 (went.map encFct))]
def manyF (e:Int) (x:List Fct):Int:=if e=0∧60 < x.length then 2 else e
def rightF (arity:List Int) (e:Int) (x:List Fct):Int:=if e=0 then factsE arity x else e
def putE (arity:List Int) (e:Int) (puts takes:List Fct):Int:=[puts,takes].foldl (rightF arity) ([puts,takes].foldl manyF e)
def chgE (arity:List Int) (e:Int) (was m puts takes:List Fct):Int:=if putE arity e puts takes=0∧sameL Fct.same was (setF' m)=false then 4 else putE arity e puts takes
def givenL (l puts takes:List Fct):List Fct:=setF' (setF' (minusL l takes)++puts)
theorem many_ne {e:Int} (h:e≠0) (x:List Fct):manyF e x=e:=by unfold manyF;rw [if_neg (fun hc=>h hc.1)]
theorem right_ne {arity:List Int} {e:Int} (h:e≠0) (x:List Fct):rightF arity e x=e:=by unfold rightF;rw [if_neg h]
theorem putE_ne {arity:List Int} {e:Int} (h:e≠0) (puts takes:List Fct):putE arity e puts takes=e:=by
 unfold putE
 simp only [List.foldl_cons,List.foldl_nil]
 rw [many_ne h,many_ne h,right_ne h,right_ne h]
theorem putE_zero {arity:List Int} {e:Int} {puts takes:List Fct} (h:putE arity e puts takes=0):e=0∧puts.length≤60∧takes.length≤60∧(∀ x∈puts,FctOk arity x)∧∀ x∈takes,FctOk arity x:=by
 have h0:e=0:=Classical.byContradiction fun hn=>hn ((putE_ne hn puts takes).symm.trans h)
 subst h0
 unfold putE at h
 simp only [List.foldl_cons,List.foldl_nil] at h
 by_cases h1:60 < puts.length
 ·exfalso
  rw [show manyF 0 puts=2 by unfold manyF;rw [if_pos ⟨rfl,h1⟩],many_ne (by simp),right_ne (e:=2) (by simp),right_ne (e:=2) (by simp)] at h
  cases h
 rw [show manyF 0 puts=0 by unfold manyF;rw [if_neg (fun hc=>h1 hc.2)]] at h
 by_cases h2:60 < takes.length
 ·exfalso
  rw [show manyF 0 takes=2 by unfold manyF;rw [if_pos ⟨rfl,h2⟩],right_ne (e:=2) (by simp),right_ne (e:=2) (by simp)] at h
  cases h
 rw [show manyF 0 takes=0 by unfold manyF;rw [if_neg (fun hc=>h2 hc.2)],show rightF arity 0 puts=factsE arity puts by unfold rightF;rw [if_pos rfl]] at h
 by_cases h3:factsE arity puts=0
 ·rw [h3,show rightF arity 0 takes=factsE arity takes by unfold rightF;rw [if_pos rfl]] at h
  exact⟨rfl,by omega,by omega,(factsE_ok h3).2,(factsE_ok h).2⟩
 ·rw [right_ne h3] at h
  exact absurd h h3
theorem fold_tk {α β:Type} (f:β→α→β) (e:β) {l:List α} {i:Nat} (hi:i < l.length):(l.take (i + 1)).foldl f e=f ((l.take i).foldl f e) l[i]:=by
 rw [List.take_succ_eq_append_getElem hi,List.foldl_append];rfl
attribute [local irreducible] DW DS DL DQ Ev FnOk FnP thenD inBlockD DT
set_option maxHeartbeats 8000000 in
theorem csame1_fn (a b:Fct):Fn 106 ([elFct a,elFct b]++[]) (fun r=>r = .d (.bool (Fct.same a b))):=by
 refine fnp_enter' _ Tryz.func106 rfl rfl (by kernel_rfl) ?_
 intro O w0 E0 β0
 have w1:=orderF_fn a b
 repeat' (first|refine z0 ?_|apply ds_nil|apply dw_seq2|refine z16 ?_|apply dw_ret|apply thenD_n|refine z21 ?_ (hc:=by apply w1)|refine z1 ?_|fail)
 exact ret_b rfl rfl
set_option maxHeartbeats 8000000 in
theorem csame_fn (l m:List Fct):Fn 69 [.d (.slice 2 (l.map encFct)),.d (.slice 2 (m.map encFct))] (fun r=>r = .d (.bool (sameL Fct.same l m))):=by
 refine fnp_enter' _ Tryz.func69 rfl rfl (by kernel_rfl) ?_
 intro O w0 E0 β0
 have w1:=equalFunc_fn l m csame1_fn
 repeat' (first|refine z0 ?_|apply ds_nil|apply dw_seq2|refine z16 ?_|apply dw_ret|apply thenD_n|refine z21 ?_ (hc:=by apply w1)|fail)
 exact ret_b rfl rfl
set_option maxHeartbeats 8000000 in
theorem between_fn' (m n:List Fct) (hm:m.length≤4398046511104) (hn:n.length≤4398046511104) (ha:∀ x∈m,x.args.length≤17592186044416) (hb:∀ x∈n,x.args.length≤17592186044416) :
  Fn 72 [.d (.slice 2 (m.map encFct)),.d (.slice 2 (n.map encFct))] (fun r=>r=elChg (setF' (minusL n m)) (setF' (minusL m n))):=by
 refine fnp_enter' _ Tryz.func72 rfl rfl (by kernel_rfl) ?_
 intro O w0 E0 β0
 have w1:=minus_fn n m hn hm hb ha
 have w2:=minus_fn m n hm hn ha hb
 rw [minus_same] at w1 w2
 repeat' (first|refine z0 ?_|apply ds_nil|apply dw_seq2|refine z16 ?_|apply dw_ret|apply thenD_n|refine z21 ?_ (hc:=by apply w1)|refine z21 ?_ (hc:=by apply w2)|refine z1 ?_|refine z3 ?_|fail)
 exact⟨.inl rfl,_,rfl,rfl,rfl⟩
set_option maxHeartbeats 8000000 in
theorem apply_fn (p:Prg) (l m puts takes:List Fct) (e e2:Int) (was now:List Fct) (hx:ModelR p l e was) (hy:ModelR p (givenL l puts takes) e2 now) (hm:m.length≤4398046511104) (ha:∀ x∈m,x.args.length≤17592186044416) :
  Fn 31 [elPrg p,.d (.slice 2 (l.map encFct)),.d (.slice 2 (m.map encFct)),.d (.slice 2 (puts.map encFct)),.d (.slice 2 (takes.map encFct))]
   (fun r=>r=if chgE p.arity e was m puts takes=0∧e2=0 then .tup [.d (.slice 2 ((givenL l puts takes).map encFct)),.d (.slice 2 (now.map encFct)),elChg (setF' (minusL now was)) (setF' (minusL was now)),.d (.int .i64 0)]
    else .tup [.d (.slice 2 (([]:List Fct).map encFct)),.d (.slice 2 (([]:List Fct).map encFct)),elChg [] [],.d (.int .i64 (if chgE p.arity e was m puts takes=0 then e2 else chgE p.arity e was m puts takes))]):=by
 refine fnp_enter' _ Tryz.func31 rfl rfl (by kernel_rfl) ?_
 intro O w0 E0 β0
 have w1:=model_fn p l e was hx
 have w2:=model_fn p (givenL l puts takes) e2 now hy
 repeat' (first|refine z0 ?_|apply ds_nil|apply dw_seq2|refine z16 ?_|apply dw_block|apply thenD_n|refine z21 ?_ (hc:=by apply w1)|refine z1 ?_|refine z4 ?_|fail)
 obtain⟨xs,hxs⟩:∃ xs,xs=[puts,takes]:=⟨_,rfl⟩
 have hxl:xs.length=2:=by rw [hxs];rfl
 have hxm:(xs.map encL).length=2:=by rw [List.length_map];exact hxl
 refine ds_loop (ι:=Nat) (fun i=>⟨2,[(1,.d (.slice 2 (l.map encFct))),(2,.d (.slice 2 (m.map encFct))),(3,.d (.slice 2 (puts.map encFct))),(4,.d (.slice 2 (takes.map encFct))),(5,.loc 0 0),(10,.nils),(11,.nils),(12,.loc 1 0),(14,.d (.slice 2 (was.map encFct))),(15,.d (.int .i64 ((xs.take i).foldl manyF e))),(30,.d (.slice 1 (xs.map encL))),(31,.d (.int .i64 2)),(32,.d (.int .i64 i))],
   [(1,.blk 62 [.nils,.nils]),(0,.blk 26 [.d (.slice 1 (p.arity.map encI)),.d (.slice 1 (p.names.map encT)),.d (.slice 5 (p.rules.map encRul))])]⟩)
  (fun i=>i≤2) (fun i=>2 - i) 0 (Nat.zero_le _) (ent_ren id ⟨rfl,rfl,rfl,rfl,rfl,rfl,rfl,rfl,rfl,rfl,by rw [hxs];rfl,rfl,rfl,trivial⟩ ⟨rfl,rfl,trivial⟩ rfl rfl rfl rfl rfl rfl) ?_
 intro i g1
 dsimp only at g1 ⊢
 by_cases hi:i < xs.length
 ·have hst:=fold_tk manyF e hi
  have lx:(xs[i].map encFct).length=xs[i].length:=List.length_map _
  generalize (xs.take i).foldl manyF e=ei at *
  repeat' (first|refine z0 ?_|refine z12 ?_|apply ds_nil|apply dw_seq2|refine z16 ?_|apply dw_block|apply dw_skip|apply dw_exit|refine z19 ?_|apply thenD_n|apply thenD_e|apply inB_n|refine z17 ?_|refine z4 ?_|(refine z23 ?_ ?_ <;> intro hg)|((fail_if_success (apply ds_known;exact rfl));apply ds_guardP;exact rfl;exact rfl;exact rfl;all_goals intro hg))
  all_goals try (exfalso;omega)
  all_goals refine⟨i + 1,by omega,ent_ren id ⟨rfl,rfl,rfl,rfl,rfl,rfl,rfl,rfl,rfl,by rw [hst];unfold manyF;first|(rw [if_pos ⟨by assumption,by omega⟩];rfl)|(rw [if_neg (by omega)];rfl),rfl,rfl,rfl,trivial⟩ ⟨rfl,rfl,trivial⟩ rfl rfl rfl rfl rfl rfl,by omega⟩
 ·rw [List.take_of_length_le (by omega)]
  repeat' (first|refine z0 ?_|refine z12 ?_|apply ds_nil|apply dw_seq2|refine z16 ?_|apply dw_block|apply dw_skip|apply dw_exit|refine z19 ?_|apply thenD_n|apply thenD_e|apply inB_n|refine z17 ?_|refine z4 ?_|(refine z23 ?_ ?_ <;> intro hg)|((fail_if_success (apply ds_known;exact rfl));apply ds_guardP;exact rfl;exact rfl;exact rfl;all_goals intro hg))
  all_goals try (exfalso;omega)
  refine ds_loop (ι:=Nat) (fun i=>⟨2,[(1,.d (.slice 2 (l.map encFct))),(2,.d (.slice 2 (m.map encFct))),(3,.d (.slice 2 (puts.map encFct))),(4,.d (.slice 2 (takes.map encFct))),(5,.loc 0 0),(10,.nils),(11,.nils),(12,.loc 1 0),(14,.d (.slice 2 (was.map encFct))),(15,.d (.int .i64 ((xs.take i).foldl (rightF p.arity) (xs.foldl manyF e)))),(46,.d (.slice 1 (xs.map encL))),(47,.d (.int .i64 2)),(48,.d (.int .i64 i))],
    [(1,.blk 62 [.nils,.nils]),(0,.blk 26 [.d (.slice 1 (p.arity.map encI)),.d (.slice 1 (p.names.map encT)),.d (.slice 5 (p.rules.map encRul))])]⟩)
   (fun i=>i≤2) (fun i=>2 - i) 0 (Nat.zero_le _) (ent_ren id ⟨rfl,rfl,rfl,rfl,rfl,rfl,rfl,rfl,rfl,rfl,by rw [hxs];rfl,rfl,rfl,trivial⟩ ⟨rfl,rfl,trivial⟩ rfl rfl rfl rfl rfl rfl) ?_
  intro i g1
  dsimp only at g1 ⊢
  by_cases hi:i < xs.length
  ·have hst:=fold_tk (rightF p.arity) (xs.foldl manyF e) hi
   have w3:=rights_fn p xs[i]
   generalize (xs.take i).foldl (rightF p.arity) (xs.foldl manyF e)=ei at *
   repeat' (first|refine z0 ?_|refine z12 ?_|apply ds_nil|apply dw_seq2|refine z16 ?_|apply dw_block|apply dw_skip|apply dw_exit|apply dw_ret|refine z19 ?_|apply thenD_n|apply thenD_e|apply thenD_r|apply inB_n|refine z17 ?_|refine z21 ?_ (hc:=by apply w3)|refine z3 ?_|(refine z23 ?_ ?_ <;> intro hg)|((fail_if_success (apply ds_known;exact rfl));apply ds_guardP;exact rfl;exact rfl;exact rfl;all_goals intro hg))
   all_goals try (exfalso;omega)
   all_goals refine⟨i + 1,by omega,ent_ren id ⟨rfl,rfl,rfl,rfl,rfl,rfl,rfl,rfl,rfl,by rw [hst];unfold rightF;first|(rw [if_pos (by assumption)];rfl)|(rw [if_neg (by omega)];rfl),rfl,rfl,rfl,trivial⟩ ⟨rfl,rfl,trivial⟩ rfl rfl rfl rfl rfl rfl,by omega⟩
  ·rw [List.take_of_length_le (by omega)]
   have hpe:xs.foldl (rightF p.arity) (xs.foldl manyF e)=putE p.arity e puts takes:=by rw [hxs];rfl
   rw [hpe]
   have w4:=set_fn m hm ha
   have w5:=csame_fn was (setF' m)
   by_cases hE:putE p.arity e puts takes=0
   ·obtain⟨he0,p1,p2,p3,p4⟩:=putE_zero hE
    subst he0
    rw [hE]
    have hcc:chgE p.arity 0 was m puts takes=if sameL Fct.same was (setF' m)=false then 4 else 0:=by unfold chgE;rw [hE];simp
    have ho:=mOk hx.ok0
    have h3:∀ x:Fct,FctOk p.arity x→x.args.length≤17592186044416:=fun x hx=>by have:=fct_len ho.pr hx;omega
    have hll:=ho.len
    have hml:(setF' (minusL l takes)).length≤60:=Nat.le_trans (setF_lenle _) (Nat.le_trans (List.length_filter_le _ _) hll)
    have hma:∀ x∈setF' (minusL l takes),FctOk p.arity x:=fun x hx=>ho.facts x (List.mem_filter.1 (((setF_spec _).2 x).1 hx)).1
    have w6:=minus_fn l takes (by omega) (by omega) (fun x hx=>h3 x (ho.facts x hx)) (fun x hx=>h3 x (p4 x hx))
    rw [minus_same] at w6
    have w7:=union_fn (setF' (minusL l takes)) puts (by omega) (fun x hx=>h3 x (hma x hx)) (fun x hx=>h3 x (p3 x hx))
    obtain⟨y1,y2,y3⟩:=hy.strict
    obtain⟨zz1,zz2,zz3⟩:=hx.strict
    have w8:=between_fn' was now (by omega) (by omega) (fun x hx=>h3 x (zz3 x hx)) (fun x hx=>h3 x (y3 x hx))
    cases hs:sameL Fct.same was (setF' m) with
    | false =>
     rw [hs] at w5
     rw [hs,if_pos rfl] at hcc
     rw [hcc,if_neg (by simp),if_neg (by simp)]
     clear w6 w7 w8
     repeat' (first|refine z0 ?_|apply ds_nil|apply dw_seq2|refine z16 ?_|apply dw_block|apply dw_skip|apply dw_exit|refine z18 ?_|apply thenD_n|apply thenD_e|refine z17 ?_|refine z21 ?_ (hc:=by apply w4)|refine z21 ?_ (hc:=by apply w5)|refine z3 ?_|(refine z23 ?_ ?_ <;> intro hg)|fail)
     all_goals try (exfalso;omega)
     refine dw_ent (ent_nild 10 2 rfl) ?_
     refine dw_ent (ent_nild 11 2 rfl) ?_
     refine dw_ent (ent_cellnil 1 0 2 rfl rfl rfl) ?_
     refine dw_ent (ent_cellnil 1 1 2 rfl rfl rfl) ?_
     repeat' (first|apply dw_ret|apply thenD_r)
     exact⟨.inl rfl,_,rfl,rfl,rfl⟩
    | true =>
     rw [hs] at w5
     rw [hs,if_neg (by simp)] at hcc
     rw [hcc]
     by_cases h2:e2=0
     ·subst h2
      rw [if_pos ⟨rfl,rfl⟩]
      repeat' (first|refine z0 ?_|apply ds_nil|apply dw_seq2|refine z16 ?_|apply dw_block|apply dw_skip|apply dw_exit|apply dw_ret|refine z18 ?_|refine z19 ?_|apply thenD_n|apply thenD_e|refine z17 ?_|refine z21 ?_ (hc:=by apply w4)|refine z21 ?_ (hc:=by apply w5)|refine z21 ?_ (hc:=by apply w6)|refine z21 ?_ (hc:=by apply w7)|refine z21 ?_ (hc:=by apply w2)|refine z21 ?_ (hc:=by apply w8)|refine z3 ?_|(refine z23 ?_ ?_ <;> intro hg)|fail)
      all_goals try (exfalso;omega)
      exact⟨.inl rfl,_,rfl,rfl,rfl⟩
     ·rw [if_neg (fun h=>h2 h.2),if_pos rfl]
      clear w8
      repeat' (first|refine z0 ?_|apply ds_nil|apply dw_seq2|refine z16 ?_|apply dw_block|apply dw_skip|apply dw_exit|refine z18 ?_|refine z19 ?_|apply thenD_n|apply thenD_e|refine z17 ?_|refine z21 ?_ (hc:=by apply w4)|refine z21 ?_ (hc:=by apply w5)|refine z21 ?_ (hc:=by apply w6)|refine z21 ?_ (hc:=by apply w7)|refine z21 ?_ (hc:=by apply w2)|refine z3 ?_|(refine z23 ?_ ?_ <;> intro hg)|fail)
      all_goals try (exfalso;omega)
      refine dw_ent (ent_nild 10 2 rfl) ?_
      refine dw_ent (ent_nild 11 2 rfl) ?_
      refine dw_ent (ent_cellnil 1 0 2 rfl rfl rfl) ?_
      refine dw_ent (ent_cellnil 1 1 2 rfl rfl rfl) ?_
      repeat' (first|apply dw_ret|apply thenD_r)
      exact⟨.inl rfl,_,rfl,rfl,rfl⟩
   ·have hcc:chgE p.arity e was m puts takes=putE p.arity e puts takes:=by unfold chgE;rw [if_neg (fun h=>hE h.1)]
    rw [hcc,if_neg (fun h=>hE h.1),if_neg hE]
    generalize putE p.arity e puts takes=e3 at *
    clear w4 w5
    repeat' (first|refine z0 ?_|refine z12 ?_|apply ds_nil|apply dw_seq2|refine z16 ?_|apply dw_block|apply dw_skip|apply dw_exit|refine z19 ?_|apply thenD_n|apply thenD_e|apply inB_n|refine z17 ?_|refine z3 ?_|(refine z23 ?_ ?_ <;> intro hg)|((fail_if_success (apply ds_known;exact rfl));apply ds_guardP;exact rfl;exact rfl;exact rfl;all_goals intro hg))
    all_goals try (exfalso;omega)
    refine dw_ent (ent_nild 10 2 rfl) ?_
    refine dw_ent (ent_nild 11 2 rfl) ?_
    refine dw_ent (ent_cellnil 1 0 2 rfl rfl rfl) ?_
    refine dw_ent (ent_cellnil 1 1 2 rfl rfl rfl) ?_
    repeat' (first|apply dw_ret|apply thenD_r)
    exact⟨.inl rfl,_,rfl,rfl,rfl⟩
end Go.Proofs.YtapciiffpnociacGreat
