/- Several texts in one: ScrK TreR ScrI GxRow GxLaw PrgIn GxTie TokIn TreIn. Condition: none. -/
import Derived.Test.YtapciiffpnociacGreatDoorS16
import Derived.Test.YtapciiffpnociacGreatDoorS18
import Derived.Test.YtapciiffpnociacGreatDoorS15
import Derived.Test.YtapciiffpnociacGreatDoorS08
import Derived.ProofKit
import Derived.SizedLaws
import Derived.Carry
import Derived.ChangeSame
import Derived.JoinedCond
import Derived.Test.YtapciiffpnociacGreatDoorS09
import Derived.Deep.DeepWitnessRowRef
import Derived.LaidMore
import Derived.Test.YtapciiffpnociacGreatDoorS12
namespace Go.Proofs.YtapciiffpnociacGreatDoor
open Go Go.RowKit
def hangsB (x:Ltl):Bool:=decide (x.kind=1) || decide (x.kind=2)
abbrev prgBk (p:Prg):HB:=.blk 26 [.d (.slice 1 (p.arity.map encI)),.d (.slice 1 (p.names.map encT)),.d (.slice 5 (p.rules.map encRul))]
theorem firstL_z0 {α:Type} {f:α→Int}:∀ {l:List α},firstL f l=0→∀ x∈l,f x=0
 | [],_,_,h=>nomatch h
 | y::l,h,x,hx=>by
  unfold firstL at h
  split at h
  ·rename_i h1;exact absurd h h1
  ·rename_i h1
   rcases List.mem_cons.1 hx with rfl|hx
   ·exact Classical.byContradiction fun h2=>h1 h2
   ·exact firstL_z0 h x hx
theorem inR_tru {n a b:Int} (h:¬ inR n a b=false):a≤n∧n≤b:=by
 unfold inR at h
 simp at h
 exact h
structure LtlOk (n vars:Int) (l:Ltl):Prop where
 kind:1≤l.kind∧l.kind≤4
 pred:hangsB l=true→0≤l.pred∧l.pred < n
structure RulOk (n:Nat) (r:Rul):Prop where
 pred:0≤r.pred∧r.pred < n
 vars:0≤r.vars∧r.vars≤8
 fold:0≤r.fold∧r.fold≤4
 body:r.body.length≤4
 lits:∀ l∈r.body,LtlOk n r.vars l
structure PrgOk (p:Prg):Prop where
 preds:p.arity.length≤10
 rules:p.rules.length≤12
 names:p.names.length=p.arity.length
 each:∀ r∈p.rules,RulOk p.arity.length r
theorem litE_okM {arity:List Int} {vars:Int} {l:Ltl} (h:litE arity vars l=0):LtlOk arity.length vars l:=by
 unfold litE at h
 split at h;· cases h
 rename_i h1
 split at h;· cases h
 refine⟨inR_tru h1,fun hh=>?_⟩
 have hk:l.kind=1∨l.kind=2:=by
  unfold hangsB at hh
  simpa using hh
 rw [if_pos hk] at h
 split at h;· cases h
 rename_i h3
 have:=inR_tru h3
 omega
theorem ruleE_ok {arity:List Int} {r:Rul} (h:ruleE arity r=0):RulOk arity.length r:=by
 unfold ruleE at h
 split at h;· cases h
 rename_i h1
 split at h;· cases h
 split at h;· cases h
 rename_i h3
 split at h;· rename_i h4;exact absurd h h4
 split at h;· cases h
 rename_i h5
 split at h;· cases h
 split at h;· cases h
 rename_i h7
 split at h;· rename_i h8;exact absurd h h8
 rename_i h8
 have:=inR_tru h1
 exact⟨by omega,inR_tru h3,inR_tru h5,by omega,fun l hl=>litE_okM (firstL_z0 (Classical.byContradiction fun hn=>h8 hn) l hl)⟩
theorem progE_ok {nameB:ByteArray→Bool} {p:Prg} (h:progE nameB p=0):PrgOk p:=by
 unfold progE at h
 split at h;· cases h
 rename_i h1
 split at h;· cases h
 rename_i h2
 split at h;· rename_i h3;exact absurd h h3
 exact⟨by omega,by omega,by omega,fun r hr=>ruleE_ok (firstL_z0 h r hr)⟩
def factE (arity:List Int) (x:Fct):Int :=
 if inR x.pred 0 ((arity.length:Int) - 1)=false then 5
 else if (x.args.length:Int)≠arity.getD x.pred.toNat 0 then 1
 else if x.args.any (fun n=>!numB n) then 3
 else 0
attribute [local irreducible] DW DS DL DQ Ev FnOk FnP thenD inBlockD DT
set_option maxHeartbeats 8000000 in
theorem same_fn (p:Prg) (h10:p.names.length≤10) (h12:p.rules.length≤12) (h4:∀ r∈p.rules,r.body.length≤4):Fn 13 [elPrg p,elPrg p] (fun res=>res = .d (.bool true)):=by
 refine fnp_enter' _ Tryz.func13 rfl rfl (by kernel_rfl) ?_
 intro O w0 E0 β0
 have la:(p.arity.map encI).length=p.arity.length:=List.length_map _
 have ln:(p.names.map encT).length=p.names.length:=List.length_map _
 have lr:(p.rules.map encRul).length=p.rules.length:=List.length_map _
 have hr:=sameInts_fn p.arity p.arity
 rw [sameL_refl (p:=sameI) (fun x=>decide_eq_true rfl)] at hr
 repeat' (first|refine z0 ?_|refine z12 ?_|apply ds_nil|apply dw_seq2|refine z16 ?_|apply dw_block|apply dw_skip|apply dw_ret|refine z18 ?_|apply thenD_n|apply thenD_r|refine z21 ?_ (hc:=by apply hr)|refine z1 ?_|(refine z23 ?_ ?_ <;> intro hg)|((fail_if_success (apply ds_known;exact rfl));apply ds_guardP;exact rfl;exact rfl;exact rfl;all_goals intro hg))
 all_goals try (exfalso;omega)
 refine ds_loop (ι:=Nat) (fun i=>⟨2,[(2,.loc 0 0),(3,.loc 1 0),(5,.d (.int .i64 i))],[(0,prgBk p),(1,prgBk p)]⟩)
  (fun i=>i≤p.names.length) (fun i=>p.names.length - i) 0 (Nat.zero_le _) (ent_ren id ⟨rfl,rfl,rfl,trivial⟩ ⟨rfl,rfl,trivial⟩ rfl rfl rfl rfl rfl rfl) ?_
 intro i hi
 by_cases hi2:i < p.names.length
 ·repeat' (first|refine z0 ?_|apply ds_nil|refine z5 ?_|refine z10 ?_|apply dw_seq2|refine z16 ?_|refine z20 ?_|apply dw_block|apply dw_skip|apply dw_exit|apply dw_ret|apply thenD_n|apply thenD_e|apply thenD_r|apply inB_n|apply inB_r|refine z17 ?_|(refine z23 ?_ ?_ <;> intro hg)|fail)
  all_goals try (exfalso;omega)
  all_goals first
   | exact absurd rfl hg
   | exact⟨i + 1,hi2,ent_ren id ⟨rfl,rfl,rfl,trivial⟩ ⟨rfl,rfl,trivial⟩ rfl rfl rfl rfl rfl rfl,by show p.names.length - (i + 1) < p.names.length - i;omega⟩
 ·repeat' (first|refine z0 ?_|apply ds_nil|refine z5 ?_|refine z10 ?_|apply dw_seq2|refine z16 ?_|refine z20 ?_|apply dw_block|apply dw_skip|apply dw_exit|apply dw_ret|apply thenD_n|apply thenD_e|apply thenD_r|apply inB_n|apply inB_r|refine z17 ?_|(refine z23 ?_ ?_ <;> intro hg)|fail)
  all_goals try (exfalso;omega)
  refine ds_loop (ι:=Nat) (fun i=>⟨2,[(2,.loc 0 0),(3,.loc 1 0),(6,.d (.int .i64 i))],[(0,prgBk p),(1,prgBk p)]⟩)
   (fun i=>i≤p.rules.length) (fun i=>p.rules.length - i) 0 (Nat.zero_le _) (ent_ren id ⟨rfl,rfl,rfl,trivial⟩ ⟨rfl,rfl,trivial⟩ rfl rfl rfl rfl rfl rfl) ?_
  intro j hj
  by_cases hj2:j < p.rules.length
  ·have ht:=sameTerms_fn p.rules[j].terms p.rules[j].terms
   rw [sameL_refl (p:=sameTrm) (fun x=>by simp [sameTrm])] at ht
   have hlt:∀ x∈p.rules[j].body,Fn 30 [.d (.slice 2 (x.terms.map encTrm)),.d (.slice 2 (x.terms.map encTrm))] (fun res=>res = .d (.bool true)):=by
    intro x _
    have h:=sameTerms_fn x.terms x.terms
    rwa [sameL_refl (p:=sameTrm) (fun x=>by simp [sameTrm])] at h
   have hb4:=h4 _ (List.getElem_mem hj2)
   have lb:(p.rules[j].body.map encLtl).length=p.rules[j].body.length:=List.length_map _
   repeat' (first|refine z0 ?_|refine z12 ?_|apply ds_nil|refine z5 ?_|refine z6 ?_|refine z7 ?_|refine z11 ?_|apply dw_seq2|refine z16 ?_|refine z20 ?_|apply dw_block|apply dw_skip|apply dw_exit|apply dw_ret|refine z18 ?_|apply thenD_n|apply thenD_e|apply thenD_r|apply inB_r|refine z17 ?_|refine z21 ?_ (hc:=by apply ht)|(refine z23 ?_ ?_ <;> intro hg)|((fail_if_success (apply ds_known;exact rfl));apply ds_guardP;exact rfl;exact rfl;exact rfl;all_goals intro hg))
   all_goals try (exfalso;omega)
   refine ds_loop (ι:=Nat) (fun k=>⟨4,[(2,.loc 0 0),(3,.loc 1 0),(6,.d (.int .i64 j)),(7,.loc 2 0),(8,.loc 3 0),(9,.d (.int .i64 k))],[(0,prgBk p),(1,prgBk p),(2,ruleB p.rules[j]),(3,ruleB p.rules[j])]⟩)
    (fun k=>k≤p.rules[j].body.length) (fun k=>p.rules[j].body.length - k) 0 (Nat.zero_le _) (ent_ren (fun j=>match j with|2=>12|3=>13|j=>j) ⟨rfl,rfl,rfl,rfl,rfl,rfl,trivial⟩ ⟨rfl,rfl,rfl,rfl,trivial⟩ rfl rfl rfl rfl rfl rfl) ?_
   intro k hk
   by_cases hk2:k < p.rules[j].body.length
   ·have hx:=hlt _ (List.getElem_mem hk2)
    repeat' (first|refine z0 ?_|refine z12 ?_|apply ds_nil|refine z5 ?_|refine z6 ?_|refine z7 ?_|refine z11 ?_|apply dw_seq2|refine z16 ?_|refine z20 ?_|apply dw_block|apply dw_skip|apply dw_exit|apply dw_ret|refine z18 ?_|refine z19 ?_|apply thenD_n|apply thenD_e|apply thenD_r|apply inB_n|apply inB_r|refine z17 ?_|refine z21 ?_ (hc:=by apply hx)|(refine z23 ?_ ?_ <;> intro hg)|((fail_if_success (apply ds_known;exact rfl));apply ds_guardP;exact rfl;exact rfl;exact rfl;all_goals intro hg))
    all_goals try (exfalso;omega)
    exact⟨k + 1,hk2,ent_ren id ⟨rfl,rfl,rfl,rfl,rfl,rfl,trivial⟩ ⟨rfl,rfl,rfl,rfl,trivial⟩ rfl rfl rfl rfl rfl rfl,by show p.rules[j].body.length - (k + 1) < p.rules[j].body.length - k;omega⟩
   ·repeat' (first|refine z0 ?_|refine z12 ?_|apply ds_nil|refine z5 ?_|refine z6 ?_|refine z7 ?_|refine z11 ?_|apply dw_seq2|refine z16 ?_|refine z20 ?_|apply dw_block|apply dw_skip|apply dw_exit|apply dw_ret|refine z18 ?_|apply thenD_n|apply thenD_e|apply thenD_r|apply inB_n|apply inB_r|refine z17 ?_|(refine z23 ?_ ?_ <;> intro hg)|((fail_if_success (apply ds_known;exact rfl));apply ds_guardP;exact rfl;exact rfl;exact rfl;all_goals intro hg))
    all_goals try (exfalso;omega)
    exact⟨j + 1,hj2,ent_ren id ⟨rfl,rfl,rfl,trivial⟩ ⟨rfl,rfl,trivial⟩ rfl rfl rfl rfl rfl rfl,by show p.rules.length - (j + 1) < p.rules.length - j;omega⟩
  ·repeat' (first|refine z0 ?_|refine z12 ?_|apply ds_nil|refine z5 ?_|refine z6 ?_|refine z7 ?_|refine z11 ?_|apply dw_seq2|refine z16 ?_|refine z20 ?_|apply dw_block|apply dw_skip|apply dw_exit|apply dw_ret|refine z18 ?_|apply thenD_n|apply thenD_e|apply thenD_r|apply inB_r|refine z17 ?_|(refine z23 ?_ ?_ <;> intro hg)|((fail_if_success (apply ds_known;exact rfl));apply ds_guardP;exact rfl;exact rfl;exact rfl;all_goals intro hg))
   all_goals try (exfalso;omega)
   exact⟨.inl rfl,_,rfl,rfl,rfl⟩
set_option maxHeartbeats 8000000 in
theorem right1_fn (n:Int):Fn 51 [.d (.int .i64 n)] (fun r=>r = .d (.bool (!numB n))):=by
 refine fnp_enter' _ Tryz.func51 rfl rfl (by kernel_rfl) ?_
 intro O w0 E0 β0
 repeat' (first|refine z0 ?_|apply ds_nil|apply dw_seq2|refine z16 ?_|apply dw_ret|apply thenD_n|refine z21 ?_ (hc:=by apply snumber_fn)|fail)
 exact⟨.inl rfl,_,rfl,rfl,rfl⟩
set_option maxHeartbeats 8000000 in
theorem fright_fn (p:Prg) (x:Fct):Fn 24 [elPrg p,elFct x] (fun r=>r = .d (.int .i64 (factE p.arity x))):=by
 refine fnp_enter' _ Tryz.func24 rfl rfl (by kernel_rfl) ?_
 intro O w0 E0 β0
 have la:(p.arity.map encI).length=p.arity.length:=List.length_map _
 have lx:(x.args.map encI).length=x.args.length:=List.length_map _
 refine dw_lenA 0 0 rfl rfl fun hk=>?_
 have w1:=containsFuncInt_fn (caps:=[]) (f:=51) (fun n=>!numB n) x.args rfl (fun n _=>right1_fn n)
 have w0:Fn 43 [.d (.int .i64 x.pred),.d (.int .i64 0),.d (.int .i64 (((p.arity.map encI).length:Int) - 1))] (fun r=>r = .d (.bool (inR x.pred 0 ((p.arity.length:Int) - 1)))):=by rw [la];exact swithin_fn _ _ _
 unfold factE
 cases h1:inR x.pred 0 ((p.arity.length:Int) - 1) with
 | false =>
  rw [h1] at w0
  rw [if_pos rfl]
  repeat' (first|refine z0 ?_|apply ds_nil|apply dw_seq2|refine z16 ?_|apply dw_block|apply dw_ret|refine z18 ?_|apply thenD_n|apply thenD_r|apply inB_r|refine z21 ?_ (hc:=by apply w0)|refine z1 ?_|fail)
  all_goals try (exfalso;omega)
  exact⟨.inl rfl,_,rfl,rfl,rfl⟩
 | true =>
  rw [h1] at w0
  rw [if_neg (by simp)]
  have hr:0≤x.pred∧x.pred < p.arity.length:=by unfold inR at h1;simp at h1;omega
  have hlt:x.pred.toNat < p.arity.length:=by omega
  have hg':p.arity.getD x.pred.toNat 0=p.arity[x.pred.toNat]:=by rw [List.getD,List.getElem?_eq_getElem hlt];rfl
  rw [hg']
  by_cases h2:(x.args.length:Int)≠p.arity[x.pred.toNat]
  ·rw [if_pos h2]
   repeat' (first|refine z0 ?_|apply ds_nil|refine z5 ?_|refine z10 ?_|apply dw_seq2|refine z16 ?_|refine z20 ?_|apply dw_block|apply dw_ret|refine z19 ?_|apply thenD_n|apply thenD_r|apply inB_r|refine z21 ?_ (hc:=by apply w0)|refine z1 ?_|(refine z23 ?_ ?_ <;> intro hg)|fail)
   all_goals try (exfalso;omega)
   exact⟨.inl rfl,_,rfl,rfl,rfl⟩
  ·rw [if_neg h2]
   cases h3:x.args.any (fun n=>!numB n) with
   | true =>
    rw [h3] at w1
    repeat' (first|refine z0 ?_|apply ds_nil|refine z5 ?_|refine z10 ?_|apply dw_seq2|refine z16 ?_|refine z20 ?_|apply dw_block|apply dw_ret|refine z18 ?_|refine z19 ?_|apply thenD_n|apply thenD_r|apply inB_r|refine z21 ?_ (hc:=by apply w0)|refine z21 ?_ (hc:=by apply w1)|refine z1 ?_|(refine z23 ?_ ?_ <;> intro hg)|fail)
    all_goals try (exfalso;omega)
    exact⟨.inl rfl,_,rfl,rfl,rfl⟩
   | false =>
    rw [h3] at w1
    repeat' (first|refine z0 ?_|apply ds_nil|refine z5 ?_|refine z10 ?_|apply dw_seq2|refine z16 ?_|refine z20 ?_|apply dw_block|apply dw_skip|apply dw_ret|refine z19 ?_|apply thenD_n|apply thenD_r|apply inB_n|apply inB_r|refine z21 ?_ (hc:=by apply w0)|refine z21 ?_ (hc:=by apply w1)|refine z1 ?_|(refine z23 ?_ ?_ <;> intro hg)|fail)
    all_goals try (exfalso;omega)
    exact⟨.inl rfl,_,rfl,rfl,rfl⟩
set_option maxHeartbeats 8000000 in
theorem checkFact_fn (p:Prg) (x:Fct):Fn 7 [elPrg p,elFct x] (fun r=>r = .d (.int .i64 (factE p.arity x))):=by
 refine fnp_enter' _ Tryz.func7 rfl rfl (by kernel_rfl) ?_
 intro O w0 E0 β0
 have la:(p.arity.map encI).length=p.arity.length:=List.length_map _
 have lx:(x.args.map encI).length=x.args.length:=List.length_map _
 refine dw_lenA 0 0 rfl rfl fun hk=>?_
 refine dw_lenA 1 1 rfl rfl fun hk1=>?_
 have w0:Fn 16 [.d (.int .i64 x.pred),.d (.int .i64 0),.d (.int .i64 (((p.arity.map encI).length:Int) - 1))] (fun r=>r = .d (.bool (inR x.pred 0 ((p.arity.length:Int) - 1)))):=by rw [la];exact rbetween_fn _ _ _
 unfold factE
 cases h1:inR x.pred 0 ((p.arity.length:Int) - 1) with
 | false =>
  rw [h1] at w0
  rw [if_pos rfl]
  repeat' (first|refine z0 ?_|apply ds_nil|apply dw_seq2|refine z16 ?_|apply dw_ret|refine z18 ?_|apply thenD_n|apply thenD_r|refine z21 ?_ (hc:=by apply w0)|refine z1 ?_|fail)
  all_goals try (exfalso;omega)
  exact⟨.inl rfl,_,rfl,rfl,rfl⟩
 | true =>
  rw [h1] at w0
  rw [if_neg (by simp)]
  have hr:0≤x.pred∧x.pred < p.arity.length:=by unfold inR at h1;simp at h1;omega
  have hlt:x.pred.toNat < p.arity.length:=by omega
  have hg':p.arity.getD x.pred.toNat 0=p.arity[x.pred.toNat]:=by rw [List.getD,List.getElem?_eq_getElem hlt];rfl
  rw [hg']
  by_cases h2:(x.args.length:Int)≠p.arity[x.pred.toNat]
  ·rw [if_pos h2]
   repeat' (first|refine z0 ?_|apply ds_nil|refine z5 ?_|refine z10 ?_|apply dw_seq2|refine z16 ?_|refine z20 ?_|apply dw_block|apply dw_skip|apply dw_ret|refine z19 ?_|apply thenD_n|apply thenD_r|refine z21 ?_ (hc:=by apply w0)|refine z1 ?_|(refine z23 ?_ ?_ <;> intro hg)|fail)
   all_goals try (exfalso;omega)
   exact⟨.inl rfl,_,rfl,rfl,rfl⟩
  ·rw [if_neg h2]
   repeat' (first|refine z0 ?_|apply ds_nil|refine z5 ?_|refine z10 ?_|apply dw_seq2|refine z16 ?_|refine z20 ?_|apply dw_block|apply dw_skip|apply dw_ret|refine z19 ?_|apply thenD_n|apply thenD_r|refine z21 ?_ (hc:=by apply w0)|refine z1 ?_|(refine z23 ?_ ?_ <;> intro hg)|fail)
   all_goals try (exfalso;omega)
   refine ds_loop (ι:=Nat) (fun i=>⟨2,[(3,.loc 1 0),(5,.d (.int .i64 i))],[(1,.blk 28 [.d (.int .i64 x.pred),.d (.slice 1 (x.args.map encI))])]⟩)
    (fun i=>i≤x.args.length∧∀ j (_:j < x.args.length),j < i→numB x.args[j]=true) (fun i=>x.args.length - i) 0 ⟨Nat.zero_le _,fun _ _ h=>by omega⟩ (ent_ren id ⟨rfl,rfl,trivial⟩ ⟨rfl,trivial⟩ rfl rfl rfl rfl rfl rfl) ?_
   rintro i ⟨g1,g2⟩
   dsimp only at g1 g2 ⊢
   by_cases hi:i < x.args.length
   ·have w2:=sisNumber_fn x.args[i]
    cases hb:numB x.args[i] with
    | false =>
     rw [hb] at w2
     rw [if_pos (List.any_eq_true.2 ⟨_,List.getElem_mem hi,by rw [hb];rfl⟩)]
     repeat' (first|refine z0 ?_|apply ds_nil|apply dw_seq2|refine z16 ?_|apply dw_block|apply dw_skip|apply dw_exit|apply dw_ret|refine z18 ?_|apply thenD_n|apply thenD_e|apply thenD_r|apply inB_r|refine z17 ?_|refine z21 ?_ (hc:=by apply w2)|(refine z23 ?_ ?_ <;> intro hg)|fail)
     all_goals try (exfalso;omega)
     all_goals exact⟨.inl rfl,_,rfl,rfl,rfl⟩
    | true =>
     rw [hb] at w2
     repeat' (first|refine z0 ?_|apply ds_nil|apply dw_seq2|refine z16 ?_|apply dw_block|apply dw_skip|apply dw_exit|apply dw_ret|refine z19 ?_|apply thenD_n|apply thenD_e|apply inB_n|refine z17 ?_|refine z21 ?_ (hc:=by apply w2)|(refine z23 ?_ ?_ <;> intro hg)|fail)
     all_goals try (exfalso;omega)
     exact⟨i + 1,⟨hi,fun j hj hji=>by
      by_cases hq:j=i
      ·subst hq;exact hb
      ·exact g2 j hj (by omega)⟩,ent_ren id ⟨rfl,rfl,trivial⟩ ⟨rfl,trivial⟩ rfl rfl rfl rfl rfl rfl,by omega⟩
   ·have hno:¬ x.args.any (fun n=>!numB n)=true:=by
     rw [List.any_eq_true]
     rintro⟨n,hn,hb⟩
     obtain⟨j,hj,rfl⟩:=List.mem_iff_getElem.1 hn
     rw [g2 j hj (by omega)] at hb;cases hb
    rw [if_neg hno]
    repeat' (first|refine z0 ?_|apply ds_nil|apply dw_seq2|refine z16 ?_|apply dw_block|apply dw_skip|apply dw_exit|apply dw_ret|apply thenD_n|apply thenD_e|refine z17 ?_|(refine z23 ?_ ?_ <;> intro hg)|fail)
    all_goals try (exfalso;omega)
    all_goals exact⟨.inl rfl,_,rfl,rfl,rfl⟩
def smallS:ByteArray:=⟨#[113,40,49,44,32,50,41,46,10,112,40,88,44,32,99,111,117,110,116,32,89,41,32,58,45,32,113,40,88,44,32,89,41,44,32,110,111,116,32,114,40,89,41,44,32,88,32,60,32,89,46,10]⟩
def smallRs:List TRu:=[⟨0,⟨#[113]⟩,[⟨⟨#[]⟩,1⟩,⟨⟨#[]⟩,2⟩],0,[]⟩,⟨9,⟨#[112]⟩,[⟨⟨#[88]⟩,0⟩,⟨⟨#[89]⟩,0⟩],1,[⟨1,26,0,⟨#[113]⟩,[⟨⟨#[88]⟩,0⟩,⟨⟨#[89]⟩,0⟩]⟩,⟨2,35,0,⟨#[114]⟩,[⟨⟨#[89]⟩,0⟩]⟩,⟨3,45,1,⟨#[]⟩,[⟨⟨#[88]⟩,0⟩,⟨⟨#[89]⟩,0⟩]⟩]⟩]
theorem small_parse:parseS smallS=(smallRs,0,0):=by kernel_rfl
end Go.Proofs.YtapciiffpnociacGreatDoor
namespace Go.Proofs.YtapciiffpnociacGreatDoor
open Go Go.RowKit
def smallP:Prg:=⟨[2,2,1],[⟨#[113]⟩,⟨#[112]⟩,⟨#[114]⟩],[⟨0,[⟨-1,1⟩,⟨-1,2⟩],0,[],0⟩,⟨1,[⟨0,0⟩,⟨1,0⟩],1,[⟨1,0,0,[⟨0,0⟩,⟨1,0⟩]⟩,⟨2,0,2,[⟨1,0⟩]⟩,⟨3,1,0,[⟨0,0⟩,⟨1,0⟩]⟩],2⟩]⟩
theorem small_prog:programS smallS=(smallP,0,0):=by kernel_rfl
theorem small_res:resolveS smallRs=(smallP,0,0):=by kernel_rfl
theorem small_ok:progE nameR smallP=0:=by kernel_rfl
theorem small_fact:factE smallP.arity ⟨2,[7]⟩=0:=by kernel_rfl
attribute [local irreducible] DW DS DL DQ Ev FnOk FnP FnOkE thenD inBlockD
def sfactE (p:Prg) (f:Fct):Int:=if progE nameR p≠0 then progE nameR p else factE p.arity f
set_option maxHeartbeats 8000000 in
theorem sfact_fn (p:Prg) (f:Fct):Fn 10 [elPrg p,elFct f] (fun r=>r = .d (.int .i64 (sfactE p f))):=by
 refine fnp_enter' _ Tryz.func10 rfl rfl (by kernel_rfl) ?_
 intro O w0 E0 β0
 have w1:=scheck_fn p
 have w2:=fright_fn p f
 unfold sfactE
 by_cases hp:progE nameR p=0
 ·rw [if_neg (fun h=>h hp)]
  rw [hp] at w1
  repeat' (first|refine z0 ?_|apply ds_nil|apply dw_seq2|refine z16 ?_|apply dw_skip|apply dw_ret|refine z19 ?_|apply thenD_n|refine z21 ?_ (hc:=by apply w1)|refine z21 ?_ (hc:=by apply w2)|refine z1 ?_|fail)
  all_goals try (exfalso;omega)
  exact⟨.inl rfl,_,rfl,rfl,rfl⟩
 ·rw [if_pos hp]
  repeat' (first|refine z0 ?_|apply ds_nil|apply dw_seq2|refine z16 ?_|apply dw_skip|apply dw_ret|apply thenD_n|apply thenD_r|refine z21 ?_ (hc:=by apply w1)|refine z21 ?_ (hc:=by apply w2)|refine z1 ?_|(refine z23 ?_ ?_ <;> intro hg)|fail)
  all_goals try (exfalso;first|omega|exact absurd (by assumption) hp)
  exact⟨.inl rfl,_,rfl,rfl,rfl⟩
set_option maxHeartbeats 8000000 in
theorem scopeBegun_fn:Fn 8 [] (fun r=>r = .d (.bool true)):=by
 refine fnp_enter' _ Tryz.func8 rfl rfl (by kernel_rfl) ?_
 intro O w0 E0 β0
 have h1:=sprogram_fn smallS
 have h2:=parseOf_fn smallS
 have h3:=sresolveT_fn smallRs
 rw [small_prog] at h1
 rw [small_parse] at h2
 rw [small_res] at h3
 unfold encRes at h1 h3
 unfold encParse at h2
 have h4:=scheck_fn smallP
 rw [small_ok] at h4
 have h5:=same_fn smallP (by decide) (by decide) (by decide)
 have h6:=sameInts_fn [2,2,1] [2,2,1]
 rw [show sameL sameI [2,2,1] [2,2,1]=true by kernel_rfl] at h6
 have h7:=sfact_fn smallP ⟨2,[7]⟩
 rw [show sfactE smallP ⟨2,[7]⟩=0 by unfold sfactE;rw [small_ok,small_fact];rfl] at h7
 unfold smallP at h1 h3 h4 h5 h7
 unfold smallRs at h2 h3
 unfold smallS at h1 h2
 dsimp only at h1 h2 h3 h4 h5 h7
 repeat' (first|refine z0 ?_|apply ds_nil|apply dw_seq2|refine z16 ?_|apply dw_ret|apply thenD_n|refine z21 ?_ (hc:=by apply h1)|refine z21 ?_ (hc:=by apply h2)|refine z21 ?_ (hc:=by apply h3)|refine z21 ?_ (hc:=by apply h4)|refine z21 ?_ (hc:=by apply h5)|refine z21 ?_ (hc:=by apply h6)|refine z21 ?_ (hc:=by apply h7)|refine z1 ?_|refine z3 ?_|refine z4 ?_|fail)
 all_goals exact ret_b rfl (by decide)
set_option maxHeartbeats 8000000 in
theorem scopeChecks_fn (p:Prg) (f:Fct):Fn 3 [elPrg p,elFct f] (fun r=>r = .d (.bool true)):=by
 refine fnp_enter' _ Tryz.func3 rfl rfl (by kernel_rfl) ?_
 intro O w0 E0 β0
 have h1:=rcheck_fn p
 have h2:=scheck_fn p
 have h3:=checkFact_fn p f
 have h4:=sfact_fn p f
 have h5:=scopeBegun_fn
 by_cases hp:progE nameR p=0
 ·rw [show sfactE p f=factE p.arity f by unfold sfactE;rw [if_neg (fun h=>h hp)]] at h4
  rw [hp] at h1 h2
  repeat' (first|refine z0 ?_|apply ds_nil|apply dw_seq2|refine z16 ?_|apply dw_ret|refine z18 ?_|apply thenD_n|refine z21 ?_ (hc:=by apply h1)|refine z21 ?_ (hc:=by apply h2)|refine z21 ?_ (hc:=by apply h3)|refine z21 ?_ (hc:=by apply h4)|refine z21 ?_ (hc:=by apply h5)|refine z1 ?_|fail)
  all_goals try (exfalso;first|omega|exact absurd rfl (by assumption))
  all_goals exact ret_b rfl (by simp)
 ·rw [show sfactE p f=progE nameR p by unfold sfactE;rw [if_pos hp]] at h4
  repeat' (first|refine z0 ?_|refine z12 ?_|apply ds_nil|apply dw_seq2|refine z16 ?_|apply dw_skip|apply dw_ret|apply thenD_n|refine z21 ?_ (hc:=by apply h1)|refine z21 ?_ (hc:=by apply h2)|refine z21 ?_ (hc:=by apply h3)|refine z21 ?_ (hc:=by apply h4)|refine z21 ?_ (hc:=by apply h5)|refine z1 ?_|(refine z23 ?_ ?_ <;> intro hg)|((fail_if_success (apply ds_known;exact rfl));apply ds_guardP;exact rfl;exact rfl;exact rfl;all_goals intro hg))
  all_goals try (exfalso;first|omega|exact absurd rfl (by assumption)|exact absurd (by assumption) hp)
  all_goals exact ret_b rfl (by simp)
theorem res_ok (rs:List TRu):(resolveS rs).1=prgO∨progE nameR (resolveS rs).1=0:=by
 unfold resolveS
 split
 ·exact .inl rfl
 ·split
  ·exact .inl rfl
  ·split
   ·exact .inl rfl
   ·rename_i h;exact .inr (Classical.not_not.1 h)
theorem res_zero {rs:List TRu} (h:(resolveS rs).2.2=0):progE nameR (resolveS rs).1=0:=by
 unfold resolveS at h ⊢
 split
 ·rename_i h1;rw [if_pos h1] at h;cases h
 ·rename_i h1
  rw [if_neg h1] at h
  split
  ·rename_i h2;rw [if_pos h2] at h;exact absurd h h2
  ·rename_i h2
   rw [if_neg h2] at h
   split
   ·rename_i h3;rw [if_pos h3] at h;exact absurd h h3
   ·rename_i h3;exact Classical.not_not.1 h3
theorem prg_ok (s:ByteArray):(programS s).1=prgO∨progE nameR (programS s).1=0:=by
 unfold programS
 split
 ·exact .inl rfl
 ·exact res_ok _
theorem prg_zero {s:ByteArray} (h:(programS s).2.2=0):progE nameR (programS s).1=0:=by
 unfold programS at h ⊢
 split
 ·rename_i h1;rw [if_pos h1] at h;exact absurd h h1
 ·rename_i h1;rw [if_neg h1] at h;exact res_zero h
theorem self_fn {p:Prg} (h:p=prgO∨progE nameR p=0):Fn 13 [elPrg p,elPrg p] (fun res=>res = .d (.bool true)):=by
 rcases h with rfl|h
 ·exact same_fn prgO (by decide) (by decide) (by decide)
 ·have hk:=progE_ok h
  exact same_fn p (by rw [hk.names];exact hk.preds) hk.rules fun r hr=>(hk.each r hr).body
set_option maxHeartbeats 8000000 in
theorem scopeResolves_fn (rs:List TRu):Fn 4 [.agg [.d (.slice 5 (rs.map encTRu))]] (fun r=>r = .d (.bool true)):=by
 refine fnp_enter' _ Tryz.func4 rfl rfl (by kernel_rfl) ?_
 intro O w0 E0 β0
 have h1:=sresolveT_fn rs
 have h2:=resolveOf_fn rs
 have h3:=scopeBegun_fn
 have h4:=self_fn (res_ok rs)
 generalize resolveS rs=q at *
 unfold encRes at h1 h2
 repeat' (first|refine z0 ?_|refine z12 ?_|apply ds_nil|apply dw_seq2|refine z16 ?_|apply dw_ret|apply thenD_n|refine z21 ?_ (hc:=by apply h1)|refine z21 ?_ (hc:=by apply h2)|refine z21 ?_ (hc:=by apply h3)|refine z21 ?_ (hc:=by apply h4)|refine z1 ?_|refine z3 ?_|((fail_if_success (apply ds_known;exact rfl));apply ds_guardP;exact rfl;exact rfl;exact rfl;all_goals intro hg))
 all_goals try (exfalso;exact absurd rfl (by assumption))
 all_goals exact ret_b rfl (by simp)
set_option maxHeartbeats 8000000 in
theorem scopePrograms_fn (s:ByteArray):Fn 5 [.d (.str s)] (fun r=>r = .d (.bool true)):=by
 refine fnp_enter' _ Tryz.func5 rfl rfl (by kernel_rfl) ?_
 intro O w0 E0 β0
 have h1:=sprogram_fn s
 have h2:=programOf_fn s
 have h3:=scopeBegun_fn
 have h4:=self_fn (prg_ok s)
 have h5:=scheck_fn (programS s).1
 by_cases he:(programS s).2.2=0
 ·rw [prg_zero he] at h5
  generalize programS s=q at *
  unfold encRes at h1 h2
  repeat' (first|refine z0 ?_|refine z12 ?_|apply ds_nil|apply dw_seq2|refine z16 ?_|apply dw_ret|apply thenD_n|refine z21 ?_ (hc:=by apply h1)|refine z21 ?_ (hc:=by apply h2)|refine z21 ?_ (hc:=by apply h3)|refine z21 ?_ (hc:=by apply h4)|refine z21 ?_ (hc:=by apply h5)|refine z1 ?_|refine z3 ?_|((fail_if_success (apply ds_known;exact rfl));apply ds_guardP;exact rfl;exact rfl;exact rfl;all_goals intro hg))
  all_goals try (exfalso;first|exact absurd rfl (by assumption)|exact absurd he (by assumption))
  all_goals exact ret_b rfl (by simp)
 ·clear h5
  generalize programS s=q at *
  unfold encRes at h1 h2
  repeat' (first|refine z0 ?_|refine z12 ?_|apply ds_nil|apply dw_seq2|refine z16 ?_|apply dw_ret|apply thenD_n|refine z21 ?_ (hc:=by apply h1)|refine z21 ?_ (hc:=by apply h2)|refine z21 ?_ (hc:=by apply h3)|refine z21 ?_ (hc:=by apply h4)|refine z1 ?_|refine z3 ?_|((fail_if_success (apply ds_known;exact rfl));apply ds_guardP;exact rfl;exact rfl;exact rfl;all_goals intro hg))
  all_goals try (exfalso;first|exact absurd rfl (by assumption)|exact absurd (by assumption) he|exact absurd he (by assumption))
  all_goals exact ret_b rfl (by simp)
end Go.Proofs.YtapciiffpnociacGreatDoor
namespace Go.Proofs.YtapciiffpnociacGreatDoor
open Go Go.RowKit
inductive RT where
 | bool
 | int (k:IntKind)
 | str
 | slice (cells bytes:Nat) (e:RT)
 | struct (fs:List RT)
mutual
def RT.size:RT→Nat
 | .struct fs=>RT.sizeL fs
 | .bool=>1
 | .int _=>1
 | .str=>1
 | .slice _ _ _=>1
def RT.sizeL:List RT→Nat
 | []=>0
 | r::rs=>r.size + RT.sizeL rs
end
mutual
def rtB (P:Program):RT→TypeId→Bool
 | .bool,t=>match P.underlying t with|some .bool=>true|_=>false
 | .int k,t=>match P.underlying t with|some (.int k')=>sameK k k'|_=>false
 | .str,t=>match P.underlying t with|some .string=>true|_=>false
 | .slice c b e,t=>match P.underlying t with
  | some (.slice te)=>Nat.beq (P.cellsOf te) c && (Nat.beq (P.bytesOf te) b && (Nat.blt 0 c && (Nat.beq e.size c && rtB P e te)))
  | _=>false
 | .struct fs,t=>match P.underlying t with
  | some (.struct fl)=>rtL P fs fl.toList 0 && Nat.beq (P.cellsOf t) (RT.sizeL fs)
  | _=>false
def rtL (P:Program):List RT→List Field→Nat→Bool
 | [],[],_=>true
 | r::rs,f::fl,o=>Nat.beq f.offset o && (Nat.beq (P.cellsOf f.type) r.size && (rtB P r f.type && rtL P rs fl (o + r.size)))
 | _,_,_=>false
end
mutual
def TyDR (R:Nat):RT→List D→Prop
 | .bool,xs=>∃ b,xs=[.bool b]
 | .int k,xs=>∃ n,(Lit.int k n).wf=true∧xs=[.int k n]
 | .str,xs=>∃ s:ByteArray,s.size≤R∧xs=[.str s]
 | .slice c b e,xs=>∃ l:List (List D),l.length * b≤R∧l.length≤maxLen∧xs=[.slice c l]∧∀ x∈l,TyDR R e x
 | .struct fs,xs=>TyFR R fs xs
def TyFR (R:Nat):List RT→List D→Prop
 | [],xs=>xs=[]
 | r::rs,xs=>∃ a b,xs=a++b∧TyDR R r a∧TyFR R rs b
end
abbrev TyD:=TyDR reachBytes
section
variable {H : Type} {enc : TypeId × Value → H} {P : Program} {w : World} {R : Nat}
theorem cells?_spec {base:Nat} {a:Addr} {n:Nat} {vs:List Value} (h:w.cells? base a n=some vs):vs.length=n∧∀ j,j < n→∃ v,vs[j]? = some v∧w.cell? (a.add j)=some v:=by
 unfold World.cells? at h
 split at h
 ·have key:∀ (l:List Nat) (vs:List Value),(l.mapM fun i=>w.cell? (a.add i))=some vs→vs.length=l.length∧∀ (j i:Nat),l[j]? = some i→∃ v,vs[j]? = some v∧w.cell? (a.add i)=some v:=by
   intro l
   induction l with
   | nil=>intro vs h;simp at h;subst h;exact⟨rfl,fun j i hj=>by simp at hj⟩
   | cons x l ih =>
    intro vs h
    rw [List.mapM_cons] at h
    cases hx:w.cell? (a.add x) with
    | none=>simp [hx] at h
    | some v =>
     cases hl:(l.mapM fun i=>w.cell? (a.add i)) with
     | none=>simp [hx,hl] at h
     | some us =>
      simp [hx,hl] at h
      subst h
      obtain⟨h1,h2⟩:=ih us hl
      refine⟨by simp [h1],fun j i hj=>?_⟩
      cases j with
      | zero=>simp at hj;subst hj;exact⟨v,rfl,hx⟩
      | succ j=>simpa using h2 j i (by simpa using hj)
  obtain⟨h1,h2⟩:=key _ _ h
  exact⟨by simpa using h1,fun j hj=>h2 j j (by simp [hj])⟩
 ·cases h
theorem cell?_addr {a:Addr} {v:Value} (h:w.cell? a=some v):a.spot=none∧a.block < w.heap.size:=by
 unfold World.cell? at h
 split at h
 ·rename_i hb
  split at h
  ·cases h
  ·rename_i hs
   exact⟨by simpa using hs,(Array.getElem?_eq_some_iff.1 hb).1⟩
 ·cases h
theorem addr_00 (a:Addr):(a.add 0).add 0=a:=by simp [Go.Addr.add]
def RepL (w:World) (cs:List Value) (xs:List D):Prop:=cs.length=xs.length∧∀ (j:Nat) (u:Value),cs[j]? = some u→∃ x,xs[j]? = some x∧RepC (fun _=>False) w u x
theorem RepL.append {cs cs':List Value} {xs xs':List D} (h:RepL w cs xs) (h':RepL w cs' xs'):RepL w (cs++cs') (xs++xs'):=by
 obtain⟨h1,h2⟩:=h
 obtain⟨g1,g2⟩:=h'
 refine⟨by simp [h1,g1],fun j u hj=>?_⟩
 by_cases hlt:j < cs.length
 ·rw [List.getElem?_append_left hlt] at hj
  obtain⟨x,e1,e2⟩:=h2 j u hj
  exact⟨x,by rw [List.getElem?_append_left (by omega)];exact e1,e2⟩
 ·rw [List.getElem?_append_right (by omega)] at hj
  obtain⟨x,e1,e2⟩:=g2 _ u hj
  exact⟨x,by rw [List.getElem?_append_right (by omega),← h1];exact e1,e2⟩
theorem weightsAll_mem {e:TypeId}:∀ {l:List (DataW H)} {d:DataW H},d∈l→∀ n∈d.weights P e,n∈DataW.weightsAll P e l
 | [],_,h,_,_=>by simp at h
 | x::l,d,h,n,hn=>by
  simp only [DataW.weightsAll,List.mem_append]
  rcases List.mem_cons.1 h with rfl|h
  ·exact .inl hn
  ·exact .inr (weightsAll_mem h n hn)
mutual
theorem open_rt:∀ (r:RT) (t:TypeId) (fuel:Nat) (cs:List Value) (x:DataW H × List MemPlace),rtB P r t=true→DataW.trod enc P w 0 (fun _=>true) true fuel t cs=some x→(∀ n∈x.1.weights P t,n≤R) →
  ∃ xs,TyDR R r xs∧RepL w cs xs
 | .bool,t,fuel,cs,x,hb,h,_=>by
  have ht:P.underlying t=some .bool:=by
   unfold rtB at hb;split at hb <;> first|assumption|cases hb
  obtain⟨b,rfl,rfl⟩:=DataW.trod_bool ht h
  refine⟨[.bool b],⟨b,rfl⟩,rfl,fun j u hj=>?_⟩
  cases j with
  | zero=>simp at hj;subst hj;exact⟨_,rfl,.bool⟩
  | succ j=>simp at hj
 | .int k,t,fuel,cs,x,hb,h,_=>by
  have ht:P.underlying t=some (.int k):=by
   unfold rtB at hb
   split at hb
   ·rename_i k' hk;rw [hk,sameK_spec hb]
   ·cases hb
  obtain⟨n,rfl,rfl,hw⟩:=DataW.trod_int ht h
  refine⟨[.int k n],⟨n,hw,rfl⟩,rfl,fun j u hj=>?_⟩
  cases j with
  | zero=>simp at hj;subst hj;exact⟨_,rfl,.int hw⟩
  | succ j=>simp at hj
 | .str,t,fuel,cs,x,hb,h,hw=>by
  have ht:P.underlying t=some .string:=by
   unfold rtB at hb;split at hb <;> first|assumption|cases hb
  obtain⟨s,rfl,rfl,hs⟩:=DataW.trod_string ht h
  have hr:s.size≤R:=by
   have:=hw s.data.toList.length (by simp [DataW.weights])
   simpa using this
  refine⟨[.str s],⟨s,hr,rfl⟩,rfl,fun j u hj=>?_⟩
  cases j with
  | zero=>simp at hj;subst hj;exact⟨_,rfl,.str hs⟩
  | succ j=>simp at hj
 | .slice c b e,t,fuel,cs,x,hb,h,hw=>by
  obtain⟨te,ht,hc,hby,hpos,hes,hre⟩:∃ te,P.underlying t=some (.slice te)∧P.cellsOf te=c∧P.bytesOf te=b∧0 < c∧e.size=c∧rtB P e te=true:=by
   unfold rtB at hb
   split at hb
   ·rename_i te ht
    simp only [Bool.and_eq_true] at hb
    exact⟨te,ht,Nat.eq_of_beq_eq_true hb.1,Nat.eq_of_beq_eq_true hb.2.1,Nat.le_of_ble_eq_true hb.2.2.1,Nat.eq_of_beq_eq_true hb.2.2.2.1,hb.2.2.2.2⟩
   ·cases hb
  rcases DataW.trod_slice ht h with ⟨rfl,rfl⟩|⟨a,len,cap,elems,rest,n,_,rfl,rfl,_,hlc,hcm,hlen,hel,hsp,_⟩
  ·refine⟨[.slice c []],⟨[],by simp,by simp,rfl,by simp⟩,rfl,fun j u hj=>?_⟩
   cases j with
   | zero=>simp at hj;subst hj;exact⟨_,rfl,.nil⟩
   | succ j=>simp at hj
  ·obtain⟨hrl,hrest⟩:=hsp rfl
   have hcell0:∀ i,i < cap→∃ ci y,w.cells? 0 (a.add (i * c)) c=some ci∧DataW.trod enc P w 0 (fun _=>true) true n te ci=some y∧(∀ hi:i < len,elems[i]? = some y):=by
    intro i hi
    by_cases hil:i < len
    ·have h1:=hel i hil
     have h2:elems[i]? = some (elems[i]'(by omega)):=List.getElem?_eq_getElem (by omega)
     rw [hc,h2,Option.bind_eq_some_iff] at h1
     obtain⟨ci,g1,g2⟩:=h1
     exact⟨ci,_,g1,g2,fun _=>h2⟩
    ·have h1:=hrest (i - len) (by omega)
     have h2:rest[i - len]? = some (rest[i - len]'(by omega)):=List.getElem?_eq_getElem (by omega)
     rw [show len + (i - len)=i by omega,hc,h2,Option.bind_eq_some_iff] at h1
     obtain⟨ci,g1,g2⟩:=h1
     exact⟨ci,_,g1,g2,fun h=>absurd h hil⟩
   have hlist:∀ m,m≤len→∃ l:List (List D),l.length=m∧(∀ x∈l,TyDR R e x)∧∀ i (hi:i < m),∃ ci xi,w.cells? 0 (a.add (i * c)) c=some ci∧l[i]? = some xi∧RepL w ci xi:=by
    intro m
    induction m with
    | zero=>intro _;exact⟨[],rfl,by simp,fun i hi=>by omega⟩
    | succ m ih =>
     intro hm
     obtain⟨l,l1,l2,l3⟩:=ih (by omega)
     obtain⟨ci,y,g1,g2,g3⟩:=hcell0 m (by omega)
     have hy:=g3 (by omega)
     have hmem:y.1∈elems.map (·.1):=List.mem_map.2 ⟨y,List.mem_of_getElem? hy,rfl⟩
     obtain⟨xi,t1,t2⟩:=open_rt e te n ci y hre g2 fun k hk=>hw k (by
      simp only [DataW.weights,ht,List.mem_cons,List.mem_append]
      exact .inr (.inl (weightsAll_mem hmem k hk)))
     refine⟨l++[xi],by simp [l1],fun x hx=>?_,fun i hi=>?_⟩
     ·rcases List.mem_append.1 hx with hx|hx
      ·exact l2 x hx
      ·simp at hx;subst hx;exact t1
     ·by_cases him:i < m
      ·obtain⟨ci',xi',q1,q2,q3⟩:=l3 i him
       exact⟨ci',xi',q1,by rw [List.getElem?_append_left (by omega)];exact q2,q3⟩
      ·have:i=m:=by omega
       subst this
       exact⟨ci,xi,g1,by rw [List.getElem?_append_right (by omega),l1];simp,t2⟩
   obtain⟨l,l1,l2,l3⟩:=hlist len (Nat.le_refl _)
   have hwt:l.length * b≤R:=by
    have:=hw ((elems.length + rest.length) * P.bytesOf te) (by
     simp only [DataW.weights,ht,List.length_map,List.mem_cons,true_or])
    rw [hby] at this
    refine Nat.le_trans (Nat.mul_le_mul_right b ?_) this
    omega
   refine⟨[.slice c l],⟨l,hwt,by omega,rfl,l2⟩,rfl,fun j u hj=>?_⟩
   cases j with
   | succ j=>simp at hj
   | zero =>
    simp at hj
    subst hj
    refine⟨_,rfl,?_⟩
    by_cases hcap:cap=0
    ·have h0:len=0:=by omega
     subst hcap;subst h0
     have:l=[]:=List.eq_nil_of_length_eq_zero l1
     subst this
     exact .zero
    ·obtain⟨c0,y0,g1,_,_⟩:=hcell0 0 (by omega)
     obtain⟨v0,_,hv0⟩:=(cells?_spec g1).2 0 hpos
     rw [Nat.zero_mul,addr_00] at hv0
     obtain⟨s5,s2⟩:=cell?_addr hv0
     obtain⟨ab,ao,asp⟩:=a
     simp only at s5 s2
     subst s5
     have hl3:∀ i (hi:i < l.length),(l[i]'hi).length=c∧∀ j (hj:j < (l[i]'hi).length),∃ v,w.cell? ⟨ab,ao + i * c + j,none⟩=some v∧RepC (fun _=>False) w v ((l[i]'hi)[j]'hj):=by
      intro i hi
      obtain⟨ci,xi,q1,q2,q3,q4⟩:=l3 i (by omega)
      have hxi:l[i]'hi=xi:=by rw [List.getElem?_eq_getElem hi] at q2;exact Option.some.inj q2
      subst hxi
      obtain⟨r1,r2⟩:=cells?_spec q1
      refine⟨by omega,fun j hj=>?_⟩
      obtain⟨v,v1,v2⟩:=r2 j (by omega)
      obtain⟨xx,x1,x2⟩:=q4 j v v1
      rw [Addr.add_at,Addr.add_at] at v2
      have hxx:(l[i]'hi)[j]'hj=xx:=by rw [List.getElem?_eq_getElem hj] at x1;exact Option.some.inj x1
      exact⟨v,v2,hxx▸x2⟩
     refine .slice (fun i j=>(w.cell? ⟨ab,ao + i * c + j,none⟩).getD undef) l1.symm hlc hcm (fun h=>h) s2 (fun i hi=>(hl3 i hi).1) (fun i hi j hj=>?_) (fun i hi j hj=>?_)
     ·obtain⟨v,v1,_⟩:=(hl3 i hi).2 j hj
      rw [v1];rfl
     ·obtain⟨v,v1,v2⟩:=(hl3 i hi).2 j hj
      rw [v1];exact v2
 | .struct fs,t,fuel,cs,x,hb,h,hw=>by
  obtain⟨fl,ht,hf,hc⟩:∃ fl,P.underlying t=some (.struct fl)∧rtL P fs fl.toList 0=true∧P.cellsOf t=RT.sizeL fs:=by
   unfold rtB at hb
   split at hb
   ·rename_i fl ht
    simp only [Bool.and_eq_true] at hb
    exact⟨fl,ht,hb.1,Nat.eq_of_beq_eq_true hb.2⟩
   ·cases hb
  obtain⟨xs,n,_,rfl,hcl,hxl,hx⟩:=DataW.trod_struct ht h
  obtain⟨ys,y1,y2⟩:=open_rts fs fl.toList 0 n cs xs hf (fun i f hi=>hx i f (by simpa using hi)) (by simpa using hxl) (by rw [hcl,hc];omega) (fun k hk=>hw k (by
   simp only [DataW.weights,ht];exact hk))
  exact⟨ys,y1,by simpa using y2⟩
theorem open_rts:∀ (rs:List RT) (fl:List Field) (o n:Nat) (cs:List Value) (xs:List (DataW H × List MemPlace)),rtL P rs fl o=true →
  (∀ (i:Nat) (f:Field),fl[i]? = some f→DataW.trod enc P w 0 (fun _=>true) true n f.type ((cs.drop f.offset).take (P.cellsOf f.type))=xs[i]?)→xs.length=fl.length→cs.length=o + RT.sizeL rs →
  (∀ k∈DataW.weightsEach P (fl.map (·.type)) (xs.map (·.1)),k≤R)→∃ ys,TyFR R rs ys∧RepL w (cs.drop o) ys
 | [],fl,o,n,cs,xs,hb,_,_,hl,_=>by
  refine⟨[],rfl,?_,fun j u hj=>?_⟩
  ·simp [RT.sizeL] at hl ⊢;omega
  ·rw [List.drop_eq_nil_of_le (by simp [RT.sizeL] at hl;omega)] at hj;simp at hj
 | r::rs,[],o,n,cs,xs,hb,_,_,_,_=>by simp [rtL] at hb
 | r::rs,f::fl,o,n,cs,xs,hb,hx,hxl,hl,hw=>by
  simp only [rtL,Bool.and_eq_true] at hb
  obtain⟨b1,b2,b3,b4⟩:=hb
  have b1:=Nat.eq_of_beq_eq_true b1
  have b2:=Nat.eq_of_beq_eq_true b2
  cases xs with
  | nil=>simp at hxl
  | cons y ys =>
   have h0:=hx 0 f rfl
   simp only [List.getElem?_cons_zero] at h0
   rw [b1,b2] at h0
   simp only [RT.sizeL] at hl
   obtain⟨az,a1,a2⟩:=open_rt r f.type n _ y b3 h0 fun k hk=>hw k (by
    simp only [List.map_cons,DataW.weightsEach,List.mem_append]
    exact .inl hk)
   obtain⟨bs,c1,c2⟩:=open_rts rs fl (o + r.size) n cs ys b4 (fun i g hi=>by simpa using hx (i + 1) g (by simpa using hi)) (by simpa using hxl) (by omega) (fun k hk=>hw k (by
    simp only [List.map_cons,DataW.weightsEach,List.mem_append]
    exact .inr hk))
   refine⟨az++bs,⟨az,bs,rfl,a1,c1⟩,?_⟩
   have:=a2.append c2
   have hd:(cs.drop o).take r.size++cs.drop (o + r.size)=cs.drop o:=by
    rw [← List.drop_drop]
    exact List.take_append_drop _ _
   rw [hd] at this
   exact this
end
end
end Go.Proofs.YtapciiffpnociacGreatDoor
namespace Go.Proofs.YtapciiffpnociacGreatDoor
open Go Go.RowKit Go.ChangeShapes Go.WideShapes
def RT.arg:RT→List D→SV
 | .struct _,xs=>.agg (xs.map .d)
 | _,[x]=>.d x
 | _,_=>.junk
def ArgsDR (R:Nat):List RT→List SV→Prop
 | [],az=>az=[]
 | r::rs,az=>∃ xs l,az=r.arg xs::l∧TyDR R r xs∧ArgsDR R rs l
def rtsB (P:Program):List RT→List TypeId→Bool
 | [],[]=>true
 | r::rs,t::ts=>rtB P r t && rtsB P rs ts
 | _,_=>false
section
variable {H : Type} {enc : TypeId × Value → H} {P : Program} {R : Nat}
theorem repL_agg {W:World} {e:Env}:∀ (cs:List Value) (xs:List D),RepL W cs xs→RelL (fun _=>False) e W (xs.map .d) cs
 | [],[],_=>trivial
 | [],_::_,h=>by have:=h.1;simp at this
 | _::_,[],h=>by have:=h.1;simp at this
 | c::cs,x::xs,h=>by
  obtain⟨h1,h2⟩:=h
  refine⟨?_,repL_agg cs xs ⟨by simpa using h1,fun j u hj=>by simpa using h2 (j + 1) u (by simpa using hj)⟩⟩
  obtain⟨y,hy,hr⟩:=h2 0 c rfl
  simp at hy
  subst hy
  exact hr
theorem repL_one {W:World} {e:Env} {v:Value} {x:D} (h:RepL W [v] [x]):Rel (fun _=>False) e W (.d x) v:=by
 obtain⟨y,hy,hr⟩:=h.2 0 v rfl
 simp at hy
 subst hy
 exact hr
theorem rtB_bool {t:TypeId} (h:rtB P .bool t=true):P.underlying t=some .bool:=by
 unfold rtB at h;split at h <;> first|assumption|cases h
theorem rtB_str {t:TypeId} (h:rtB P .str t=true):P.underlying t=some .string:=by
 unfold rtB at h;split at h <;> first|assumption|cases h
theorem rtB_int {t:TypeId} {k:IntKind} (h:rtB P (.int k) t=true):P.underlying t=some (.int k):=by
 unfold rtB at h
 split at h
 ·rename_i k' hk;rw [hk,sameK_spec h]
 ·cases h
theorem rtB_slice {t:TypeId} {c b:Nat} {e:RT} (h:rtB P (.slice c b e) t=true):∃ te,P.underlying t=some (.slice te):=by
 unfold rtB at h
 split at h
 ·rename_i te ht;exact⟨te,ht⟩
 ·cases h
theorem rtB_struct {t:TypeId} {fs:List RT} (h:rtB P (.struct fs) t=true):∃ fl,P.underlying t=some (.struct fl):=by
 unfold rtB at h
 split at h
 ·rename_i te ht;exact⟨te,ht⟩
 ·cases h
theorem arg_open {W:World} {e:Env} {base:Nat}:∀ (r:RT) (t:TypeId) (v:Value) (d:DataW H) (ps:List MemPlace),rtB P r t=true→DataW.Trod enc P W 0 (fun _=>true) true t v d ps→Value.okWide P W .any base t v →
  (∀ n∈d.weights P t,n≤R)→∃ xs,TyDR R r xs∧Rel (fun _=>False) e W (r.arg xs) v:=by
 intro r t v d ps hb ⟨fuel,hd⟩ hok hw
 obtain⟨xs,h1,h2⟩:=open_rt r t fuel v.cells.toList (d,ps) hb hd hw
 refine⟨xs,h1,?_⟩
 cases r with
 | bool =>
  obtain⟨b,rfl⟩:=okWide_bool (rtB_bool hb) hok
  obtain⟨b',rfl⟩:=h1
  exact repL_one h2
 | int k =>
  obtain⟨b,rfl⟩:=okWide_int (rtB_int hb) hok
  obtain⟨b',_,rfl⟩:=h1
  exact repL_one h2
 | str =>
  obtain⟨b,rfl⟩:=okWide_string (rtB_str hb) hok
  obtain⟨b',_,rfl⟩:=h1
  exact repL_one h2
 | slice c b el =>
  obtain⟨te,ht⟩:=rtB_slice hb
  obtain⟨a,n,cap,rfl⟩:=okWide_slice ht hok
  obtain⟨l,_,_,rfl,_⟩:=h1
  exact repL_one h2
 | struct fs =>
  obtain⟨fl,ht⟩:=rtB_struct hb
  obtain⟨cs,rfl,_⟩:=okWide_struct ht hok
  exact⟨cs.toList,by simp,repL_agg _ _ h2⟩
theorem args_open {W:World} {e:Env} {base:Nat}:∀ (rs:List RT) (ts:List TypeId) (vs:List Value) (ds:List (DataW H)) (ps:List MemPlace),rtsB P rs ts=true→DataW.TrodAll enc P W 0 (fun _=>true) true ts vs ds ps →
  (∀ (j:Nat) t v,ts[j]? = some t→vs[j]? = some v→Value.okWide P W .any base t v)→(∀ n∈DataW.weightsEach P ts ds,n≤R)→∃ az,ArgsDR R rs az∧RelL (fun _=>False) e W az vs
 | [],[],vs,ds,ps,_,h,_,_=>by
  obtain⟨rfl,rfl,rfl⟩:=trodAll_nil h
  exact⟨[],rfl,trivial⟩
 | [],_::_,_,_,_,hb,_,_,_=>by simp [rtsB] at hb
 | _::_,[],_,_,_,hb,_,_,_=>by simp [rtsB] at hb
 | r::rs,t::ts,vs,ds,ps,hb,h,hok,hw=>by
  obtain⟨v,vs',d,ds',p,q,rfl,rfl,rfl,h1,h2⟩:=trodAll_cons h
  simp only [rtsB,Bool.and_eq_true] at hb
  simp only [DataW.weightsEach,List.mem_append] at hw
  obtain⟨xs,g1,g2⟩:=arg_open (e:=e) r t v d p hb.1 h1 (hok 0 t v rfl rfl) fun n hn=>hw n (.inl hn)
  obtain⟨az,g3,g4⟩:=args_open (e:=e) rs ts vs' ds' q hb.2 h2 (fun j t v ht hv=>hok (j + 1) t v (by simpa using ht) (by simpa using hv)) fun n hn=>hw n (.inr hn)
  exact⟨r.arg xs::az,⟨xs,az,rfl,g1,g3⟩,g2,g4⟩
def readB (P:Program) (ts:List TypeId):Bool:=ts.all fun t=>P.readableRec t && Nat.blt t P.types.size
theorem args_again {W W':World} {spare:Nat→Bool} (hl:laidOutB P=true) (hb:Below W.heap.size W W'):∀ (ts:List TypeId) (vs:List Value) (ds:List (DataW H)) (ps:List MemPlace),readB P ts=true →
  DataW.TrodAll enc P W 0 (fun _=>true) true ts vs ds ps→(∀ p∈ps,p.block < W.heap.size)→(∀ p∈ps,spare p.block=true)→DataW.TrodAll enc P W' 0 spare true ts vs ds ps
 | [],vs,ds,ps,_,h,_,_=>by
  obtain⟨rfl,rfl,rfl⟩:=trodAll_nil h
  rfl
 | t::ts,vs,ds,ps,hr,h,hlt,hsp=>by
  obtain⟨v,vs',d,ds',p,q,rfl,rfl,rfl,h1,h2⟩:=trodAll_cons h
  simp only [readB,List.all_cons,Bool.and_eq_true] at hr
  refine⟨p,q,?_,args_again hl hb ts vs' ds' q (by simpa [readB] using hr.2) h2 (fun x hx=>hlt x (List.mem_append_right _ hx)) (fun x hx=>hsp x (List.mem_append_right _ hx)),rfl⟩
  exact WideElems.Trod_stays hl hr.1.1 (Nat.le_of_ble_eq_true hr.1.2) h1 (fun x hx=>hb.same (hlt x (List.mem_append_left _ hx))) fun x hx=>hsp x (List.mem_append_left _ hx)
theorem law_post {f:Func} {s:ChangeSpec} {apart fresh handsOn:Bool} {W W':World} {args:Array Value} {ds gs:List (DataW H)} {before:List MemPlace} {tb:TypeId}
  (hv:s.vars=[]) (hW:DataW.Whole enc P f.params.toList s.vars apart W args.toList ds gs before) (hfn:gs=[]→s.fn H (ds++gs) = { results:=[.lit (.bool true)],args:=ds })
  (hres:f.resultTypes = #[tb]) (htb:P.underlying tb=some .bool) (hl:laidOutB P=true) (hr:readB P f.params.toList=true) (hb:Below W.heap.size W W') :
  s.post enc P f apart fresh handsOn false W args (.bool true) W':=by
 have hW0:=hW
 have hlt:=fun p hp=>hW.lt p hp
 obtain⟨p,q,hA,hV,rfl,hfz,hnd⟩:=hW
 rw [hv] at hV
 obtain⟨rfl,rfl⟩:=trodVars_none hV
 have hfn:=hfn rfl
 refine⟨ds,[],p++[],[],p,[],hW0,?_,?_,?_,hb.frame _,fun h=>by cases h⟩
 ·rw [hres,hfn]
  exact trodAll_mk1 (shut_bool htb true)
 ·rw [hfn]
  exact args_again hl hb _ _ _ _ hr hA (fun x hx=>hlt x (List.mem_append_left _ hx)) fun x hx=>by simpa using hlt x (List.mem_append_left _ hx)
 ·rw [hv,hfn]
  rfl
theorem ctxX_nil {τ τok} {e:Env} {W:World} {n J β0}:∀ b,Ctx.X ⟨P,τ,τok,fun _=>False,W,fun b=>b∈ownedL e [],n,J,β0,none,noPan,true,false⟩ e [] b→False:=by
 rintro b (h|h)
 ·exact h
 ·simp [ownedL] at h
theorem law_calls {τ:List (Nat × TI)} {τok:TabOk P τ} {f:FuncId} {rs:List RT} {ts:List TypeId} {args:Array Value} {ds:List (DataW H)} {ps:List MemPlace} {W:World} {base:Nat}
  (hc:∀ az,ArgsDR R rs az→FnP false P τ τok f az (fun r=>r = .d (.bool true))) (hb:rtsB P rs ts=true) (hA:DataW.TrodAll enc P W 0 (fun _=>true) true ts args.toList ds ps)
  (hok:∀ (j:Nat) t v,ts[j]? = some t→args.toList[j]? = some v→Value.okWide P W .any base t v) (hw:∀ n∈DataW.weightsEach P ts ds,n≤R) :
  Calls P f args W fun en W'=>en = .returned (.bool true)∧Below W.heap.size W W':=by
 let e:Env:=⟨fun _=>0,fun _=>undef,lo 0⟩
 obtain⟨az,h1,h2⟩:=args_open (e:=e) rs ts args.toList ds ps hb hA hok hw
 have hk:=(hc az h1).2 (fun _=>False) e W args.toList ?_ ?_
 ·rw [Array.toArray_toList] at hk
  refine Calls.mono hk ?_
  rintro en W' ⟨k',r,H',e',v,⟨rfl,_,rfl⟩,rfl,hH,hr⟩
  have hr':RepC _ W' v (.bool true):=hr
  cases hr'
  exact⟨rfl,⟨hH.os,hH.tape,hH.output,hH.size,fun b hb=>hH.block b hb (by simp [ownedL])⟩⟩
 ·exact { top:=fun _=>Iff.rfl,heap:=(fun p hp=>nomatch hp),ids:=.nil,nodup:=.nil,mine:=(fun b hb=>nomatch hb),os:=rfl,tape:=rfl,output:=rfl,drawn:=(fun _=>Nat.le_refl _),size:=Nat.le_refl _,block:=(fun _ _ _=>rfl),obound:=(fun _ h=>h.elim),jle:=(fun _ h=>nomatch h),anchor:=(fun _ h=>nomatch h) }
 ·exact RelL.keep (Nat.le_refl _) (fun _ _ _=>rfl) (fun b _ hy=>ctxX_nil b hy) _ _ h2
end
open Go Go.RowKit
theorem plistOf {α:Type} {e:RT} {enc:α→List D} (h:∀ x,TyD e x→∃ t,x=enc t):∀ (l:List (List D)),(∀ x∈l,TyD e x)→∃ ts:List α,l=ts.map enc
 | [],_=>⟨[],rfl⟩
 | x::l,hl=>by
  obtain⟨t,rfl⟩:=h x (hl x (List.mem_cons_self ..))
  obtain⟨ts,rfl⟩:=plistOf h l fun y hy=>hl y (List.mem_cons_of_mem _ hy)
  exact⟨t::ts,rfl⟩
theorem psliceOf {α:Type} {c b:Nat} {e:RT} {enc:α→List D} (h:∀ x,TyD e x→∃ t,x=enc t) (x:List D) (hx:TyD (.slice c b e) x):∃ ts:List α,x=[.slice c (ts.map enc)]:=by
 obtain⟨l,_,_,rfl,h3⟩:=hx
 obtain⟨ts,rfl⟩:=plistOf h l h3
 exact⟨ts,rfl⟩
abbrev rtTrm:RT:=.struct [.int .i64,.int .i64]
abbrev rtLtl:RT:=.struct [.int .i64,.int .i64,.int .i64,.slice 2 16 rtTrm]
abbrev rtRul:RT:=.struct [.int .i64,.slice 2 16 rtTrm,.int .i64,.slice 4 48 rtLtl,.int .i64]
abbrev rtPrg:RT:=.struct [.slice 1 8 (.int .i64),.slice 1 16 .str,.slice 5 72 rtRul]
theorem pint_of (x:List D) (h:TyD (.int .i64) x):∃ n:Int,x=encI n:=by
 obtain⟨n,_,rfl⟩:=h
 exact⟨n,rfl⟩
theorem pstr_of (x:List D) (h:TyD .str x):∃ n:ByteArray,x=encT n:=by
 obtain⟨n,_,rfl⟩:=h
 exact⟨n,rfl⟩
theorem trm_of (x:List D) (h:TyD rtTrm x):∃ t:Trm,x=encTrm t:=by
 obtain⟨a,b,rfl,⟨k,_,rfl⟩,c,d,rfl,⟨p,_,rfl⟩,rfl⟩:=h
 exact⟨⟨k,p⟩,rfl⟩
theorem ltl_of (x:List D) (h:TyD rtLtl x):∃ t:Ltl,x=encLtl t:=by
 obtain⟨a,b,rfl,⟨k,_,rfl⟩,c,d,rfl,⟨p,_,rfl⟩,e,f,rfl,⟨q,_,rfl⟩,g,i,rfl,h4,rfl⟩:=h
 obtain⟨l,rfl⟩:=psliceOf trm_of g h4
 exact⟨⟨k,p,q,l⟩,rfl⟩
theorem rul_of (x:List D) (h:TyD rtRul x):∃ t:Rul,x=encRul t:=by
 obtain⟨a,b,rfl,⟨k,_,rfl⟩,c,d,rfl,h2,e,f,rfl,⟨q,_,rfl⟩,g,i,rfl,h4,j,m,rfl,⟨v,_,rfl⟩,rfl⟩:=h
 obtain⟨l,rfl⟩:=psliceOf trm_of c h2
 obtain⟨n,rfl⟩:=psliceOf ltl_of g h4
 exact⟨⟨k,l,q,n,v⟩,rfl⟩
theorem prg_arg (x:List D) (h:TyD rtPrg x):∃ p:Prg,RT.arg rtPrg x=elPrg p:=by
 obtain⟨c,d,rfl,h2,e,f,rfl,h3,g,h,rfl,h4,rfl⟩:=h
 obtain⟨l,rfl⟩:=psliceOf pint_of c h2
 obtain⟨m,rfl⟩:=psliceOf pstr_of e h3
 obtain⟨n,rfl⟩:=psliceOf rul_of g h4
 exact⟨⟨l,m,n⟩,rfl⟩
abbrev rtFct:RT:=.struct [.int .i64,.slice 1 8 (.int .i64)]
theorem fct_of (x:List D) (h:TyD rtFct x):∃ t:Fct,x=encFct t:=by
 obtain⟨a,b,rfl,⟨k,_,rfl⟩,c,d,rfl,h2,rfl⟩:=h
 obtain⟨l,rfl⟩:=psliceOf pint_of c h2
 exact⟨⟨k,l⟩,rfl⟩
theorem fct_arg (x:List D) (h:TyD rtFct x):∃ f:Fct,RT.arg rtFct x=elFct f:=by
 obtain⟨f,rfl⟩:=fct_of x h
 exact⟨f,rfl⟩
end Go.Proofs.YtapciiffpnociacGreatDoor
namespace Go.Proofs.YtapciiffpnociacGreatDoor
open Go Go.RowKit Go.ChangeShapes Go.WideShapes
section
variable {H : Type} {enc : TypeId × Value → H} {R : Nat}
theorem law_lifted_row {C:Checked} {τ:List (Nat × TI)} {τok:TabOk C.prog τ} {os:Os} (started:os.Started) {f:FuncId} {fn:Func} {s:OpenSpec} {F:Stop.Interp} {conds:List PathCond} {apart fresh handsOn:Bool} {laid:List (String × DataW Unit)} {rs:List RT} {tb:TypeId}
  (own:ownKnob C.prog.godebug=none) (noInit:C.prog.inits.idxOf? f=none) (hfn:C.prog.funcs[f]? = some fn)
  (witness:∃ (w:World) (tape:Tape) (i:Input),w.os=os∧(w.forCall tape i).Shaped C.prog∧i.vars=[]∧Input.okWide C.prog (w.forCall tape i) .any w.heap.size f i ∧
   s.preRow enc C.prog fn conds apart laid (w.forCall tape i).memory i.args∧({}:Assume).holds C.prog (lone (Frame.enter C.prog f i.args .normal) [] (w.forCall tape i)))
  (hv:s.vars=[]) (hva:(s.at F).vars=[]) (hvt:s.bare.plain.varTypes C.prog=[]) (hs:∀ (ds:List (DataW H)),ds.length=fn.params.toList.length→(s.at F).fn H ds = { results:=[.lit (.bool true)],args:=ds })
  (hres:fn.resultTypes = #[tb]) (htb:C.prog.underlying tb=some .bool) (hl:laidOutB C.prog=true) (hr:readB C.prog fn.params.toList=true) (hb:rtsB C.prog rs fn.params.toList=true)
  (hkR:∀ ds:List (DataW H),(∀ k,s.cond=some k→k H ds=true)→(∀ n∈DataW.weightsEach C.prog fn.params.toList ds,n≤reachBytes)→∀ n∈DataW.weightsEach C.prog fn.params.toList ds,n≤R)
  (hc:∀ az,ArgsDR R rs az→FnP false C.prog τ τok f az (fun r=>r = .d (.bool true))) :
  ReturnsInHanded {} C os f .any (s.preRow enc C.prog fn conds apart laid) ((s.at F).post enc C.prog fn apart fresh handsOn false):=by
 refine returnsInHanded_of_row own started noInit hfn witness ?_
 intro W base args ds gs before hval hW _ hkk hwt _ _ _
 obtain⟨p,q,hA,hV,hpq,hfz,hnd⟩:=id hW
 rw [hv] at hV
 obtain⟨rfl,rfl⟩:=trodVars_none hV
 rw [hvt,List.append_nil,List.append_nil] at hwt
 simp only [List.append_nil] at hkk
 have hlen:∀ (ts:List TypeId) (vs:List Value) (ds:List (DataW H)) (ps:List MemPlace),DataW.TrodAll enc C.prog W 0 (fun _=>true) true ts vs ds ps→ds.length=ts.length:=by
  intro ts
  induction ts with
  | nil=>intro vs ds ps h;obtain⟨rfl,rfl,rfl⟩:=trodAll_nil h;rfl
  | cons t ts ih =>
   intro vs ds ps h
   obtain⟨v,vs',d,ds',p,q,rfl,rfl,rfl,h1,h2⟩:=trodAll_cons h
   simp [ih _ _ _ h2]
 refine (law_calls hc hb hA (fun j t v ht hv=>hval j t v (by simpa using ht) (by simpa using hv)) (hkR ds hkk fun n hn=>by simpa using List.all_eq_true.1 hwt n hn)).mono ?_
 rintro en W' ⟨rfl,hbl⟩
 rw [hv] at hW
 exact⟨_,rfl,law_post hva (by rw [hva];exact hW) (fun _=>by rw [List.append_nil];exact hs ds (hlen _ _ _ _ hA)) hres htb hl hr hbl⟩
end
open Go Go.RowKit
theorem list_of {α:Type} {e:RT} {enc:α→List D} (h:∀ x,TyD e x→∃ t,x=enc t):∀ (l:List (List D)),(∀ x∈l,TyD e x)→∃ ts:List α,l=ts.map enc
 | [],_=>⟨[],rfl⟩
 | x::l,hl=>by
  obtain⟨t,rfl⟩:=h x (hl x (List.mem_cons_self ..))
  obtain⟨ts,rfl⟩:=list_of h l fun y hy=>hl y (List.mem_cons_of_mem _ hy)
  exact⟨t::ts,rfl⟩
abbrev rtTTm:RT:=.struct [.str,.int .i64]
abbrev rtTLt:RT:=.struct [.int .i64,.int .i64,.int .i64,.str,.slice 2 24 rtTTm]
abbrev rtTRu:RT:=.struct [.int .i64,.str,.slice 2 24 rtTTm,.int .i64,.slice 5 64 rtTLt]
abbrev rtTree:RT:=.struct [.slice 5 80 rtTRu]
theorem sliceT {α:Type} {c b:Nat} {e:RT} {enc:α→List D} (h:∀ x,TyD e x→∃ t,x=enc t) (x:List D) (hx:TyD (.slice c b e) x):∃ ts:List α,x=[.slice c (ts.map enc)]:=by
 obtain⟨l,_,_,rfl,h3⟩:=hx
 obtain⟨ts,rfl⟩:=list_of h l h3
 exact⟨ts,rfl⟩
theorem ttm_of (x:List D) (h:TyD rtTTm x):∃ t,x=encTTm t:=by
 obtain⟨a,b,rfl,⟨k,_,rfl⟩,c,d,rfl,⟨p,_,rfl⟩,rfl⟩:=h
 exact⟨⟨k,p⟩,rfl⟩
theorem tlt_of (x:List D) (h:TyD rtTLt x):∃ t,x=encTLt t:=by
 obtain⟨a,b,rfl,⟨k,_,rfl⟩,c,d,rfl,⟨p,_,rfl⟩,e,f,rfl,⟨q,_,rfl⟩,u,v,rfl,⟨n,_,rfl⟩,g,i,rfl,h4,rfl⟩:=h
 obtain⟨l,rfl⟩:=sliceT ttm_of g h4
 exact⟨⟨k,p,q,n,l⟩,rfl⟩
theorem tru_of (x:List D) (h:TyD rtTRu x):∃ t,x=encTRu t:=by
 obtain⟨a,b,rfl,⟨k,_,rfl⟩,c,d,rfl,⟨p,_,rfl⟩,e,f,rfl,h3,u,v,rfl,⟨n,_,rfl⟩,g,i,rfl,h4,rfl⟩:=h
 obtain⟨l,rfl⟩:=sliceT ttm_of e h3
 obtain⟨m,rfl⟩:=sliceT tlt_of g h4
 exact⟨⟨k,p,l,n,m⟩,rfl⟩
theorem tree_arg (x:List D) (h:TyD rtTree x):∃ rs:List TRu,RT.arg rtTree x = .agg [.d (.slice 5 (rs.map encTRu))]:=by
 obtain⟨c,d,rfl,h2,rfl⟩:=h
 obtain⟨l,rfl⟩:=sliceT tru_of c h2
 exact⟨l,rfl⟩
end Go.Proofs.YtapciiffpnociacGreatDoor
