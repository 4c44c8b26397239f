/- Several texts in one: ChB ChC PrgIn ChD ChE RelIn ChIn GxUpt. Condition: none. -/
import Derived.Test.YtapciiffpnociacGreatD23
import Derived.Test.YtapciiffpnociacGreatD16
import Derived.Test.YtapciiffpnociacGreatD08
import Derived.Test.YtapciiffpnociacGreatD09
import Derived.Test.YtapciiffpnociacGreatD22
import Derived.Test.YtapciiffpnociacGreatRows

/- The program's change.Play; the law's checkChange, changeBegun; the law ChangeApplies. Condition: none. -/
namespace Go.Proofs.YtapciiffpnociacGreat
open Go Go.RowKit
theorem FnP.args {dr:Bool} {P:Program} {τ:List (Nat × TI)} {τok:TabOk P τ} {f:FuncId} {args args':List SV} {R:SV→Prop} (hc:FnP dr P τ τok f args R) (h:∀ X e w vs,RelL X e w args' vs→RelL X e w args vs):FnP dr P τ τok f args' R :=
 ⟨hc.1,fun O e w vs hH hr=>hc.2 O e w vs hH (h _ _ _ _ hr)⟩
theorem nil_rel {X e w} {es:Nat} {v:Value} (h:Rel X e w .nils v):Rel X e w (.d (.slice es [])) v:=by
 rw [show v = .slice none 0 0 from h]
 exact .nil
def playL (m came went:List Fct):List Fct:=setF' (setF' (minusL m went)++came)
def oneF:List Fct:=[⟨0,[1,2]⟩]
def oneM:List Fct:=[⟨0,[1,2]⟩,⟨1,[1,2]⟩]
theorem one_err:mErr smallP oneF=0:=by
 unfold mErr
 rw [if_neg (by rw [show progE nameR smallP=0 by kernel_rfl];simp),if_neg (by rw [small_doc];simp)]
 kernel_rfl
theorem q_one:manyW oneF smallQ=true∧rawW oneF smallQ=[[1,2]]:=one_way (by kernel_rfl) (List.pairwise_singleton _ _) (by simp)
theorem q_oneM:manyW oneM smallQ=true∧rawW oneM smallQ=[[1,2]]:=one_way (by kernel_rfl) (List.pairwise_singleton _ _) (by simp)
theorem r_oneM:manyW oneM smallR=true∧rawW oneM smallR=[]:=one_way (by kernel_rfl) .nil (by simp)
theorem one_model:ModelR smallP oneF 0 oneM:=by
 have ho:=mOk one_err
 have hV:=lvV_ok ho.pr ho.fit 0 oneF
 have hset0:setF' oneF=oneF:=by kernel_rfl
 have hst0:Strict oneF:=by
  have:=(setF_spec oneF).1
  rw [hset0] at this
  exact this
 have i0:InvM (lvV smallP (docLv smallP) 0 oneF) oneF oneF:=inv_first hst0 ⟨ho.facts,fun _ _=>Iff.rfl⟩ (by decide)
 have hQ:smallQ∈(lvV smallP (docLv smallP) 0 oneF).rs:=List.mem_filter.2 ⟨by rw [smallP_rules];simp,by rw [small_lv];decide⟩
 have hq:hdW oneF smallQ=[⟨1,[1,2]⟩]:=by unfold hdW;rw [q_one.2];kernel_rfl
 have hqf:hdW oneM smallQ=[⟨1,[1,2]⟩]:=by unfold hdW;rw [q_oneM.2];kernel_rfl
 have hrf:hdW oneM smallR=[]:=by unfold hdW;rw [r_oneM.2];kernel_rfl
 have i1:=inv_put hV i0 (H:=[⟨1,[1,2]⟩]) (fun x hx=>⟨smallQ,hQ,oneF,i0,by show x∈hdW oneF smallQ;rw [hq];exact hx⟩) (by decide)
 rw [show setF' (oneF++[⟨1,[1,2]⟩])=oneM by kernel_rfl] at i1
 have hfit0:Fit (lvV smallP (docLv smallP) 0 oneF) oneF oneM:=by
  have key:∀ r∈(lvV smallP (docLv smallP) 0 oneF).rs,manyW oneM r=true∧∀ x∈hdW oneM r,x∈oneM:=by
   intro r hr'
   have hm:=(List.mem_filter.1 hr').1
   rw [smallP_rules] at hm
   simp only [List.mem_cons,List.not_mem_nil,or_false] at hm
   rcases hm with rfl|rfl
   ·refine⟨q_oneM.1,fun x hx=>?_⟩
    rw [hqf] at hx
    simp only [List.mem_cons,List.not_mem_nil,or_false] at hx
    subst hx
    simp [oneM]
   ·refine⟨r_oneM.1,fun x hx=>?_⟩
    rw [hrf] at hx
    simp at hx
  exact fit_done i1 (fun r hr=>(key r hr).1) fun r hr=>(key r hr).2
 have hfit1:Fit (lvV smallP (docLv smallP) 1 oneM) oneM oneM:=by
  have hno:∀ r∈(lvV smallP (docLv smallP) 1 oneM).rs,False:=by
   intro r hr'
   obtain⟨hm,hl⟩:=List.mem_filter.1 hr'
   rw [smallP_rules] at hm
   simp only [List.mem_cons,List.not_mem_nil,or_false] at hm
   rw [small_lv] at hl
   rcases hm with rfl|rfl <;> exact absurd (of_decide_eq_true hl) (by decide)
  exact fit_done (inv_first i1.strict ⟨i1.a.1,fun _ _=>Iff.rfl⟩ (by decide)) (fun r hr=>(hno r hr).elim) fun r hr=>(hno r hr).elim
 exact .ok oneM one_err ⟨oneM,⟨oneF,hset0.symm,hfit0⟩,hfit1⟩
attribute [local irreducible] DW DS DL DQ Ev FnOk FnP thenD inBlockD DT
set_option maxHeartbeats 8000000 in
theorem play_fn (m came went:List Fct) (hm:m.length + came.length≤4398046511104) (hw:went.length≤4398046511104) (ha:∀ x∈m,x.args.length≤17592186044416) (hb:∀ x∈came,x.args.length≤17592186044416) (hc:∀ x∈went,x.args.length≤17592186044416) :
  Fn 35 [.d (.slice 2 (m.map encFct)),elChg came went] (fun r=>r = .d (.slice 2 ((playL m came went).map encFct))):=by
 refine fnp_enter' _ Tryz.func35 rfl rfl (by kernel_rfl) ?_
 intro O w0 E0 β0
 have w1:=minus_fn m went (by omega) hw ha hc
 rw [minus_same] at w1
 have hl:(setF' (minusL m went)).length≤m.length:=Nat.le_trans (setF_lenle _) (List.length_filter_le _ _)
 have w2:=union_fn (setF' (minusL m went)) came (by omega) (fun x hx=>ha x (List.mem_filter.1 (((setF_spec _).2 x).1 hx)).1) hb
 repeat' (first|refine z0 ?_|apply ds_nil|refine z5 ?_|refine z10 ?_|apply dw_seq2|refine z16 ?_|refine z20 ?_|apply dw_ret|apply thenD_n|refine z22 ?_ (hc:=by apply w1)|refine z22 ?_ (hc:=by apply w2)|refine z1 ?_|fail)
 exact⟨.inl rfl,_,rfl,rfl,rfl⟩
set_option maxHeartbeats 8000000 in
theorem checkChange_fn (p:Prg) (l m puts takes:List Fct) (e:Int) (was:List Fct) (hx:ModelR p l e was) (hm:m.length≤4398046511104) :
  Fn 32 [elPrg p,.d (.slice 2 (l.map encFct)),.d (.slice 2 (m.map encFct)),.d (.slice 2 (puts.map encFct)),.d (.slice 2 (takes.map encFct))]
   (fun r=>r = .tup [.d (.int .i64 (chgE p.arity e was m puts takes)),.d (.slice 2 ((if chgE p.arity e was m puts takes=0 then givenL l puts takes else []).map encFct))]):=by
 refine fnp_enter' _ Tryz.func32 rfl rfl (by kernel_rfl) ?_
 intro O w0 E0 β0
 have w1:=fullModel_fn p l e was hx
 have w2:=checkFacts_fn p puts
 have w3:=checkFacts_fn p takes
 have lp:(puts.map encFct).length=puts.length:=List.length_map _
 have lt:(takes.map encFct).length=takes.length:=List.length_map _
 have w4:=setOf_fn m hm
 have w5:=sameFacts_fn was (setF' m)
 refine dw_len_map (t:=3) rfl fun hk1=>?_
 refine dw_len_map (t:=4) rfl fun hk2=>?_
 by_cases hE:putE p.arity e puts takes=0
 ·obtain⟨he0,p1,p2,p3,p4⟩:=putE_zero hE
  subst he0
  have ho:=mOk hx.ok0
  have hll:=ho.len
  have f1:factsE p.arity puts=0:=factsE_zero p3 p1
  have f2:factsE p.arity takes=0:=factsE_zero p4 p2
  rw [f1] at w2
  rw [f2] at w3
  have hml:(setF' (minusL l takes)).length≤60:=Nat.le_trans (setF_lenle _) (Nat.le_trans (List.length_filter_le _ _) hll)
  have w6:=minusOf_fn l takes (by omega)
  have w7:=unionOf_fn (setF' (minusL l takes)) puts (by omega)
  have hcc:chgE p.arity 0 was m puts takes=if sameL Fct.same was (setF' m)=false then 4 else 0:=by unfold chgE;rw [hE];simp
  cases hs:sameL Fct.same was (setF' m) with
  | false =>
   rw [hs,if_pos rfl] at hcc
   rw [hcc,if_neg (by simp)]
   rw [hs] at w5
   clear w6 w7
   repeat' (first|refine z0 ?_|refine z12 ?_|apply ds_nil|apply dw_seq2|refine z16 ?_|apply dw_skip|refine z18 ?_|refine z19 ?_|apply thenD_n|refine z21 ?_ (hc:=by apply w1)|refine z21 ?_ (hc:=by apply w2)|refine z21 ?_ (hc:=by apply w3)|refine z21 ?_ (hc:=by apply w4)|refine z21 ?_ (hc:=by apply w5)|refine z1 ?_|(refine z23 ?_ ?_ <;> intro hg)|((fail_if_success (apply ds_known;exact rfl));apply ds_guardP;exact rfl;exact rfl;exact rfl;all_goals intro hg))
   all_goals try (exfalso;omega)
   refine dw_ent (ent_nild 11 2 rfl) ?_
   repeat' (first|apply dw_ret|apply thenD_r)
   exact⟨.inl rfl,_,rfl,rfl,rfl⟩
  | true =>
   rw [hs,if_neg (by simp)] at hcc
   rw [hcc,if_pos rfl]
   rw [hs] at w5
   repeat' (first|refine z0 ?_|refine z12 ?_|apply ds_nil|apply dw_seq2|refine z16 ?_|apply dw_skip|apply dw_ret|refine z18 ?_|refine z19 ?_|apply thenD_n|apply thenD_r|refine z21 ?_ (hc:=by apply w1)|refine z21 ?_ (hc:=by apply w2)|refine z21 ?_ (hc:=by apply w3)|refine z21 ?_ (hc:=by apply w4)|refine z21 ?_ (hc:=by apply w5)|refine z21 ?_ (hc:=by apply w6)|refine z21 ?_ (hc:=by apply w7)|refine z1 ?_|(refine z23 ?_ ?_ <;> intro hg)|((fail_if_success (apply ds_known;exact rfl));apply ds_guardP;exact rfl;exact rfl;exact rfl;all_goals intro hg))
   all_goals try (exfalso;omega)
   exact⟨.inl rfl,_,rfl,rfl,rfl⟩
 ·have hcc:chgE p.arity e was m puts takes=putE p.arity e puts takes:=by unfold chgE;rw [if_neg (fun h=>hE h.1)]
  rw [hcc,if_neg hE]
  have hpu:putE p.arity e puts takes=rightF p.arity (rightF p.arity (manyF (manyF e puts) takes) puts) takes:=rfl
  generalize putE p.arity e puts takes=pe at *
  obtain⟨fa,hfa⟩:∃ fa,fa=factsE p.arity puts:=⟨_,rfl⟩
  obtain⟨fb,hfb⟩:∃ fb,fb=factsE p.arity takes:=⟨_,rfl⟩
  rw [← hfa] at w2
  rw [← hfb] at w3
  simp only [rightF,manyF,← hfa,← hfb] at hpu
  clear hfa hfb
  clear w4 w5 hcc hx
  repeat' (first|refine z0 ?_|refine z12 ?_|apply ds_nil|apply dw_seq2|refine z16 ?_|apply dw_skip|refine z18 ?_|refine z19 ?_|apply thenD_n|refine z21 ?_ (hc:=by apply w1)|refine z21 ?_ (hc:=by apply w2)|refine z21 ?_ (hc:=by apply w3)|refine z1 ?_|(refine z23 ?_ ?_ <;> intro hg)|((fail_if_success (apply ds_known;exact rfl));apply ds_guardP;exact rfl;exact rfl;exact rfl;all_goals intro hg))
  all_goals try (exfalso;omega)
  all_goals clear w1 w2 w3
  all_goals try (refine dw_ent (ent_nild 11 2 rfl) ?_;repeat' (first|apply dw_ret|apply thenD_r))
  all_goals try (refine⟨.inl rfl,_,rfl,rfl,?_⟩)
  all_goals first
   | (have hq:pe=2:=by omega
      rw [hq];rfl)
   | (have hq:pe=e:=by omega
      rw [hq];rfl)
   | (have hq:pe=fa:=by omega
      rw [hq];rfl)
   | (have hq:pe=fb:=by omega
      rw [hq];rfl)
end Go.Proofs.YtapciiffpnociacGreat

/- The law's changeBegun. Condition: none. -/
namespace Go.Proofs.YtapciiffpnociacGreat
open Go Go.RowKit
theorem relL_nil {X e w} {es:Nat}:∀ (a b:List SV) (vs:List Value),RelL X e w (a++.nils::b) vs→RelL X e w (a++.d (.slice es [])::b) vs
 | [],_,[],h=>(show False from h).elim
 | [],_,_::_,⟨h,t⟩=>⟨nil_rel h,t⟩
 | _::_,_,[],h=>(show False from h).elim
 | _::a,b,_::vs,⟨h,t⟩=>⟨h,relL_nil a b vs t⟩
def backF:List Fct:=[⟨0,[2,3]⟩]
def wentF:List Fct:=[⟨0,[2,3]⟩,⟨1,[1,3]⟩,⟨1,[2,3]⟩]
theorem one_given:givenL pairsF [] backF=oneF:=by kernel_rfl
theorem one_chg:chgE smallP.arity 0 fullF fullF [] backF=0:=by kernel_rfl
theorem one_came:setF' (minusL oneM fullF)=[]:=by kernel_rfl
theorem one_went:setF' (minusL fullF oneM)=wentF:=by kernel_rfl
theorem one_play:playL fullF [] wentF=oneM:=by kernel_rfl
attribute [local irreducible] DW DS DL DQ Ev FnOk FnP thenD inBlockD DT
theorem onePlay_fn:Fn 35 [.d (.slice 2 (fullF.map encFct)),.agg [.d (.slice 2 []),.d (.slice 2 (wentF.map encFct))]] (fun r=>r = .d (.slice 2 (oneM.map encFct))):=by
 have h:=play_fn fullF [] wentF (by decide) (by decide) (by decide) (by simp) (by decide)
 rw [one_play] at h
 exact h
theorem oneApply_fn:Fn 31 [elPrg smallP,.d (.slice 2 (pairsF.map encFct)),.d (.slice 2 (fullF.map encFct)),.nils,.d (.slice 2 (backF.map encFct))]
  (fun r=>r = .tup [.d (.slice 2 (oneF.map encFct)),.d (.slice 2 (oneM.map encFct)),.agg [.d (.slice 2 []),.d (.slice 2 (wentF.map encFct))],.d (.int .i64 0)]):=by
 have h:=apply_fn smallP pairsF fullF [] backF 0 0 fullF oneM small_model (by rw [one_given];exact one_model) (by decide) (by decide)
 rw [if_pos ⟨one_chg,rfl⟩,one_given,one_came,one_went] at h
 exact h.args fun X e w vs hr=>relL_nil [elPrg smallP,.d (.slice 2 (pairsF.map encFct)),.d (.slice 2 (fullF.map encFct))] [.d (.slice 2 (backF.map encFct))] vs hr
set_option maxHeartbeats 8000000 in
theorem changeBegun_fn:Fn 34 [] (fun r=>r = .d (.bool true)):=by
 refine fnp_enter' _ Tryz.func34 rfl rfl (by kernel_rfl) ?_
 intro O w0 E0 β0
 have h1:=lsmall_fn
 have h2:=lpairs_fn
 have h3:=lfull_fn
 have h4:=rfact_fn 0 [2,3]
 have h5:=rfact_fn 0 [1,2]
 have h6:=rfact_fn 1 [1,2]
 have h7:=oneApply_fn
 have h8:=onePlay_fn
 have h9:=sameFacts_fn oneF oneF
 have ha:=sameFacts_fn oneM oneM
 rw [sameF_eq] at h9 ha
 have lw:(wentF.map encFct).length=3:=rfl
 have lw2:wentF.length=3:=rfl
 have lp:(pairsF.map encFct).length=2:=rfl
 have lp2:pairsF.length=2:=rfl
 repeat' (first|refine z0 ?_|apply ds_nil|refine z5 ?_|refine z10 ?_|apply dw_seq2|refine z16 ?_|refine z20 ?_|apply dw_ret|apply thenD_n|refine z21 ?_ (hc:=by apply h1)|refine z21 ?_ (hc:=by apply h2)|refine z22 ?_ (hc:=by apply h2)|refine z21 ?_ (hc:=by apply h3)|refine z22 ?_ (hc:=by apply h3)|refine z21 ?_ (hc:=by apply h4)|refine z22 ?_ (hc:=by apply h5)|refine z22 ?_ (hc:=by apply h6)|refine z21 ?_ (hc:=by apply h7)|refine z22 ?_ (hc:=by apply h8)|refine z22 ?_ (hc:=by apply h9)|refine z22 ?_ (hc:=by apply ha)|refine z1 ?_|refine z3 ?_|refine z4 ?_|fail)
 exact⟨.inl rfl,_,rfl,rfl,rfl⟩
end Go.Proofs.YtapciiffpnociacGreat

/- Programs that are handed in, read as data. Condition: none. -/
namespace Go.Proofs.YtapciiffpnociacGreat
open Go Go.RowKit
theorem plistOf {α:Type} {e:RT} {enc:α→List D} (h:∀ x,TyD e x→∃ t,x=enc t):∀ (l:List (List D)),(∀ x∈l,TyD e x)→∃ ts:List α,l=ts.map enc
 | [],_=>⟨[],rfl⟩
 | x::l,hl=>by
  obtain⟨t,rfl⟩:=h x (hl x (List.mem_cons_self ..))
  obtain⟨ts,rfl⟩:=plistOf h l fun y hy=>hl y (List.mem_cons_of_mem _ hy)
  exact⟨t::ts,rfl⟩
theorem psliceOf {α:Type} {c b:Nat} {e:RT} {enc:α→List D} (h:∀ x,TyD e x→∃ t,x=enc t) (x:List D) (hx:TyD (.slice c b e) x):∃ ts:List α,x=[.slice c (ts.map enc)]:=by
 obtain⟨l,_,_,rfl,h3⟩:=hx
 obtain⟨ts,rfl⟩:=plistOf h l h3
 exact⟨ts,rfl⟩
abbrev rtTrm:RT:=.struct [.int .i64,.int .i64]
abbrev rtLtl:RT:=.struct [.int .i64,.int .i64,.int .i64,.slice 2 16 rtTrm]
abbrev rtRul:RT:=.struct [.int .i64,.slice 2 16 rtTrm,.int .i64,.slice 4 48 rtLtl,.int .i64]
abbrev rtPrg:RT:=.struct [.slice 1 8 (.int .i64),.slice 1 16 .str,.slice 5 72 rtRul]
theorem pint_of (x:List D) (h:TyD (.int .i64) x):∃ n:Int,x=encI n:=by
 obtain⟨n,_,rfl⟩:=h
 exact⟨n,rfl⟩
theorem pstr_of (x:List D) (h:TyD .str x):∃ n:ByteArray,x=encT n:=by
 obtain⟨n,_,rfl⟩:=h
 exact⟨n,rfl⟩
theorem trm_of (x:List D) (h:TyD rtTrm x):∃ t:Trm,x=encTrm t:=by
 obtain⟨a,b,rfl,⟨k,_,rfl⟩,c,d,rfl,⟨p,_,rfl⟩,rfl⟩:=h
 exact⟨⟨k,p⟩,rfl⟩
theorem ltl_of (x:List D) (h:TyD rtLtl x):∃ t:Ltl,x=encLtl t:=by
 obtain⟨a,b,rfl,⟨k,_,rfl⟩,c,d,rfl,⟨p,_,rfl⟩,e,f,rfl,⟨q,_,rfl⟩,g,i,rfl,h4,rfl⟩:=h
 obtain⟨l,rfl⟩:=psliceOf trm_of g h4
 exact⟨⟨k,p,q,l⟩,rfl⟩
theorem rul_of (x:List D) (h:TyD rtRul x):∃ t:Rul,x=encRul t:=by
 obtain⟨a,b,rfl,⟨k,_,rfl⟩,c,d,rfl,h2,e,f,rfl,⟨q,_,rfl⟩,g,i,rfl,h4,j,m,rfl,⟨v,_,rfl⟩,rfl⟩:=h
 obtain⟨l,rfl⟩:=psliceOf trm_of c h2
 obtain⟨n,rfl⟩:=psliceOf ltl_of g h4
 exact⟨⟨k,l,q,n,v⟩,rfl⟩
theorem prg_arg (x:List D) (h:TyD rtPrg x):∃ p:Prg,RT.arg rtPrg x=elPrg p:=by
 obtain⟨c,d,rfl,h2,e,f,rfl,h3,g,h,rfl,h4,rfl⟩:=h
 obtain⟨l,rfl⟩:=psliceOf pint_of c h2
 obtain⟨m,rfl⟩:=psliceOf pstr_of e h3
 obtain⟨n,rfl⟩:=psliceOf rul_of g h4
 exact⟨⟨l,m,n⟩,rfl⟩
abbrev rtFct:RT:=.struct [.int .i64,.slice 1 8 (.int .i64)]
theorem fct_of (x:List D) (h:TyD rtFct x):∃ t:Fct,x=encFct t:=by
 obtain⟨a,b,rfl,⟨k,_,rfl⟩,c,d,rfl,h2,rfl⟩:=h
 obtain⟨l,rfl⟩:=psliceOf pint_of c h2
 exact⟨⟨k,l⟩,rfl⟩
theorem fcts_arg (x:List D) (h:TyD (.slice 2 32 rtFct) x):∃ l:List Fct,RT.arg (.slice 2 32 rtFct) x = .d (.slice 2 (l.map encFct)):=by
 obtain⟨l,rfl⟩:=psliceOf fct_of x h
 exact⟨l,rfl⟩
end Go.Proofs.YtapciiffpnociacGreat

/- ChangeApplies, as it is walked. Condition: none. -/
namespace Go.Proofs.YtapciiffpnociacGreat
open Go Go.RowKit
theorem plistOfP {α:Type} {e:RT} {enc:α→List D} {Q:α→Prop} (h:∀ x,TyD e x→∃ t,x=enc t∧Q t):∀ (l:List (List D)),(∀ x∈l,TyD e x)→∃ ts:List α,l=ts.map enc∧∀ t∈ts,Q t
 | [],_=>⟨[],rfl,by simp⟩
 | x::l,hl=>by
  obtain⟨t,rfl,q⟩:=h x (hl x (List.mem_cons_self ..))
  obtain⟨ts,rfl,qs⟩:=plistOfP h l fun y hy=>hl y (List.mem_cons_of_mem _ hy)
  exact⟨t::ts,rfl,by simp;exact⟨q,qs⟩⟩
def FctB (f:Fct):Prop:=f.args.length≤17592186044416
theorem fct_ofB (x:List D) (h:TyD rtFct x):∃ t:Fct,x=encFct t∧FctB t:=by
 obtain⟨a,b,rfl,⟨k,_,rfl⟩,c,d,rfl,⟨z,hz,_,rfl,h2⟩,rfl⟩:=h
 obtain⟨l,rfl⟩:=plistOf pint_of z h2
 refine⟨⟨k,l⟩,rfl,?_⟩
 rw [List.length_map] at hz
 have:reachBytes=140737488351232:=rfl
 show l.length≤_
 omega
theorem fcts_argB (x:List D) (h:TyD (.slice 2 32 rtFct) x):∃ l:List Fct,RT.arg (.slice 2 32 rtFct) x = .d (.slice 2 (l.map encFct))∧l.length≤4398046511104∧∀ x∈l,x.args.length≤17592186044416:=by
 obtain⟨z,hz,_,rfl,h2⟩:=h
 obtain⟨l,rfl,hb⟩:=plistOfP fct_ofB z h2
 refine⟨l,rfl,?_,hb⟩
 rw [List.length_map] at hz
 have:reachBytes=140737488351232:=rfl
 omega
theorem chgE_zero {arity:List Int} {e:Int} {was m puts takes:List Fct} (h:chgE arity e was m puts takes=0):e=0∧was=setF' m:=by
 unfold chgE at h
 by_cases hc:putE arity e puts takes=0∧sameL Fct.same was (setF' m)=false
 ·rw [if_pos hc] at h
  cases h
 ·rw [if_neg hc] at h
  refine⟨(putE_zero h).1,?_⟩
  have:sameL Fct.same was (setF' m)=true:=by
   cases hs:sameL Fct.same was (setF' m) with
   | true=>rfl
   | false=>exact absurd ⟨h,hs⟩ hc
  rwa [sameL_iff fsame_iff] at this
theorem minus_set (now m:List Fct):minusL now (setF' m)=minusL now m:=minus_same now m
theorem set_minus (m now:List Fct):setF' (minusL (setF' m) now)=setF' (minusL m now):=set_ext fun x=>by
 rw [mem_minus,mem_minus,(setF_spec m).2]
attribute [local irreducible] DW DS DL DQ Ev FnOk FnP thenD inBlockD DT
set_option maxHeartbeats 8000000 in
theorem changeApplies_fn (p:Prg) (l m puts takes:List Fct) (hm:m.length≤4398046511104) (ha:∀ x∈m,x.args.length≤17592186044416) :
  Fn 6 [elPrg p,.d (.slice 2 (l.map encFct)),.d (.slice 2 (m.map encFct)),.d (.slice 2 (puts.map encFct)),.d (.slice 2 (takes.map encFct))] (fun r=>r = .d (.bool true)):=by
 refine fnp_enter' _ Tryz.func6 rfl rfl (by kernel_rfl) ?_
 intro O w0 E0 β0
 obtain⟨e,was,hx⟩:=ModelR.total p l
 obtain⟨e2,now,hy⟩:=ModelR.total p (givenL l puts takes)
 have h1:=apply_fn p l m puts takes e e2 was now hx hy hm ha
 have h2:=checkChange_fn p l m puts takes e was hx hm
 have h3:=changeBegun_fn
 have h4:=sameFacts_fn [] []
 by_cases hc:chgE p.arity e was m puts takes=0
 ·obtain⟨he,hwas⟩:=chgE_zero hc
  rw [hc] at h1 h2
  rw [if_pos rfl] at h2
  have h5:=fullModel_fn p (givenL l puts takes) e2 now hy
  generalize givenL l puts takes=given at *
  by_cases h0:e2=0
  ·subst h0
   rw [if_pos ⟨rfl,rfl⟩,hwas,minus_set,set_minus] at h1
   obtain⟨y1,y2,y3⟩:=hy.strict
   have h6:=minusOf_fn now m (by omega)
   have h7:=minusOf_fn m now hm
   have h8:=sameFacts_fn given given
   have h9:=sameFacts_fn now now
   have h10:=sameFacts_fn (setF' (minusL now m)) (setF' (minusL now m))
   have h11:=sameFacts_fn (setF' (minusL m now)) (setF' (minusL m now))
   rw [sameF_eq] at h8 h9 h10 h11
   generalize setF' (minusL now m)=came at *
   generalize setF' (minusL m now)=went at *
   repeat' (first|refine z0 ?_|apply ds_nil|apply dw_seq2|refine z16 ?_|apply dw_ret|refine z18 ?_|apply thenD_n|refine z21 ?_ (hc:=by apply h1)|refine z21 ?_ (hc:=by apply h2)|refine z21 ?_ (hc:=by apply h3)|refine z21 ?_ (hc:=by apply h5)|refine z21 ?_ (hc:=by apply h6)|refine z21 ?_ (hc:=by apply h7)|refine z21 ?_ (hc:=by apply h8)|refine z21 ?_ (hc:=by apply h9)|refine z21 ?_ (hc:=by apply h10)|refine z21 ?_ (hc:=by apply h11)|refine z1 ?_|refine z3 ?_|fail)
   all_goals try (exfalso;omega)
   exact⟨.inl rfl,_,rfl,rfl,rfl⟩
  ·have hn:now=[]:=by
    cases hy with
    | bad=>rfl
    | ok=>exact absurd rfl h0
    | much=>rfl
   subst hn
   rw [if_neg (fun h=>h0 h.2),if_pos rfl] at h1
   clear hx hy hwas
   repeat' (first|refine z0 ?_|refine z12 ?_|apply ds_nil|apply dw_seq2|refine z16 ?_|apply dw_ret|refine z18 ?_|apply thenD_n|refine z21 ?_ (hc:=by apply h1)|refine z21 ?_ (hc:=by apply h2)|refine z21 ?_ (hc:=by apply h3)|refine z21 ?_ (hc:=by apply h5)|refine z1 ?_|refine z3 ?_|(refine z23 ?_ ?_ <;> intro hg)|((fail_if_success (apply ds_known;exact rfl));apply ds_guardP;exact rfl;exact rfl;exact rfl;all_goals intro hg))
   all_goals try (exfalso;omega)
   refine ds_ent (ent_nild 64 2 rfl) ?_
   first|refine ds_ent (ent_nild 17 2 rfl) ?_|skip
   refine ds_ent (ent_nild 18 2 rfl) ?_
   refine ds_ent (ent_nild 19 2 rfl) ?_
   repeat' (first|refine z0 ?_|apply ds_nil|apply dw_ret|apply thenD_n|refine z21 ?_ (hc:=by apply h4)|fail)
   exact⟨.inl rfl,_,rfl,rfl,rfl⟩
 ·rw [if_neg (fun h=>hc h.1),if_neg hc] at h1
  rw [if_neg hc] at h2
  generalize chgE p.arity e was m puts takes=e3 at *
  clear hx hy
  repeat' (first|refine z0 ?_|refine z12 ?_|apply ds_nil|apply dw_seq2|refine z16 ?_|apply dw_skip|apply dw_ret|apply thenD_n|refine z21 ?_ (hc:=by apply h1)|refine z21 ?_ (hc:=by apply h2)|refine z21 ?_ (hc:=by apply h3)|refine z1 ?_|refine z3 ?_|(refine z23 ?_ ?_ <;> intro hg)|((fail_if_success (apply ds_known;exact rfl));apply ds_guardP;exact rfl;exact rfl;exact rfl;all_goals intro hg))
  all_goals try (exfalso;omega)
  refine ds_ent (ent_nild 64 2 rfl) ?_
  first|refine ds_ent (ent_nild 17 2 rfl) ?_|skip
  refine ds_ent (ent_nild 18 2 rfl) ?_
  refine ds_ent (ent_nild 19 2 rfl) ?_
  repeat' (first|refine z0 ?_|apply ds_nil|apply dw_ret|apply thenD_n|refine z21 ?_ (hc:=by apply h4)|fail)
  exact⟨.inl rfl,_,rfl,rfl,rfl⟩
end Go.Proofs.YtapciiffpnociacGreat

/- ChangePlays, as it is walked. Condition: none. -/
namespace Go.Proofs.YtapciiffpnociacGreat
open Go Go.RowKit
theorem play_forth {was now:List Fct} (h:Strict now):playL was (setF' (minusL now was)) (setF' (minusL was now))=now:=by
 refine strict_ext (setF_spec _).1 h fun x=>?_
 unfold playL
 rw [(setF_spec _).2,List.mem_append,(setF_spec _).2,mem_minus,(setF_spec _).2,(setF_spec _).2,mem_minus,mem_minus]
 by_cases h1:x∈was <;> by_cases h2:x∈now <;> simp [h1,h2]
attribute [local irreducible] DW DS DL DQ Ev FnOk FnP thenD inBlockD DT
set_option maxHeartbeats 8000000 in
theorem changePlays_fn (p:Prg) (l puts takes m came went:List Fct) (hm:m.length + came.length≤4398046511104) (hw:went.length≤4398046511104) (ha:∀ x∈m,x.args.length≤17592186044416) (hb:∀ x∈came,x.args.length≤17592186044416) (hc:∀ x∈went,x.args.length≤17592186044416) :
  Fn 8 [elPrg p,.d (.slice 2 (l.map encFct)),.d (.slice 2 (puts.map encFct)),.d (.slice 2 (takes.map encFct)),.d (.slice 2 (m.map encFct)),elChg came went] (fun r=>r = .d (.bool true)):=by
 refine fnp_enter' _ Tryz.func8 rfl rfl (by kernel_rfl) ?_
 intro O w0 E0 β0
 obtain⟨e,was,hx⟩:=ModelR.total p l
 obtain⟨e2,now,hy⟩:=ModelR.total p (givenL l puts takes)
 have h1:=changeBegun_fn
 have h2:=modelBegun_fn
 have h3:=play_fn m came went hm hw ha hb hc
 have hl:(setF' (minusL m went)).length≤m.length:=Nat.le_trans (setF_lenle _) (List.length_filter_le _ _)
 have h4:=minusOf_fn m went (by omega)
 have h5:=unionOf_fn (setF' (minusL m went)) came (by omega)
 have h6:=sameFacts_fn (playL m came went) (playL m came went)
 rw [sameF_eq] at h6
 rw [show setF' (setF' (minusL m went)++came)=playL m came went from rfl] at h5
 generalize playL m came went=pl at *
 generalize setF' (minusL m went)=mw at *
 have h7:=model_fn p l e was hx
 by_cases he:e=0
 ·subst he
  obtain⟨zz1,zz2,zz3⟩:=hx.strict
  obtain⟨y1,y2,y3⟩:=hy.strict
  have ho:=mOk hx.ok0
  have g3:∀ x:Fct,FctOk p.arity x→x.args.length≤17592186044416:=fun x hx=>by have:=fct_len ho.pr hx;omega
  have h8:=apply_fn p l was puts takes 0 e2 was now hx hy (by omega) (fun x hx=>g3 x (zz3 x hx))
  by_cases hg:chgE p.arity 0 was was puts takes=0∧e2=0
  ·rw [if_pos hg] at h8
   have k1:(setF' (minusL now was)).length≤60:=Nat.le_trans (setF_lenle _) (Nat.le_trans (List.length_filter_le _ _) y2)
   have k2:(setF' (minusL was now)).length≤60:=Nat.le_trans (setF_lenle _) (Nat.le_trans (List.length_filter_le _ _) zz2)
   have q1:∀ x∈setF' (minusL now was),x.args.length≤17592186044416:=fun x hx=>g3 x (y3 x (mem_minus.1 (((setF_spec _).2 x).1 hx)).1)
   have q2:∀ x∈setF' (minusL was now),x.args.length≤17592186044416:=fun x hx=>g3 x (zz3 x (mem_minus.1 (((setF_spec _).2 x).1 hx)).1)
   have h9:=play_fn was (setF' (minusL now was)) (setF' (minusL was now)) (by omega) (by omega) (fun x hx=>g3 x (zz3 x hx)) q1 q2
   have ha':=play_fn now (setF' (minusL was now)) (setF' (minusL now was)) (by omega) (by omega) (fun x hx=>g3 x (y3 x hx)) q2 q1
   rw [play_forth y1] at h9
   rw [play_forth zz1] at ha'
   have hb':=sameFacts_fn now now
   have hc':=sameFacts_fn was was
   rw [sameF_eq] at hb' hc'
   generalize setF' (minusL now was)=dc at *
   generalize setF' (minusL was now)=dw at *
   generalize givenL l puts takes=given at *
   repeat' (first|refine z0 ?_|apply ds_nil|refine z5 ?_|refine z10 ?_|apply dw_seq2|refine z16 ?_|refine z20 ?_|apply dw_skip|apply dw_ret|refine z19 ?_|apply thenD_n|refine z22 ?_ (hc:=by apply h1)|refine z22 ?_ (hc:=by apply h2)|refine z22 ?_ (hc:=by apply h3)|refine z22 ?_ (hc:=by apply h4)|refine z22 ?_ (hc:=by apply h5)|refine z22 ?_ (hc:=by apply h6)|refine z21 ?_ (hc:=by apply h7)|refine z21 ?_ (hc:=by apply h8)|refine z21 ?_ (hc:=by apply h9)|refine z21 ?_ (hc:=by apply ha')|refine z21 ?_ (hc:=by apply hb')|refine z21 ?_ (hc:=by apply hc')|refine z1 ?_|refine z3 ?_|fail)
   all_goals try (exfalso;omega)
   exact⟨.inl rfl,_,rfl,rfl,rfl⟩
  ·rw [if_neg hg] at h8
   have hne:(if chgE p.arity 0 was was puts takes=0 then e2 else chgE p.arity 0 was was puts takes)≠0:=by
    by_cases hq:chgE p.arity 0 was was puts takes=0
    ·rw [if_pos hq]
     exact fun h=>hg ⟨hq,h⟩
    ·rw [if_neg hq]
     exact hq
   generalize (if chgE p.arity 0 was was puts takes=0 then e2 else chgE p.arity 0 was was puts takes)=e3 at *
   clear hx hy hg
   repeat' (first|refine z0 ?_|apply ds_nil|refine z5 ?_|refine z10 ?_|apply dw_seq2|refine z16 ?_|refine z20 ?_|apply dw_skip|apply dw_ret|refine z19 ?_|apply thenD_n|apply thenD_r|refine z22 ?_ (hc:=by apply h1)|refine z22 ?_ (hc:=by apply h2)|refine z22 ?_ (hc:=by apply h3)|refine z22 ?_ (hc:=by apply h4)|refine z22 ?_ (hc:=by apply h5)|refine z22 ?_ (hc:=by apply h6)|refine z21 ?_ (hc:=by apply h7)|refine z21 ?_ (hc:=by apply h8)|refine z1 ?_|refine z3 ?_|(refine z23 ?_ ?_ <;> intro hg)|fail)
   all_goals try (exfalso;omega)
   exact⟨.inl rfl,_,rfl,rfl,rfl⟩
 ·have hn:was=[]:=by
   cases hx with
   | bad=>rfl
   | ok=>exact absurd rfl he
   | much=>rfl
  subst hn
  clear hx hy
  repeat' (first|refine z0 ?_|apply ds_nil|refine z5 ?_|refine z10 ?_|apply dw_seq2|refine z16 ?_|refine z20 ?_|apply dw_skip|apply dw_ret|refine z19 ?_|apply thenD_n|apply thenD_r|refine z22 ?_ (hc:=by apply h1)|refine z22 ?_ (hc:=by apply h2)|refine z22 ?_ (hc:=by apply h3)|refine z22 ?_ (hc:=by apply h4)|refine z22 ?_ (hc:=by apply h5)|refine z22 ?_ (hc:=by apply h6)|refine z21 ?_ (hc:=by apply h7)|refine z1 ?_|(refine z23 ?_ ?_ <;> intro hg)|fail)
  all_goals try (exfalso;omega)
  exact⟨.inl rfl,_,rfl,rfl,rfl⟩
end Go.Proofs.YtapciiffpnociacGreat

/- Lists of facts that are handed in, read as data, with their sizes. Condition: none. -/
namespace Go.Proofs.YtapciiffpnociacGreat
open Go Go.RowKit
theorem listOfR {R:Nat} {α:Type} {e:RT} {enc:α→List D} {p:α→Prop} (h:∀ x,TyDR R e x→∃ t,x=enc t∧p t):∀ (l:List (List D)),(∀ x∈l,TyDR R e x)→∃ ts:List α,l=ts.map enc∧∀ t∈ts,p t
 | [],_=>⟨[],rfl,by simp⟩
 | x::l,hl=>by
  obtain⟨t,rfl,ht⟩:=h x (hl x (List.mem_cons_self ..))
  obtain⟨ts,rfl,hts⟩:=listOfR h l fun y hy=>hl y (List.mem_cons_of_mem _ hy)
  exact⟨t::ts,rfl,fun u hu=>(List.mem_cons.1 hu).elim (fun e=>e▸ht) (hts u)⟩
theorem sliceOfR {R:Nat} {α:Type} {c b:Nat} {e:RT} {enc:α→List D} {p:α→Prop} (h:∀ x,TyDR R e x→∃ t,x=enc t∧p t) (x:List D) (hx:TyDR R (.slice c b e) x):∃ ts:List α,x=[.slice c (ts.map enc)]∧ts.length * b≤R∧∀ t∈ts,p t:=by
 obtain⟨l,h1,_,rfl,h3⟩:=hx
 obtain⟨ts,rfl,h4⟩:=listOfR h l h3
 exact⟨ts,rfl,by rw [← List.length_map (f:=enc)];exact h1,h4⟩
abbrev rtFctR:RT:=.struct [.int .i64,.slice 1 8 (.int .i64)]
theorem int_ofR {R:Nat} (x:List D) (h:TyDR R (.int .i64) x):∃ n:Int,x=encI n∧True:=by
 obtain⟨n,_,rfl⟩:=h
 exact⟨n,rfl,trivial⟩
theorem fct_ofR {R:Nat} (x:List D) (h:TyDR R rtFctR x):∃ t:Fct,x=encFct t∧t.args.length * 8≤R:=by
 obtain⟨a,b,rfl,⟨k,_,rfl⟩,c,d,rfl,h2,rfl⟩:=h
 obtain⟨l,rfl,hl,_⟩:=sliceOfR int_ofR c h2
 exact⟨⟨k,l⟩,rfl,hl⟩
theorem fcts_argR {R:Nat} (x:List D) (h:TyDR R (.slice 2 32 rtFctR) x):∃ l:List Fct,RT.arg (.slice 2 32 rtFctR) x = .d (.slice 2 (l.map encFct))∧l.length * 32≤R∧∀ t∈l,t.args.length * 8≤R:=by
 obtain⟨l,rfl,h1,h2⟩:=sliceOfR fct_ofR x h
 exact⟨l,rfl,h1,h2⟩
end Go.Proofs.YtapciiffpnociacGreat

/- A program, facts and a change that are handed in, read as data, with their sizes. Condition: none. -/
namespace Go.Proofs.YtapciiffpnociacGreat
open Go Go.RowKit
abbrev rtTrmR:RT:=.struct [.int .i64,.int .i64]
abbrev rtLtlR:RT:=.struct [.int .i64,.int .i64,.int .i64,.slice 2 16 rtTrmR]
abbrev rtRulR:RT:=.struct [.int .i64,.slice 2 16 rtTrmR,.int .i64,.slice 4 48 rtLtlR,.int .i64]
abbrev rtPrgR:RT:=.struct [.slice 1 8 (.int .i64),.slice 1 16 .str,.slice 5 72 rtRulR]
abbrev rtChgR:RT:=.struct [.slice 2 32 rtFctR,.slice 2 32 rtFctR]
theorem str_ofR {R:Nat} (x:List D) (h:TyDR R .str x):∃ n:ByteArray,x=encT n∧True:=by
 obtain⟨n,_,rfl⟩:=h
 exact⟨n,rfl,trivial⟩
theorem trm_ofR {R:Nat} (x:List D) (h:TyDR R rtTrmR x):∃ t:Trm,x=encTrm t∧True:=by
 obtain⟨a,b,rfl,⟨k,_,rfl⟩,c,d,rfl,⟨p,_,rfl⟩,rfl⟩:=h
 exact⟨⟨k,p⟩,rfl,trivial⟩
theorem ltl_ofR {R:Nat} (x:List D) (h:TyDR R rtLtlR x):∃ t:Ltl,x=encLtl t∧True:=by
 obtain⟨a,b,rfl,⟨k,_,rfl⟩,c,d,rfl,⟨p,_,rfl⟩,e,f,rfl,⟨q,_,rfl⟩,g,i,rfl,h4,rfl⟩:=h
 obtain⟨l,rfl,_⟩:=sliceOfR trm_ofR g h4
 exact⟨⟨k,p,q,l⟩,rfl,trivial⟩
theorem rul_ofR {R:Nat} (x:List D) (h:TyDR R rtRulR x):∃ t:Rul,x=encRul t∧True:=by
 obtain⟨a,b,rfl,⟨k,_,rfl⟩,c,d,rfl,h2,e,f,rfl,⟨q,_,rfl⟩,g,i,rfl,h4,j,m,rfl,⟨v,_,rfl⟩,rfl⟩:=h
 obtain⟨l,rfl,_⟩:=sliceOfR trm_ofR c h2
 obtain⟨n,rfl,_⟩:=sliceOfR ltl_ofR g h4
 exact⟨⟨k,l,q,n,v⟩,rfl,trivial⟩
theorem prg_argR {R:Nat} (x:List D) (h:TyDR R rtPrgR x):∃ p:Prg,RT.arg rtPrgR x=elPrg p:=by
 obtain⟨c,d,rfl,h2,e,f,rfl,h3,g,h,rfl,h4,rfl⟩:=h
 obtain⟨l,rfl,_⟩:=sliceOfR int_ofR c h2
 obtain⟨m,rfl,_⟩:=sliceOfR str_ofR e h3
 obtain⟨n,rfl,_⟩:=sliceOfR rul_ofR g h4
 exact⟨⟨l,m,n⟩,rfl⟩
theorem chg_argR {R:Nat} (x:List D) (h:TyDR R rtChgR x):∃ a b:List Fct,RT.arg rtChgR x=elChg a b∧(a.length * 32≤R∧∀ t∈a,t.args.length * 8≤R)∧b.length * 32≤R∧∀ t∈b,t.args.length * 8≤R:=by
 obtain⟨c,d,rfl,h2,e,f,rfl,h3,rfl⟩:=h
 obtain⟨l,rfl,h4,h5⟩:=sliceOfR fct_ofR c h2
 obtain⟨m,rfl,h6,h7⟩:=sliceOfR fct_ofR e h3
 exact⟨l,m,rfl,⟨h4,h5⟩,h6,h7⟩
end Go.Proofs.YtapciiffpnociacGreat

/- What the bound of an upto statement gives. Condition: none. -/
namespace Go.Proofs.YtapciiffpnociacGreat
open Go Go.RowKit
section
variable {H : Type} {P : Program} {M : Nat}
theorem bulk_pos (d:DataW H):1≤Rows.uptoBulk d:=by
 cases d with
 | lit l=>cases l <;> simp [Rows.uptoBulk]
 | _=>simp [Rows.uptoBulk]
theorem bulk_len:∀ l:List (DataW H),l.length≤Rows.uptoBulkAll l
 | []=>by simp
 | x::r=>by
  have h1:=bulk_pos x
  have h2:=bulk_len r
  simp only [Rows.uptoBulkAll,List.length_cons];omega
theorem up_le {n a b M:Nat} (h:n≤a * M) (g:a≤b):n≤b * M:=Nat.le_trans h (Nat.mul_le_mul_right M g)
theorem weightsAll_le {e:TypeId} (h:∀ (d:DataW H),∀ n∈d.weights P e,n≤Rows.uptoBulk d * M):∀ (l:List (DataW H)),∀ n∈DataW.weightsAll P e l,n≤Rows.uptoBulkAll l * M
 | [],n,hn=>by simp [DataW.weightsAll] at hn
 | d::r,n,hn=>by
  simp only [DataW.weightsAll,List.mem_append] at hn
  rcases hn with hn|hn
  ·exact up_le (h d n hn) (by simp only [Rows.uptoBulkAll];omega)
  ·exact up_le (weightsAll_le h r n hn) (by simp only [Rows.uptoBulkAll];omega)
mutual
def RT.fits (M:Nat):RT→Bool
 | .struct fs=>RT.fitsL M fs
 | .slice _ b e=>Nat.ble b M && e.fits M
 | .bool=>true
 | .int _=>true
 | .str=>true
def RT.fitsL (M:Nat):List RT→Bool
 | []=>true
 | r::rs=>r.fits M && RT.fitsL M rs
end
theorem plain_le {t:TypeId} (h1:1≤M) (h2:∀ e,P.underlying t≠some (.pointer e)) (h3:∀ e,P.underlying t≠some (.slice e)) (h4:∀ e,P.underlying t≠some (.struct e)) (h5:∀ n e,P.underlying t≠some (.array n e)) (h6:∀ k e,P.underlying t≠some (.map k e)) (d:DataW H):∀ n∈d.weights P t,n≤Rows.uptoBulk d * M:=by
 intro n hn
 cases d with
 | lit l =>
  cases l with
  | string b =>
   simp only [DataW.weights,List.mem_singleton] at hn
   subst hn
   simp only [Rows.uptoBulk]
   exact up_le (a:=b.length) (Nat.le_mul_of_pos_right _ h1) (by omega)
  | _=>simp [DataW.weights] at hn
 | _ =>
  simp only [DataW.weights] at hn
  first
   | (simp at hn;done)
   | (split at hn <;> first|(rename_i hh;exact absurd hh (by first|exact h2 _|exact h3 _|exact h4 _|exact h5 _ _|exact h6 _ _))|(simp at hn;done))
theorem string_le {b:List UInt8} (h1:1≤M) {t:TypeId}:∀ n∈DataW.weights (H:=H) P t (.lit (.string b)),n≤Rows.uptoBulk (DataW.lit (H:=H) (.string b)) * M:=by
 intro n hn
 simp only [DataW.weights,List.mem_singleton] at hn
 subst hn
 simp only [Rows.uptoBulk]
 exact up_le (a:=b.length) (Nat.le_mul_of_pos_right _ h1) (by omega)
mutual
theorem weights_le (h1:1≤M):∀ (r:RT) (t:TypeId) (d:DataW H),rtB P r t=true→r.fits M=true→∀ n∈d.weights P t,n≤Rows.uptoBulk d * M
 | .bool,t,d,hb,_=>by
  have ht:P.underlying t=some .bool:=by
   unfold rtB at hb;split at hb <;> first|assumption|cases hb
  refine plain_le h1 ?_ ?_ ?_ ?_ ?_ d <;> (intros;rw [ht];simp)
 | .int k,t,d,hb,_=>by
  have ht:P.underlying t=some (.int k):=by
   unfold rtB at hb
   split at hb
   ·rename_i k' hk;rw [hk,sameK_spec hb]
   ·cases hb
  refine plain_le h1 ?_ ?_ ?_ ?_ ?_ d <;> (intros;rw [ht];simp)
 | .str,t,d,hb,_=>by
  have ht:P.underlying t=some .string:=by
   unfold rtB at hb;split at hb <;> first|assumption|cases hb
  refine plain_le h1 ?_ ?_ ?_ ?_ ?_ d <;> (intros;rw [ht];simp)
 | .slice c b e,t,d,hb,hf=>by
  obtain⟨te,ht,hby,hre⟩:∃ te,P.underlying t=some (.slice te)∧P.bytesOf te=b∧rtB P e te=true:=by
   unfold rtB at hb
   split at hb
   ·rename_i te ht
    simp only [Bool.and_eq_true] at hb
    exact⟨te,ht,Nat.eq_of_beq_eq_true hb.2.1,hb.2.2.2.2⟩
   ·cases hb
  simp only [RT.fits,Bool.and_eq_true] at hf
  have hbm:=Nat.le_of_ble_eq_true hf.1
  intro n hn
  cases d with
  | slice elems spare =>
   simp only [DataW.weights,ht,List.mem_cons,List.mem_append] at hn
   rcases hn with rfl|hn|hn
   ·have g1:=bulk_len elems
    have g2:=bulk_len spare
    rw [hby]
    refine Nat.le_trans (Nat.mul_le_mul_left _ hbm) (Nat.mul_le_mul_right M ?_)
    simp only [Rows.uptoBulk];omega
   ·exact up_le (weightsAll_le (fun d=>weights_le h1 e te d hre hf.2) elems n hn) (by simp only [Rows.uptoBulk];omega)
   ·exact up_le (weightsAll_le (fun d=>weights_le h1 e te d hre hf.2) spare n hn) (by simp only [Rows.uptoBulk];omega)
  | lit l =>
   cases l with
   | string b=>exact string_le h1 n hn
   | _=>simp [DataW.weights] at hn
  | _=>simp [DataW.weights,ht] at hn
 | .struct fs,t,d,hb,hf=>by
  obtain⟨fl,ht,hfl⟩:∃ fl,P.underlying t=some (.struct fl)∧rtL P fs fl.toList 0=true:=by
   unfold rtB at hb
   split at hb
   ·rename_i fl ht
    simp only [Bool.and_eq_true] at hb
    exact⟨fl,ht,hb.1⟩
   ·cases hb
  simp only [RT.fits] at hf
  intro n hn
  cases d with
  | agg parts =>
   simp only [DataW.weights,ht] at hn
   exact up_le (weightsL_le h1 fs fl.toList 0 parts hfl hf n hn) (by simp only [Rows.uptoBulk];omega)
  | lit l =>
   cases l with
   | string b=>exact string_le h1 n hn
   | _=>simp [DataW.weights] at hn
  | _=>simp [DataW.weights,ht] at hn
theorem weightsL_le (h1:1≤M):∀ (rs:List RT) (fl:List Field) (o:Nat) (ds:List (DataW H)),rtL P rs fl o=true→RT.fitsL M rs=true→∀ n∈DataW.weightsEach P (fl.map (·.type)) ds,n≤Rows.uptoBulkAll ds * M
 | [],[],_,ds,_,_=>by intro n hn;simp [DataW.weightsEach] at hn
 | [],_::_,_,_,hb,_=>by simp [rtL] at hb
 | _::_,[],_,_,hb,_=>by simp [rtL] at hb
 | r::rs,f::fl,o,[],_,_=>by intro n hn;simp [DataW.weightsEach] at hn
 | r::rs,f::fl,o,d::ds,hb,hf=>by
  simp only [rtL,Bool.and_eq_true] at hb
  simp only [RT.fitsL,Bool.and_eq_true] at hf
  intro n hn
  simp only [List.map_cons,DataW.weightsEach,List.mem_append] at hn
  rcases hn with hn|hn
  ·exact up_le (weights_le h1 r f.type d hb.2.2.1 hf.1 n hn) (by simp only [Rows.uptoBulkAll];omega)
  ·exact up_le (weightsL_le h1 rs fl _ ds hb.2.2.2 hf.2 n hn) (by simp only [Rows.uptoBulkAll];omega)
end
theorem weightsR_le (h1:1≤M):∀ (rs:List RT) (ts:List TypeId) (ds:List (DataW H)),rtsB P rs ts=true→RT.fitsL M rs=true→∀ n∈DataW.weightsEach P ts ds,n≤Rows.uptoBulkAll ds * M
 | [],[],ds,_,_=>by intro n hn;simp [DataW.weightsEach] at hn
 | [],_::_,_,hb,_=>by simp [rtsB] at hb
 | _::_,[],_,hb,_=>by simp [rtsB] at hb
 | r::rs,t::ts,[],_,_=>by intro n hn;simp [DataW.weightsEach] at hn
 | r::rs,t::ts,d::ds,hb,hf=>by
  simp only [rtsB,Bool.and_eq_true] at hb
  simp only [RT.fitsL,Bool.and_eq_true] at hf
  intro n hn
  simp only [DataW.weightsEach,List.mem_append] at hn
  rcases hn with hn|hn
  ·exact up_le (weights_le h1 r t d hb.1 hf.1 n hn) (by simp only [Rows.uptoBulkAll];omega)
  ·exact up_le (weightsR_le h1 rs ts ds hb.2 hf.2 n hn) (by simp only [Rows.uptoBulkAll];omega)
theorem upto_weights {rs:List RT} {ts:List TypeId} {ds:List (DataW H)} (hb:rtsB P rs ts=true) (hf:RT.fitsL 4096 rs=true) (hk:Rows.uptoSmall H ds=true):∀ n∈DataW.weightsEach P ts ds,n≤4294967296:=by
 intro n hn
 have hb2:Rows.uptoBulkAll ds≤1048576:=of_decide_eq_true hk
 have:=up_le (weightsR_le (by decide) rs ts ds hb hf n hn) hb2
 omega
end
end Go.Proofs.YtapciiffpnociacGreat
