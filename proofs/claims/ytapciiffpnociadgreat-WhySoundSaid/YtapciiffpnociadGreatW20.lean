/- Several texts in one: MoH MoI WhA WhB WhC WhD WhE WhF WhG WhH WhI WhJ. Condition: none. -/
import Derived.Test.YtapciiffpnociadGreatW19
import Derived.Test.YtapciiffpnociadGreatW18
import Derived.Test.YtapciiffpnociadGreatW08
namespace Go.Proofs.YtapciiffpnociadGreat
open Go Go.RowKit
def smallQ:Rul:=⟨1,[⟨0,0⟩,⟨1,0⟩],0,[⟨1,0,0,[⟨0,0⟩,⟨1,0⟩]⟩],2⟩
theorem smallP_rules:smallP.rules=[smallQ,smallR]:=rfl
theorem small_doc:docOk smallP=true:=by kernel_rfl
theorem small_lv:docLv smallP=[0,0]:=by kernel_rfl
theorem small_err:mErr smallP pairsF=0:=by
 unfold mErr
 rw [if_neg (by rw [show progE nameR smallP=0 by kernel_rfl];simp),if_neg (by rw [small_doc];simp)]
 kernel_rfl
theorem one_way {S:List Fct} {r:Rul} {o:List (List Int)} (h:fromE S r.body (yesOf r.body) (e0 r.vars.toNat)=o) (hs:SortW o) (hl:o.length≤2000):manyW S r=true∧rawW S r=o:=by
 have hw:waysL S r.vars.toNat r.body=o:=(waysL_eq hs (by rw [h])).symm
 have hm:manyW S r=true:=by unfold manyW;rw [hw];exact decide_eq_true hl
 exact⟨hm,by unfold rawW;rw [if_pos hm,hw]⟩
theorem sortW_two {a b:List Int} (h:ordL a b≤0):SortW [a,b]:=List.pairwise_cons.2 ⟨fun x hx=>by rw [List.mem_singleton] at hx;subst hx;exact h,List.pairwise_singleton _ _⟩
def midF:List Fct:=[⟨0,[1,2]⟩,⟨0,[2,3]⟩,⟨1,[1,2]⟩,⟨1,[2,3]⟩]
theorem q_pairs:manyW pairsF smallQ=true∧rawW pairsF smallQ=[[1,2],[2,3]]:=one_way (by kernel_rfl) (sortW_two (by decide)) (by simp)
theorem q_full:manyW fullF smallQ=true∧rawW fullF smallQ=[[1,2],[2,3]]:=one_way (by kernel_rfl) (sortW_two (by decide)) (by simp)
theorem r_mid:manyW midF smallR=true∧rawW midF smallR=[[1,2,3]]:=one_way (by kernel_rfl) (List.pairwise_singleton _ _) (by simp)
theorem r_full:manyW fullF smallR=true∧rawW fullF smallR=[[1,2,3]]:=one_way (by kernel_rfl) (List.pairwise_singleton _ _) (by simp)
theorem small_fct:∀ x∈fullF,FctOk smallP.arity x:=by
 intro x hx
 have:firstL (factE smallP.arity) fullF=0:=by kernel_rfl
 exact factE_ok (firstL_all0 this x hx)
theorem small_strict:Strict fullF:=by
 have:=(setF_spec fullF).1
 rw [show setF' fullF=fullF by kernel_rfl] at this
 exact this
theorem small_model:ModelR smallP pairsF 0 fullF:=by
 have ho:=mOk small_err
 have hV:=lvV_ok ho.pr ho.fit 0 pairsF
 have hset0:setF' pairsF=pairsF:=by kernel_rfl
 have hst0:Strict pairsF:=by
  have:=(setF_spec pairsF).1
  rw [hset0] at this
  exact this
 have i0:InvM (lvV smallP (docLv smallP) 0 pairsF) pairsF pairsF:=inv_first hst0 ⟨ho.facts,fun _ _=>Iff.rfl⟩ (by decide)
 have hQ:smallQ∈(lvV smallP (docLv smallP) 0 pairsF).rs:=List.mem_filter.2 ⟨by rw [smallP_rules];simp,by rw [small_lv];decide⟩
 have hR:smallR∈(lvV smallP (docLv smallP) 0 pairsF).rs:=List.mem_filter.2 ⟨by rw [smallP_rules];simp,by rw [small_lv];decide⟩
 have hq:hdW pairsF smallQ=[⟨1,[1,2]⟩,⟨1,[2,3]⟩]:=by unfold hdW;rw [q_pairs.2];kernel_rfl
 have hr:hdW midF smallR=[⟨1,[1,3]⟩]:=by unfold hdW;rw [r_mid.2];kernel_rfl
 have hqf:hdW fullF smallQ=[⟨1,[1,2]⟩,⟨1,[2,3]⟩]:=by unfold hdW;rw [q_full.2];kernel_rfl
 have hrf:hdW fullF smallR=[⟨1,[1,3]⟩]:=by unfold hdW;rw [r_full.2];kernel_rfl
 have i1:=inv_put hV i0 (H:=[⟨1,[1,2]⟩,⟨1,[2,3]⟩]) (fun x hx=>⟨smallQ,hQ,pairsF,i0,by show x∈hdW pairsF smallQ;rw [hq];exact hx⟩) (by decide)
 rw [show setF' (pairsF++[⟨1,[1,2]⟩,⟨1,[2,3]⟩])=midF by kernel_rfl] at i1
 have i2:=inv_put hV i1 (H:=[⟨1,[1,3]⟩]) (fun x hx=>⟨smallR,hR,midF,i1,by show x∈hdW midF smallR;rw [hr];exact hx⟩) (by decide)
 rw [show setF' (midF++[⟨1,[1,3]⟩])=fullF by kernel_rfl] at i2
 have hfit0:Fit (lvV smallP (docLv smallP) 0 pairsF) pairsF fullF:=by
  have key:∀ r∈(lvV smallP (docLv smallP) 0 pairsF).rs,manyW fullF r=true∧∀ x∈hdW fullF r,x∈fullF:=by
   intro r hr'
   have hm:=(List.mem_filter.1 hr').1
   rw [smallP_rules] at hm
   simp only [List.mem_cons,List.not_mem_nil,or_false] at hm
   rcases hm with rfl|rfl
   ·refine⟨q_full.1,fun x hx=>?_⟩
    rw [hqf] at hx
    simp only [List.mem_cons,List.not_mem_nil,or_false] at hx
    rcases hx with rfl|rfl <;> simp [fullF]
   ·refine⟨r_full.1,fun x hx=>?_⟩
    rw [hrf] at hx
    simp only [List.mem_cons,List.not_mem_nil,or_false] at hx
    subst hx
    simp [fullF]
  exact fit_done i2 (fun r hr=>(key r hr).1) fun r hr=>(key r hr).2
 have hfit1:Fit (lvV smallP (docLv smallP) 1 fullF) fullF fullF:=by
  have hno:∀ r∈(lvV smallP (docLv smallP) 1 fullF).rs,False:=by
   intro r hr'
   obtain⟨hm,hl⟩:=List.mem_filter.1 hr'
   rw [smallP_rules] at hm
   simp only [List.mem_cons,List.not_mem_nil,or_false] at hm
   rw [small_lv] at hl
   rcases hm with rfl|rfl <;> exact absurd (of_decide_eq_true hl) (by decide)
  exact fit_done (inv_first small_strict ⟨small_fct,fun _ _=>Iff.rfl⟩ (by decide)) (fun r hr=>(hno r hr).elim) fun r hr=>(hno r hr).elim
 refine .ok fullF small_err ⟨fullF,⟨pairsF,?_,?_⟩,?_⟩
 ·show pairsF=setF' pairsF
  exact hset0.symm
 ·exact hfit0
 ·exact hfit1
attribute [local irreducible] DW DS DL DQ Ev FnOk FnP thenD inBlockD DT
set_option maxHeartbeats 8000000 in
theorem modelBegun_fn:Fn 8 [] (fun r=>r = .d (.bool true)):=by
 refine fnp_enter' _ Tryz.func8 rfl rfl (by kernel_rfl) ?_
 intro O w0 E0 β0
 have h1:=lsmall_fn
 have h2:=lpairs_fn
 have h3:=lfull_fn
 have h4:=model_fn smallP pairsF 0 fullF small_model
 have h5:=mis_fn smallP pairsF fullF 0 fullF small_model
 rw [show isE smallP pairsF fullF 0=0 by unfold isE;rw [if_neg (by rw [small_err];simp),if_neg (by rw [show factsE smallP.arity fullF=0 by kernel_rfl];simp)]] at h5
 rw [show (decide ((0:Int)=0) && sameL Fct.same fullF (setF' fullF))=true by kernel_rfl] at h5
 have h6:=mis_fn smallP pairsF (fullF.drop 1) 0 fullF small_model
 rw [show isE smallP pairsF (fullF.drop 1) 0=0 by unfold isE;rw [if_neg (by rw [small_err];simp),if_neg (by rw [show factsE smallP.arity (fullF.drop 1)=0 by kernel_rfl];simp)]] at h6
 rw [show (decide ((0:Int)=0) && sameL Fct.same fullF (setF' (fullF.drop 1)))=false by kernel_rfl] at h6
 have h7:=ask_fn smallP pairsF 1 [1,0] [true] 0 fullF small_model
 rw [if_pos rfl,show setF' (matchL fullF 1 [1,0] [true])=[⟨1,[1,2]⟩,⟨1,[1,3]⟩] by kernel_rfl] at h7
 have h8:=sameFacts_fn fullF fullF
 rw [sameF_eq] at h8
 have h9:=sameFacts_fn [⟨1,[1,2]⟩,⟨1,[1,3]⟩] [⟨1,[1,2]⟩,⟨1,[1,3]⟩]
 rw [sameF_eq] at h9
 have lf:(fullF.map encFct).length=5:=rfl
 have lf2:fullF.length=5:=rfl
 repeat' (first|(apply ds_slD;exact rfl;exact rfl;exact rfl;exact rfl;exact rfl;exact rfl;(refine⟨?_,?_,?_⟩ <;> (omega));(first|((with_reducible apply hv_drop);(exact nat_add_1 _))|exact rfl);exact rfl;exact rfl)|refine z0 ?_|apply ds_nil|apply dw_seq2|refine z16 ?_|apply dw_ret|apply thenD_n|refine z21 ?_ (hc:=by apply h1)|refine z21 ?_ (hc:=by apply h2)|refine z21 ?_ (hc:=by apply h3)|refine z21 ?_ (hc:=by apply h4)|refine z21 ?_ (hc:=by apply h5)|refine z21 ?_ (hc:=by apply h6)|refine z21 ?_ (hc:=by apply h7)|refine z21 ?_ (hc:=by apply h8)|refine z21 ?_ (hc:=by apply h9)|refine z4 ?_|fail)
 exact⟨.inl rfl,_,rfl,rfl,rfl⟩
theorem factE_zero {arity:List Int} {x:Fct} (h:FctOk arity x):factE arity x=0:=by
 unfold factE
 have hp:=h.pred
 have h1:inR x.pred 0 ((arity.length:Int) - 1)=true:=by unfold inR;simp;omega
 rw [if_neg (by rw [h1];simp),if_neg (by simp [h.len]),if_neg]
 intro hc
 rw [List.any_eq_true] at hc
 obtain⟨n,hn,hb⟩:=hc
 rw [numB_of (h.nums n hn)] at hb
 cases hb
theorem factsE_zero {arity:List Int} {l:List Fct} (h:∀ x∈l,FctOk arity x) (hl:l.length≤60):factsE arity l=0:=by
 unfold factsE
 rw [if_neg (by omega)]
 exact z0_firstL fun x hx=>factE_zero (h x hx)
theorem model_heads {p:Prg} {l m:List Fct} (ho:MOk p l) (hr:RunTo p (docLv p) l p.arity.length m) {i:Nat} (hi:i < p.rules.length):wayE p i m=0∧wayH p i m=hdW m p.rules[i]∧∀ x∈hdW m p.rules[i],x∈m:=by
 obtain⟨s1,s2,s3,s4⟩:=RunTo.ok ho.facts ho.len hr
 have hlv:=ho.lvs _ (List.getElem_mem hi)
 obtain⟨h1,h2⟩:=RunTo.heads ho.pr ho.fit ho.facts ho.len hr (List.getElem_mem hi) hlv.1 hlv.2
 have hrule:ruleAt p i=p.rules[i]:=ruleAt_get (n:=(i:Int)) hi
 have hS:=setF_self s1
 have hw:waysE p i m=0:=by
  unfold waysE
  rw [if_neg (by rw [ho.prog];simp),if_neg (by omega),factsE_zero s3 s2]
 have hE:wayE p i m=0:=by
  unfold wayE
  rw [if_neg (by rw [hw];simp),hS,hrule,if_pos h1]
 refine⟨hE,?_,h2⟩
 unfold wayH wayL
 rw [if_pos hE,if_pos hw,hS,hrule]
 rfl
theorem model_closed {p:Prg} {l m:List Fct} (ho:MOk p l) (hr:RunTo p (docLv p) l p.arity.length m):setF' (l++p.rules.flatMap (hdW m))=m:=by
 obtain⟨s1,s2,s3,s4⟩:=RunTo.ok ho.facts ho.len hr
 refine strict_ext (setF_spec _).1 s1 fun x=>?_
 rw [(setF_spec _).2,List.mem_append]
 constructor
 ·rintro (h|h)
  ·exact s4 x h
  ·obtain⟨r,hm,hx⟩:=List.mem_flatMap.1 h
   obtain⟨i,hi,rfl⟩:=List.mem_iff_getElem.1 hm
   exact (model_heads ho hr hi).2.2 x hx
 ·intro hx
  rcases RunTo.from ho.pr ho.fit ho.facts ho.len hr x hx with h|⟨r,hm,_,_,hx⟩
  ·exact .inl h
  ·exact .inr (List.mem_flatMap.2 ⟨r,hm,hx⟩)
abbrev elStp (s:Stp):SV:=.agg [.d (.int .i64 s.fact.pred),.d (.slice 1 (s.fact.args.map encI)),.d (.int .i64 s.rule),.d (.slice 1 (s.vars.map encI))]
def isSB (f:Fct) (s:Stp):Bool:=decide (ordF s.fact f=0)
def hasS (l:List Stp) (f:Fct):Bool:=l.any (isSB f)
set_option maxHeartbeats 8000000 in
theorem met1_fn (f:Fct) (s:Stp):Fn 155 ([elStp s]++[.pd (encFct f)]) (fun r=>r = .d (.bool (isSB f s))):=by
 refine fnp_enter' _ Tryz.func155 rfl rfl (by kernel_rfl) ?_
 intro O w0 E0 β0
 have w1:=orderF_fn s.fact f
 repeat' (first|refine z0 ?_|apply ds_nil|apply dw_seq2|refine z16 ?_|apply dw_ret|apply thenD_n|refine z21 ?_ (hc:=by apply w1)|refine z1 ?_|fail)
 exact ret_b rfl rfl
set_option maxHeartbeats 8000000 in
theorem indexSt_fn {f:FuncId} {caps:List SV} (p:Stp→Bool) (l:List (Stp)) (hcap:SV.lowL 0 caps=true) (hp:∀ x∈l,Fn f (elStp x::caps) (fun r=>r = .d (.bool (p x)))):Fn 210 [.d (.slice 4 (l.map encStp)),.fn f caps] (fun r=>r = .d (.int .i64 (idxF p l))):=by
 refine fnp_enter' _ Tryz.func210 rfl rfl (by kernel_rfl) ?_
 intro O w0 E0 β0
 refine dw_len_map (t:=0) rfl fun hb=>?_
 repeat' (first|refine z0 ?_|apply ds_nil|apply dw_seq2|refine z16 ?_|apply dw_block|apply thenD_n)
 refine ds_loop (ι:=Nat) (fun i=>⟨0,[(0,.d (.slice 4 (l.map encStp))),(1,.fn f caps),(7,.d (.int .i64 l.length)),(8,.d (.int .i64 i))],[]⟩)
  (fun i=>i≤l.length∧∀ j (hj:j < l.length),j < i→p l[j]=false) (fun i=>l.length - i) 0 ⟨Nat.zero_le _,fun j _ h=>absurd h (Nat.not_lt_zero j)⟩
  (ent_ren id ⟨rfl,congrArg (SV.fn f) (SV.renL_id caps).symm,by simp;rfl,rfl,trivial⟩ trivial (by simp [Sl.low,SV.low,hcap]) rfl rfl rfl rfl rfl) ?_
 rintro i ⟨h1,h2⟩
 repeat' (first|refine z0 ?_|apply ds_nil|apply dw_seq2|refine z16 ?_|apply thenD_n)
 refine dw_condP rfl (fun h=>?_) (fun h=>?_)
 ·have hi:i < l.length:=by omega
  have hpx:=hp l[i] (List.getElem_mem hi)
  repeat' (first|refine z0 ?_|apply ds_nil|apply dw_seq2|refine z16 ?_|apply dw_block|apply dw_skip|apply thenD_n|(apply ds_callV;exact rfl;exact rfl;exact rfl;exact rfl;apply hpx;exact rfl;(assumption);exact rfl;rintro _ rfl))
  refine dw_cond rfl (fun hb=>?_) (fun hb=>?_)
  ·repeat' (first|refine z0 ?_|apply ds_nil|apply dw_seq2|refine z16 ?_|apply dw_ret|apply thenD_n|apply thenD_r|apply inB_r)
   exact ret_i rfl (idxF_hit h2 hi hb).symm
  ·repeat' (first|refine z0 ?_|apply ds_nil|refine z16 ?_|apply dw_skip|apply thenD_n|apply inB_n)
   exact⟨i + 1,⟨hi,none_step h2 hi hb⟩,ent_ren id ⟨rfl,congrArg (SV.fn f) (SV.renL_id caps).symm,rfl,rfl,trivial⟩ trivial (by simp [Sl.low,SV.low,hcap]) rfl rfl rfl rfl rfl,by omega⟩
 ·repeat' (first|refine z0 ?_|apply ds_nil|apply dw_seq2|refine z16 ?_|apply dw_exit|apply dw_ret|apply thenD_n|apply thenD_e|refine z17 ?_|fail)
  exact ret_i rfl (idxF_none fun j hj=>h2 j hj (by omega)).symm
set_option maxHeartbeats 8000000 in
theorem containsSt_fn {f:FuncId} {caps:List SV} (p:Stp→Bool) (l:List (Stp)) (hcap:SV.lowL 0 caps=true) (hp:∀ x∈l,Fn f (elStp x::caps) (fun r=>r = .d (.bool (p x)))):Fn 154 [.d (.slice 4 (l.map encStp)),.fn f caps] (fun r=>r = .d (.bool (l.any p))):=by
 refine fnp_enter' _ Tryz.func154 rfl rfl (by kernel_rfl) ?_
 intro O w0 E0 β0
 have hx:=indexSt_fn p l hcap hp
 have hlow:SV.lowL 0 [.d (.slice 4 (l.map encStp)),.fn f caps]=true:=by simp [SV.lowL,SV.low,hcap]
 repeat' (first|refine z0 ?_|apply ds_nil|apply dw_seq2|refine z16 ?_|apply dw_ret|apply thenD_n|refine z21 ?_ (hc:=by apply hx)|fail)
 exact ret_b rfl (idxF_any p l)
set_option maxHeartbeats 8000000 in
theorem met_fn (l:List Stp) (f:Fct):Fn 102 [.d (.slice 4 (l.map encStp)),elFct f] (fun r=>r = .d (.bool (hasS l f))):=by
 refine fnp_enter' _ Tryz.func102 rfl rfl (by kernel_rfl) ?_
 intro O w0 E0 β0
 have w1:=containsSt_fn (caps:=[.pd (encFct f)]) (isSB f) l rfl (fun s _=>met1_fn f s)
 repeat' ((fail_if_success (apply dw_stopS 1));(first|refine z0 ?_|apply ds_nil|apply dw_seq2|refine z16 ?_|apply thenD_n|refine z1 ?_|fail))
 refine dw_ent (ent_freezeL (ds:=encFct f) 3 0 rfl rfl) ?_
 repeat' (first|refine z0 ?_|apply ds_nil|apply dw_seq2|refine z16 ?_|apply dw_ret|apply thenD_n|refine z21 ?_ (hc:=by apply w1)|fail)
 exact ret_b rfl rfl
set_option maxHeartbeats 8000000 in
theorem indexStR_fn {f:FuncId} {caps:List SV} (p:Stp→Bool) (l:List Stp) (hl:l.length≤1000000) (hcap:SV.lowL 0 caps=true) (hcap1:SV.lowL 1 caps=true) (hp:∀ x∈l,Fn f (elStp x::caps) (fun r=>r = .d (.bool (p x)))) :
  FnOk false Tryz.prog tab tab_ok 210 [.row 0,.fn f caps] 1 1 [(0,.row 39 4 (l.map encStp))] (fun _ r H=>r = .d (.int .i64 (idxF p l))∧H=[(0,.row 39 4 (l.map encStp))]):=by
 refine fn_enterR _ Tryz.func210 rfl rfl (by kernel_rfl) ?_
 intro O w0 E0 β0
 have ll:(l.map encStp).length=l.length:=List.length_map _
 repeat' (first|refine z0 ?_|apply ds_nil|apply dw_seq2|refine z16 ?_|apply dw_block|apply thenD_n)
 refine ds_loop (ι:=Nat) (fun i=>⟨1,[(0,.row 0),(1,.fn f caps),(7,.d (.int .i64 l.length)),(8,.d (.int .i64 i))],[(0,.row 39 4 (l.map encStp))]⟩)
  (fun i=>i≤l.length∧∀ j (hj:j < l.length),j < i→p l[j]=false) (fun i=>l.length - i) 0 ⟨Nat.zero_le _,fun j _ h=>absurd h (Nat.not_lt_zero j)⟩
  (ent_ren id ⟨rfl,congrArg (SV.fn f) (SV.renL_id caps).symm,by simp;rfl,rfl,trivial⟩ ⟨rfl,trivial⟩ (by simp [Sl.low,SV.low,hcap1]) rfl rfl rfl rfl rfl) ?_
 rintro i ⟨h1,h2⟩
 repeat' (first|refine z0 ?_|apply ds_nil|apply dw_seq2|refine z16 ?_|apply thenD_n)
 refine dw_condP rfl (fun h=>?_) (fun h=>?_)
 ·have hi:i < l.length:=by omega
  have hpx:=hp l[i] (List.getElem_mem hi)
  repeat' (first|refine z0 ?_|apply ds_nil|apply dw_seq2|refine z16 ?_|apply dw_block|apply dw_skip|apply thenD_n|(apply ds_callV;exact rfl;exact rfl;exact rfl;exact rfl;apply hpx;exact rfl;(assumption);exact rfl;rintro _ rfl))
  refine dw_cond rfl (fun hb=>?_) (fun hb=>?_)
  ·repeat' (first|refine z0 ?_|apply ds_nil|apply dw_seq2|refine z16 ?_|apply dw_ret|apply thenD_n|apply thenD_r|apply inB_r)
   exact⟨.inl rfl,_,rfl,id,1,_,[(0,.row 39 4 (l.map encStp))],rfl,⟨rfl,trivial⟩,rfl,rfl,rfl,rfl,rfl,rfl,by rw [idxF_hit h2 hi hb],rfl⟩
  ·repeat' (first|refine z0 ?_|apply ds_nil|refine z16 ?_|apply dw_skip|apply thenD_n|apply inB_n)
   exact⟨i + 1,⟨hi,none_step h2 hi hb⟩,ent_ren id ⟨rfl,congrArg (SV.fn f) (SV.renL_id caps).symm,rfl,rfl,trivial⟩ ⟨rfl,trivial⟩ (by simp [Sl.low,SV.low,hcap1]) rfl rfl rfl rfl rfl,by omega⟩
 ·repeat' (first|refine z0 ?_|apply ds_nil|apply dw_seq2|refine z16 ?_|apply dw_exit|apply dw_ret|apply thenD_n|apply thenD_e|refine z17 ?_|fail)
  exact⟨.inl rfl,_,rfl,id,1,_,[(0,.row 39 4 (l.map encStp))],rfl,⟨rfl,trivial⟩,rfl,rfl,rfl,rfl,rfl,rfl,by rw [idxF_none fun j hj=>h2 j hj (by omega)],rfl⟩
set_option maxHeartbeats 8000000 in
theorem containsStR_fn (l:List Stp) (f:Fct) (hl:l.length≤1000000) :
  FnOk false Tryz.prog tab tab_ok 154 [.row 0,.fn 155 [.pd (encFct f)]] 1 1 [(0,.row 39 4 (l.map encStp))] (fun _ r H=>r = .d (.bool (hasS l f))∧H=[(0,.row 39 4 (l.map encStp))]):=by
 refine fn_enterR _ Tryz.func154 rfl rfl (by kernel_rfl) ?_
 intro O w0 E0 β0
 have hx:=indexStR_fn (caps:=[.pd (encFct f)]) (isSB f) l hl rfl rfl (fun s _=>met1_fn f s)
 repeat' (first|refine z0 ?_|apply ds_nil|apply dw_seq2|refine z16 ?_|apply thenD_n)
 (refine ds_callF id (hx) rfl rfl rfl rfl ⟨rfl,trivial⟩ rfl rfl rfl rfl rfl rfl ?_ ?_)
 ·rintro k2 r H2 ⟨rfl,rfl⟩;exact⟨rfl,rfl⟩
 rintro k2 r H2 ⟨rfl,rfl⟩
 change DS _ _ _ _ _ _ _ _
 repeat' (first|refine z0 ?_|apply ds_nil|apply dw_ret|apply thenD_n)
 exact⟨.inl rfl,_,rfl,id,1,_,[(0,.row 39 4 (l.map encStp))],rfl,⟨rfl,trivial⟩,rfl,rfl,rfl,rfl,rfl,rfl,congrArg (fun b=>SV.d (.bool b)) (idxF_any (isSB f) l),rfl⟩
set_option maxHeartbeats 8000000 in
theorem metR_fn (l:List Stp) (f:Fct) (hl:l.length≤1000000):FnOk false Tryz.prog tab tab_ok 102 [.row 0,elFct f] 1 1 [(0,.row 39 4 (l.map encStp))] (fun _ r H=>r = .d (.bool (hasS l f))∧H=[(0,.row 39 4 (l.map encStp))]):=by
 refine fn_enterR _ Tryz.func102 rfl rfl (by kernel_rfl) ?_
 intro O w0 E0 β0
 have w1:=containsStR_fn l f hl
 repeat' ((fail_if_success (apply dw_stopS 1));(first|refine z0 ?_|apply ds_nil|apply dw_seq2|refine z16 ?_|apply thenD_n|refine z1 ?_|fail))
 refine dw_ent (ent_freezeL (ds:=encFct f) 3 1 rfl rfl) ?_
 repeat' (first|refine z0 ?_|apply dw_seq2|refine z16 ?_|fail)
 (refine ds_callF id (w1) rfl rfl rfl rfl ⟨rfl,trivial⟩ rfl rfl rfl rfl rfl rfl ?_ ?_)
 ·rintro k2 r H2 ⟨rfl,rfl⟩;exact⟨rfl,rfl⟩
 rintro k2 r H2 ⟨rfl,rfl⟩
 change DS _ _ _ _ _ _ _ _
 repeat' (first|refine z0 ?_|apply ds_nil|apply dw_ret|apply thenD_n)
 exact⟨.inl rfl,_,rfl,id,1,_,[(0,.row 39 4 (l.map encStp))],rfl,⟨rfl,trivial⟩,rfl,rfl,rfl,rfl,rfl,rfl,rfl,rfl⟩
end Go.Proofs.YtapciiffpnociadGreat
namespace Go.Proofs.YtapciiffpnociadGreat
open Go Go.RowKit
attribute [local irreducible] DW DS DL DQ Ev FnOk FnP thenD inBlockD DWr
def kind1 (x:Ltl):Bool:=decide (x.kind=1)
def yesF (vars:List Int) (x:Ltl):Fct:=⟨x.pred,x.terms.map (vA vars)⟩
def yesX (r:Rul) (vars:List Int):List (List SV):=(r.body.filter kind1).map fun x=>[elFct (yesF vars x)]
def cntY (r:Rul) (i:Nat):Nat:=((r.body.take i).filter kind1).length
set_option maxHeartbeats 8000000 in
theorem yes_fn (r:Rul) (vars:List Int):Fn 101 [elRul r,.d (.slice 1 (vars.map encI))] (fun res=>res = .fn 153 [.pd (encRul r),.pd [.slice 1 (vars.map encI)]]):=by
 refine fnp_enter' _ Tryz.func101 rfl rfl (by kernel_rfl) ?_
 intro O w0 E0 β0
 repeat' ((fail_if_success (apply dw_stopS 1));(first|refine z0 ?_|apply ds_nil|apply dw_seq2|refine z16 ?_|apply thenD_n|refine z1 ?_|fail))
 refine dw_ent (ent_freezeL (ds:=encRul r) 2 0 rfl rfl) ?_
 refine dw_ent (ent_freezeL (ds:=[.slice 1 (vars.map encI)]) 3 1 rfl rfl) ?_
 repeat' (first|refine z0 ?_|apply ds_nil|apply dw_seq2|refine z16 ?_|apply dw_ret|apply thenD_n)
 exact⟨.inl rfl,_,rfl,rfl,rfl⟩
theorem yesX_each (r:Rul) (vars:List Int):∀ x∈yesX r vars,1=x.length∧SV.lowL 0 x=true:=by
 intro x hx
 unfold yesX at hx
 obtain⟨y,_,rfl⟩:=List.mem_map.1 hx
 exact⟨rfl,rfl⟩
theorem cntY_skip {r:Rul} {i:Nat} (hi:i < r.body.length) (h:kind1 r.body[i]=false):cntY r (i + 1)=cntY r i:=by
 unfold cntY
 rw [List.take_succ_eq_append_getElem hi,List.filter_append,List.length_append]
 simp [h]
theorem cntY_step {r:Rul} {i:Nat} (hi:i < r.body.length) (h:kind1 r.body[i]=true):cntY r (i + 1)=cntY r i + 1:=by
 unfold cntY
 rw [List.take_succ_eq_append_getElem hi,List.filter_append,List.length_append]
 simp [h]
theorem cntY_all {r:Rul} (vars:List Int) {i:Nat} (hi:r.body.length≤i):cntY r i=(yesX r vars).length:=by
 unfold cntY yesX
 rw [List.take_of_length_le hi,List.length_map]
theorem yesX_at {r:Rul} (vars:List Int) {i:Nat} (hi:i < r.body.length) (h:kind1 r.body[i]=true):∃ hc:cntY r i < (yesX r vars).length,(yesX r vars)[cntY r i]=[elFct (yesF vars r.body[i])]:=by
 have hsplit:r.body.filter kind1=(r.body.take i).filter kind1++r.body[i]::(r.body.drop (i + 1)).filter kind1:=by
  conv=>lhs;rw [← List.take_append_drop i r.body,List.filter_append,List.drop_eq_getElem_cons hi]
  rw [List.filter_cons_of_pos h]
 have h1:(yesX r vars)[cntY r i]? = some [elFct (yesF vars r.body[i])]:=by
  unfold yesX cntY
  rw [hsplit,List.getElem?_map,List.getElem?_append_right (Nat.le_refl _),Nat.sub_self]
  rfl
 obtain⟨h2,h3⟩:=List.getElem?_eq_some_iff.1 h1
 exact⟨h2,h3⟩
abbrev ygL (yv pv qv bv:Value) (n i:Nat):Sl:=[(0,.val yv),(1,.val pv),(2,.val qv),(7,.val bv),(8,.d (.int .i64 n)),(9,.d (.int .i64 i))]
abbrev yg0 (yv pv bv:Value) (n i:Nat):Sl:=[(0,.val yv),(1,.val pv),(7,.val bv),(8,.d (.int .i64 n)),(9,.d (.int .i64 i))]
set_option maxHeartbeats 4000000 in
set_option maxHeartbeats 8000000 in
theorem yes1_seq (r:Rul) (vars:List Int) (hok:∀ x∈r.body,x.kind=1→(∀ t∈x.terms,okT vars.length t)∧x.terms.length≤1000000):SeqD Tryz.prog 153 [.pd (encRul r),.pd [.slice 1 (vars.map encI)]] (yesX r vars):=by
 refine⟨by kernel_rfl,?_⟩
 intro X e0 W0 lb l J Jx hX hlb hJ0 hfr hJb hJxb hy
 match lb,hlb with
 | [pv,qv],⟨hpd,hqd,_⟩ =>
  have hpd':=hpd
  obtain⟨b,off,hpv,hb,hnX,hcells⟩:=hpd'
  obtain⟨u3,hc3,hr3⟩:=hcells 3 (by show 3 < 5;omega)
  have hr3:RepC X W0 u3 (.slice 4 (r.body.map encLtl)):=hr3
  obtain⟨ao,cap,hu3,hcap,hmax,_⟩:=hr3.slice_inv
  have hlen:(r.body.map encLtl).length=r.body.length:=List.length_map _
  rw [hlen] at hu3 hcap
  have hbl:r.body.length≤maxLen:=by omega
  have hbm:r.body.length≤9223372036854775807:=by unfold maxLen at hbl;omega
  refine callsIn_wide.1 (callsIn_of_wp_marks (F:=Fence.wide) (n:=0) Tryz.func153 rfl trivial ?_)
  have hF0:Flat 29 [(0,.val (.func (.yield l) #[] #[])),(1,.val pv),(2,.val qv)] { tmps:=(#[.func (.yield l) #[] #[]]++[pv,qv].toArray)++Array.replicate 26 undef,defers:=[] }:=by
   refine⟨by simp,rfl,fun t X e w=>?_⟩
   rw [Sl.get_cons]
   split
   ·rename_i h;subst h;simp [Rel]
   ·rw [Sl.get_cons]
    split
    ·rename_i h;subst h;simp [Rel]
    ·rw [Sl.get_cons]
     split
     ·rename_i h;subst h;simp [Rel]
     ·trivial
  have hret:∀ (ex:Exit) (a:Act) (W:World),(ex = .normal∨ex = .ret)→a.defers=[]→(J (yesX r vars).length W∨Jx W) →
    bodyPostM Fence.wide 0 Tryz.prog Tryz.f153 (fun en W'=>(∃ v,en = .returned v)∧(J (yesX r vars).length W'∨Jx W')) ex a W:=by
   rintro ex a W hx hd hj
   have:LeavesInM Fence.wide 0 Tryz.prog Tryz.f153 a.tmps (fun en W'=>(∃ v,en = .returned v)∧(J (yesX r vars).length W'∨Jx W')) a.defers .returning W:=by
    rw [hd]
    exact⟨.tuple #[],by simp [results,Tryz.f153],⟨_,rfl⟩,hj⟩
   rcases hx with rfl|rfl <;> exact this
  obtain⟨QQ,hQQ⟩:∃ QQ,QQ=bodyPostM Fence.wide 0 Tryz.prog Tryz.f153 (fun en W'=>(∃ v,en = .returned v)∧(J (yesX r vars).length W'∨Jx W')):=⟨_,rfl⟩
  rw [← hQQ] at hret ⊢
  clear hQQ
  refine wpIn_seq (wpIn_mono (Q:=fun ex a' w'=>ex = .normal∧Flat 29 (ygL (.func (.yield l) #[] #[]) pv qv u3 r.body.length 0) a'∧Below W0.heap.size W0 w') ?_ ?_)
  ·have m0:=hF0.models (P:=Tryz.prog) (τ:=tab) (τok:=tab_ok) (O:=X) W0 hX
   refine dwr_run m0 (dwr_of rfl ?_)
   subst hpv hu3
   apply ds_region;exact rfl
   refine ds_ev (ev_fa_val (l:=[(0,3,1),(1,61,1),(2,3,1),(3,62,1),(4,3,1)]) rfl rfl rfl 1 rfl) rfl rfl ?_
   refine ds_ev (ev_ld_val (u:=.slice ao r.body.length cap) 6 rfl rfl rfl hc3 (fun _=>id)) rfl rfl ?_
   refine ds_ev (ev_len_val 7 (t':=68) rfl rfl hbl) rfl rfl ?_
   repeat' (first|refine z0 ?_|apply ds_nil)
   intro e a w m
   exact⟨rfl,m.flatten ⟨rfl,rfl,rfl,rfl,rfl,rfl,trivial⟩ rfl,m.toHeap.it_below⟩
  rintro ex a0 w0 ⟨rfl,hf0,hbl0⟩
  refine wpIn_block (wpIn_loop_ghost (fun n a W=>∃ i,i≤r.body.length∧n=r.body.length - i∧Flat 29 (ygL (.func (.yield l) #[] #[]) pv qv u3 r.body.length i) a∧J (cntY r i) W) r.body.length ⟨0,Nat.zero_le _,rfl,hf0,hJb _ _ _ hJ0 hbl0⟩ ?_)
  rintro n a W ⟨i,hi,rfl,hf,hj⟩
  obtain⟨hsz,hfrW⟩:=hfr _ _ hj
  have hOW:∀ b,Oit X W0 W b→b < W.heap.size:=fun b h=>h.1
  have m0:=hf.models (P:=Tryz.prog) (τ:=tab) (τok:=tab_ok) (O:=Oit X W0 W) W hOW
  have hv2:∀ {k:Nat} {L:Sl} {H:Hp} {e:Env} {a:Act} {w:World},Models (Γit Tryz.prog tab tab_ok (Oit X W0 W) W 29) (lo k) L H e a w→L.get 2 = .val qv→Models (Γit Tryz.prog tab tab_ok (Oit X W0 W) W 29) (lo k) ((2,.pd [.slice 1 (vars.map encI)])::L) H e a w :=
   fun m h=>m.val_as 2 h (it_rel hsz hfrW rfl hqd m.toHeap)
  have hv7:∀ {k:Nat} {L:Sl} {H:Hp} {e:Env} {a:Act} {w:World},Models (Γit Tryz.prog tab tab_ok (Oit X W0 W) W 29) (lo k) L H e a w→L.get 7 = .val u3→Models (Γit Tryz.prog tab tab_ok (Oit X W0 W) W 29) (lo k) ((7,.d (.slice 4 (r.body.map encLtl)))::L) H e a w :=
   fun m h=>m.val_as 7 h (it_rel (e0:=e0) (s:=.d (.slice 4 (r.body.map encLtl))) hsz hfrW rfl hr3 m.toHeap)
  refine dwr_run m0 ?_
  have hr5:∀ (c5:Code) (a:Act) (W':World),i < r.body.length→Flat 29 (ygL (.func (.yield l) #[] #[]) pv qv u3 r.body.length i) a→J (cntY r (i + 1)) W' →
    DW (Γit Tryz.prog tab tab_ok X W' 29) c5 (fun ex _ L _=>ex = .normal∧Kepts L (ygL (.func (.yield l) #[] #[]) pv qv u3 r.body.length (i + 1))) 0 (ygL (.func (.yield l) #[] #[]) pv qv u3 r.body.length i) [] →
    Code.wpIn Fence.wide 0 Tryz.prog c5 (Exit.then (fun a' w'=>∃ n',n' < r.body.length - i∧∃ i,i≤r.body.length∧n' = r.body.length - i∧Flat 29 (ygL (.func (.yield l) #[] #[]) pv qv u3 r.body.length i) a'∧J (cntY r i) w') (Exit.inBlock 0 (fun ex a w=>QQ ex a w))) a W':=by
   intro c5 a W' hlt hf' hj' h5
   have hO':∀ b,X b→b < W'.heap.size:=fun b h=>Nat.lt_of_lt_of_le (hX b h) (hfr _ _ hj').1
   have m1:=hf'.models (P:=Tryz.prog) (τ:=tab) (τok:=tab_ok) (O:=X) W' hO'
   refine wpIn_mono (dw_run m1 h5) ?_
   rintro ex a2 w2 (⟨k2,L2,H2,e2,m2,rfl,hk2⟩|⟨_,_,_,_,hv,_⟩)
   ·exact⟨r.body.length - (i + 1),by omega,i + 1,by omega,rfl,m2.flatten hk2 rfl,hJb _ _ _ hj' m2.toHeap.it_below⟩
   ·exact hv.elim
  refine dwr_seq rfl ?_
  repeat' (first|refine z0 ?_|apply ds_nil|refine z16 ?_|apply thenD_n)
  refine dwr_seq rfl ?_
  by_cases hlt:i < r.body.length
  rotate_left
  ·repeat' (first|apply dw_skip|apply dw_exit|apply thenD_n|apply thenD_e|(refine z23 ?_ ?_ <;> intro hg)|fail)
   all_goals try (exfalso;omega)
   intro e a w m
   refine hret .normal a w (.inl rfl) (m.flatten (Ls:=[]) trivial rfl).defers (.inl ?_)
   rw [← cntY_all (r:=r) vars (i:=i) (by omega)]
   exact hJb _ _ _ hj m.toHeap.it_below
  repeat' (first|apply dw_skip|apply dw_exit|apply thenD_n|apply thenD_e|(refine z23 ?_ ?_ <;> intro hg)|fail)
  all_goals try (exfalso;omega)
  refine dwr_seqR (dwr_block ?_)
  refine dwr_seq rfl ?_
  apply ds_region;exact rfl
  refine ds_ev (ev_val ((7,.d (.slice 4 (r.body.map encLtl)))::_) (fun e a w m=>hv7 m rfl) (ev_index_map (f:=encLtl) (l:=r.body) (t':=68) rfl rfl rfl rfl rfl rfl hlt)) rfl rfl ?_
  repeat' (first|refine z0 ?_|apply ds_nil|apply thenD_n|refine z1 ?_|refine z3 ?_|fail)
  have hok':=hok _ (List.getElem_mem hlt)
  have hat:=yesX_at vars hlt
  have hskip:=cntY_skip hlt
  have hstep:=cntY_step hlt
  generalize r.body[i]=x at hok' hat hskip hstep ⊢
  obtain⟨kind,op,pred,terms⟩:=x
  dsimp only at hok' ⊢
  by_cases hk1:kind=1
  ·subst hk1
   obtain⟨hc,hx⟩:=hat rfl
   obtain⟨ho1,ho2⟩:=hok' rfl
   have w1:=args_fn terms vars ho1 ho2
   refine dwr_seqR (dwr_yieldA (l:=l) (d:=25) (N:=29) (g:=some (3,true)) (fy:=17) (pre:=[_,_,_,_,_,_,_,_,_,_,_,_]) (post:=[_,_]) (by kernel_rfl) (by rfl) (by kernel_rfl) (by kernel_rfl) (by rfl) (by rfl) (by rfl) (by rfl)
    ((2,.pd [.slice 1 (vars.map encI)])::_) (fun e a w m=>hv2 m rfl) 2 qv rfl (by rfl) ((16,.d (.bool true))::yg0 (.func (.yield l) #[] #[]) pv u3 r.body.length i) rfl (fun b=>(27,.d (.bool (!b)))::ygL (.func (.yield l) #[] #[]) pv qv u3 r.body.length i) (J (cntY r (i + 1))) Jx ?_ ?_ ?_)
   ·repeat' (first|refine z5 ?_|refine z10 ?_|refine z22 ?_ (hc:=by apply w1)|fail)
    refine⟨rfl,rfl,rfl,⟨rfl,rfl,rfl,rfl,rfl,rfl,trivial⟩,fun e W' vs hb1 hvs=>?_⟩
    have:=hy (cntY r i) hc W W' vs hj hb1 ⟨e,by rw [hx];exact hvs⟩
    rw [← hstep rfl] at this
    exact this
   ·intro b W'
    repeat' (first|refine z0 ?_|apply ds_nil)
    exact⟨rfl,⟨rfl,rfl,rfl,rfl,rfl,rfl,rfl,trivial⟩,rfl⟩
   ·rintro b a' W' hfl ⟨W1,hb1,hj1⟩
    have hfl':Flat 29 (ygL (.func (.yield l) #[] #[]) pv qv u3 r.body.length i) a':=⟨hfl.len,hfl.defers,fun t X e w=>by
     have:=hfl.slot t X e w
     rw [Sl.get_cons] at this
     split at this
     ·rename_i h;subst h;trivial
     ·exact this⟩
    have hv:a'.eval (.tmp 27) = .bool (!b):=by
     have h1:=hfl.slot 27 (fun _=>False) ⟨fun _=>0,fun _=>undef,lo 0⟩ W'
     have h1:RepC _ W' (a'.tmps.getD 27 undef) (.bool (!b)):=h1
     show a'.tmps.getD 27 undef=_
     generalize a'.tmps.getD 27 undef=v at h1 ⊢
     cases h1
     rfl
    rcases hj1 with ⟨rfl,hj1⟩|⟨rfl,hj1⟩
    ·refine wpIn_cond_false hv (wpIn_skip ?_)
     refine hr5 _ a' W' hlt hfl' (hJb _ _ _ hj1 hb1) ?_
     repeat' (first|refine z0 ?_|apply ds_nil|refine z16 ?_|fail)
     exact⟨rfl,rfl,rfl,rfl,rfl,rfl,rfl,trivial⟩
    ·refine wpIn_cond_true hv (wpIn_ret ?_)
     exact hret .ret a' W' (.inr rfl) hfl.defers (.inr (hJxb _ _ hj1 hb1))
  ·refine dwr_seq rfl ?_
   repeat' (first|refine z5 ?_|refine z14 ?_|refine z10 ?_|refine z20 ?_|apply thenD_n|((fail_if_success (apply dt_known;exact rfl));apply dt_guardP;exact rfl;exact rfl;exact rfl;all_goals intro hg))
   all_goals try (exfalso;omega)
   unfold DWr
   intro e a w m
   have hv:a.eval (.tmp 27) = .bool false:=by
    have h1:RepC _ w (a.tmps.getD 27 undef) (.bool false):=m.slot 27
    show a.tmps.getD 27 undef=_
    generalize a.tmps.getD 27 undef=v at h1 ⊢
    cases h1
    rfl
   refine wpIn_cond_false hv (wpIn_skip ?_)
   refine hr5 _ a w hlt (m.flatten ⟨rfl,rfl,rfl,rfl,rfl,rfl,trivial⟩ rfl) (by rw [hskip (decide_eq_false hk1)];exact hJb _ _ _ hj m.toHeap.it_below) ?_
   repeat' (first|refine z0 ?_|apply ds_nil|refine z16 ?_|fail)
   exact⟨rfl,rfl,rfl,rfl,rfl,rfl,rfl,trivial⟩
abbrev chkD (p:Prg) (l m:List Fct):List D:=[.slice 1 (p.arity.map encI),.slice 1 (p.names.map encT),.slice 5 (p.rules.map encRul),.slice 2 ((setF' l).map encFct),.slice 2 (m.map encFct)]
attribute [local irreducible] DT
set_option maxHeartbeats 8000000 in
theorem cway1_fn (n w:List Int):Fn 152 ([elW w]++[.pd [.slice 1 (n.map encI)]]) (fun res=>res = .d (.bool (decide (w=n)))):=by
 refine fnp_enter' _ Tryz.func152 rfl rfl (by kernel_rfl) ?_
 intro O w0 E0 β0
 have w1:=equalI_fn w n
 repeat' (first|refine z0 ?_|apply ds_nil|apply dw_seq2|refine z16 ?_|apply dw_ret|apply thenD_n|refine z21 ?_ (hc:=by apply w1)|fail)
 exact ret_b rfl rfl
set_option maxHeartbeats 8000000 in
theorem containsW_fn {f:FuncId} {caps:List SV} (p:List Int→Bool) (l:List (List Int)) (hcap:SV.lowL 0 caps=true) (hp:∀ x∈l,Fn f (elW x::caps) (fun r=>r = .d (.bool (p x)))):Fn 151 [.d (.slice 1 (l.map encW)),.fn f caps] (fun r=>r = .d (.bool (l.any p))):=by
 refine fnp_enter' _ Tryz.func151 rfl rfl (by kernel_rfl) ?_
 intro O w0 E0 β0
 have hx:=indexW_fn p l hcap hp
 have hlow:SV.lowL 0 [.d (.slice 1 (l.map encW)),.fn f caps]=true:=by simp [SV.lowL,SV.low,hcap]
 repeat' (first|refine z0 ?_|apply ds_nil|apply dw_seq2|refine z16 ?_|apply dw_ret|apply thenD_n|refine z21 ?_ (hc:=by apply hx)|fail)
 exact ret_b rfl (idxF_any p l)
set_option maxHeartbeats 8000000 in
theorem cway_fn (p:Prg) (l m:List Fct) (r:Rul) (n:List Int) (hS:Strict m) (hS2:m.length≤4398046511104) (hr:RulS m r) (hm:manyW m r=true) :
  Fn 98 [.pd (chkD p l m),elRul r,.d (.slice 1 (n.map encI))] (fun res=>res = .tup [.d (.slice 1 ((if (n.length:Int)=r.vars then rawW m r else []).map encW)),.d (.bool (decide ((n.length:Int)=r.vars) && (rawW m r).any fun w=>decide (w=n)))]):=by
 refine fnp_enter' _ Tryz.func98 rfl rfl (by kernel_rfl) ?_
 intro O w0 E0 β0
 have ln:(n.map encI).length=n.length:=List.length_map _
 have w1:=raw_fn m r hS hS2 hr
 rw [hm] at w1
 have w2:=containsW_fn (caps:=[.pd [.slice 1 (n.map encI)]]) (fun w=>decide (w=n)) (rawW m r) rfl (fun w _=>cway1_fn n w)
 by_cases hv:(n.length:Int)=r.vars
 ·rw [decide_eq_true hv,Bool.true_and,if_pos hv]
  repeat' ((fail_if_success (apply dw_stopS 4));(first|refine z0 ?_|apply ds_nil|refine z5 ?_|refine z10 ?_|apply dw_seq2|refine z16 ?_|refine z20 ?_|apply dw_skip|apply dw_ret|apply thenD_n|apply thenD_r|refine z22 ?_ (hc:=by apply w1)|refine z1 ?_|(refine z23 ?_ ?_ <;> intro hg)|fail))
  all_goals try (exfalso;omega)
  refine dw_ent (ent_freezeL (ds:=[.slice 1 (n.map encI)]) 5 1 rfl rfl) ?_
  repeat' (first|refine z0 ?_|apply ds_nil|apply dw_seq2|refine z16 ?_|apply dw_ret|apply thenD_n|refine z21 ?_ (hc:=by apply w2)|fail)
  exact⟨.inl rfl,_,rfl,rfl,rfl⟩
 ·rw [decide_eq_false hv,Bool.false_and,if_neg hv]
  repeat' (first|refine z0 ?_|apply ds_nil|refine z5 ?_|apply dw_seq2|refine z16 ?_|refine z20 ?_|apply dw_skip|apply thenD_n|refine z1 ?_|(refine z23 ?_ ?_ <;> intro hg)|fail)
  all_goals try (exfalso;omega)
  refine dw_ent (ent_nild 6 1 rfl) ?_
  repeat' (first|apply dw_ret|apply thenD_r)
  exact⟨.inl rfl,_,rfl,rfl,rfl⟩
def ruleStepB (r:Rul) (m:List Fct) (ahead:List Stp) (x:Stp):Bool :=
 (rawW m r).any (fun w=>decide (w=x.vars)) &&
  (if r.fold=0 then decide (ordF ⟨r.pred,aW r x.vars⟩ x.fact=0) && (r.body.filter kind1).all fun z=>hasS ahead (yesF x.vars z)
  else hasF (hdW m r) x.fact && decide (x.fact.args.take (r.terms.length - 1)=(aW r x.vars).take (r.terms.length - 1)))
def stepB (p:Prg) (l m:List Fct) (ahead:List Stp) (x:Stp):Bool :=
 if x.rule = -1 then hasF l x.fact && decide (x.vars.length=0)
 else if h:0≤x.rule∧x.rule.toNat < p.rules.length then ruleStepB (p.rules[x.rule.toNat]'h.2) m ahead x else false
structure RuleM (p:Prg) (m:List Fct) (r:Rul):Prop where
 ok:HeadOk p.arity r (rawW m r)
 s:RulS m r
 many:manyW m r=true
theorem ModelR.rule {p:Prg} {l m:List Fct} (hx:ModelR p l 0 m) {r:Rul} (hr:r∈p.rules):RuleM p m r:=by
 have ho:=mOk hx.ok0
 obtain⟨s1,s2,s3⟩:=hx.strict
 have hnd:m.Nodup:=s1.imp fun h he=>by subst he;exact lt_irrefl h
 have h1:=ho.pr.rul r hr
 obtain⟨g1,g2⟩:=ho.lvs r hr
 refine⟨raw_ok h1 ho.pr.ar s3 hnd,rulS_mk h1 ho.pr.ar s3,?_⟩
 exact (RunTo.heads ho.pr ho.fit ho.facts ho.len (ModelR.run hx.ok0 hx) hr g1 g2).1
theorem any_mem {ws:List (List Int)} {n:List Int} (h:(ws.any fun w=>decide (w=n))=true):n∈ws:=by
 obtain⟨w,hw,h⟩:=List.any_eq_true.1 h
 rwa [← of_decide_eq_true h]
abbrev isH (r:Rul) (ahead:List Stp) (x:Stp) (b:Bool):Hp:=[(4,.blk 37 [.d (.int .i64 r.pred),.d (.slice 1 ((aW r x.vars).map encI))]),(3,.blk 64 [.d (.int .i64 r.pred),.d (.slice 2 (r.terms.map encTrm)),.d (.int .i64 r.fold),.d (.slice 4 (r.body.map encLtl)),.d (.int .i64 r.vars)]),(2,.blk 4 [.d (.bool b)]),(1,.blk 39 [.d (.int .i64 x.fact.pred),.d (.slice 1 (x.fact.args.map encI)),.d (.int .i64 x.rule),.d (.slice 1 (x.vars.map encI))]),(0,.blk 28 [.d (.slice 4 (ahead.map encStp))])]
set_option maxHeartbeats 8000000 in
theorem is_fn (p:Prg) (l m:List Fct) (ahead:List Stp) (x:Stp) (hx:ModelR p l 0 m) :
  Fn 47 [.pd (chkD p l m),.d (.slice 4 (ahead.map encStp)),elStp x] (fun res=>res = .d (.bool (stepB p l m ahead x))):=by
 have ho:=mOk hx.ok0
 obtain⟨s1,s2,s3⟩:=hx.strict
 have hl60:=ho.len
 have hsl:=setF_lenle l
 refine fnp_enter' _ Tryz.func47 rfl rfl (by kernel_rfl) ?_
 intro O w0 E0 β0
 have lr:(p.rules.map encRul).length=p.rules.length:=List.length_map _
 have lv:(x.vars.map encI).length=x.vars.length:=List.length_map _
 have w1:=in_fn (setF' l) x.fact (by omega) (setF_spec l).1
 rw [hasF_set] at w1
 by_cases h1:x.rule = -1
 ·have hst:stepB p l m ahead x=(hasF l x.fact && decide (x.vars.length=0)):=if_pos h1
  have hd:decide (((x.vars.map encI).length:Int)=0)=decide (x.vars.length=0):=by rw [lv];simp
  rw [hst,← hd]
  cases hb:hasF l x.fact with
  | true =>
   rw [hb] at w1
   rw [Bool.true_and]
   repeat' (first|refine z0 ?_|apply ds_nil|refine z5 ?_|refine z14 ?_|refine z6 ?_|refine z7 ?_|refine z10 ?_|refine z11 ?_|apply dw_seq2|refine z16 ?_|refine z20 ?_|apply dw_skip|apply dw_ret|refine z18 ?_|apply thenD_n|apply thenD_r|refine z22 ?_ (hc:=by apply w1)|refine z1 ?_|refine z3 ?_|(refine z23 ?_ ?_ <;> intro hg)|((fail_if_success (apply dt_known;exact rfl));apply dt_guardP;exact rfl;exact rfl;exact rfl;all_goals intro hg))
   all_goals try (exfalso;omega)
   all_goals exact⟨.inl rfl,_,rfl,rfl,rfl⟩
  | false =>
   rw [hb] at w1
   rw [Bool.false_and]
   repeat' (first|refine z0 ?_|apply ds_nil|refine z5 ?_|refine z14 ?_|refine z6 ?_|refine z7 ?_|refine z10 ?_|refine z11 ?_|apply dw_seq2|refine z16 ?_|refine z20 ?_|apply dw_skip|apply dw_ret|refine z18 ?_|apply thenD_n|apply thenD_r|refine z22 ?_ (hc:=by apply w1)|refine z1 ?_|refine z3 ?_|(refine z23 ?_ ?_ <;> intro hg)|((fail_if_success (apply dt_known;exact rfl));apply dt_guardP;exact rfl;exact rfl;exact rfl;all_goals intro hg))
   all_goals try (exfalso;omega)
   all_goals exact⟨.inl rfl,_,rfl,rfl,rfl⟩
 ·by_cases hr:0≤x.rule∧x.rule.toNat < p.rules.length
  ·have hst:stepB p l m ahead x=ruleStepB (p.rules[x.rule.toNat]'hr.2) m ahead x:=by unfold stepB;rw [if_neg h1,dif_pos hr]
   rw [hst]
   have hM:=hx.rule (List.getElem_mem hr.2)
   repeat' ((fail_if_success (apply dw_stopS 6));(first|refine z0 ?_|apply ds_nil|refine z5 ?_|refine z14 ?_|refine z6 ?_|refine z7 ?_|refine z10 ?_|refine z11 ?_|apply dw_seq2|refine z16 ?_|refine z20 ?_|apply dw_skip|apply dw_ret|refine z18 ?_|apply thenD_n|apply thenD_r|refine z22 ?_ (hc:=by apply w1)|refine z1 ?_|refine z3 ?_|(refine z23 ?_ ?_ <;> intro hg)|((fail_if_success (apply dt_known;exact rfl));apply dt_guardP;exact rfl;exact rfl;exact rfl;all_goals intro hg)|((fail_if_success (apply dt_known;exact rfl));apply dt_guard;exact rfl;exact rfl;exact rfl;all_goals intro hg)))
   all_goals try (exfalso;omega)
   generalize p.rules[x.rule.toNat]'hr.2=r at hM ⊢
   refine dw_ent (ent_ren (k':=4) (L':=[(0,.pd (chkD p l m)),(4,.loc 0 0),(5,.loc 1 0),(6,.loc 2 0),(7,.loc 3 0)]) (H':=[(3,.blk 64 [.d (.int .i64 r.pred),.d (.slice 2 (r.terms.map encTrm)),.d (.int .i64 r.fold),.d (.slice 4 (r.body.map encLtl)),.d (.int .i64 r.vars)]),(2,.blk 4 [.d (.bool false)]),(1,.blk 39 [.d (.int .i64 x.fact.pred),.d (.slice 1 (x.fact.args.map encI)),.d (.int .i64 x.rule),.d (.slice 1 (x.vars.map encI))]),(0,.blk 28 [.d (.slice 4 (ahead.map encStp))])])
    (fun j=>match j with|3=>12|j=>j) ⟨rfl,rfl,rfl,rfl,rfl,trivial⟩ ⟨rfl,rfl,rfl,rfl,trivial⟩ rfl rfl rfl rfl rfl rfl) ?_
   have w2:=cway_fn p l m r x.vars s1 (by omega) hM.s hM.many
   by_cases hin:((rawW m r).any fun w=>decide (w=x.vars))=true
   rotate_left
   ·have hin:=Bool.eq_false_iff.2 hin
    have hrs:ruleStepB r m ahead x=false:=by unfold ruleStepB;rw [hin,Bool.false_and]
    rw [hrs]
    rw [hin,Bool.and_false] at w2
    repeat' (first|refine z0 ?_|apply ds_nil|apply dw_seq2|refine z16 ?_|apply dw_ret|refine z18 ?_|apply thenD_n|apply thenD_r|refine z21 ?_ (hc:=by apply w2)|refine z3 ?_|fail)
    all_goals try (exfalso;omega)
    exact⟨.inl rfl,_,rfl,rfl,rfl⟩
   have hmem:=any_mem hin
   have hvl:(x.vars.length:Int)=r.vars:=by have:=hM.ok.len _ hmem;have:=hM.ok.rul.vars;omega
   rw [hin,Bool.and_true,decide_eq_true hvl,if_pos hvl] at w2
   have w3:=args_fn r.terms x.vars (hM.ok.terms hmem) (by have:=hM.ok.tlen;omega)
   repeat' ((fail_if_success (apply dw_stopS 10));(first|refine z0 ?_|apply ds_nil|refine z5 ?_|refine z6 ?_|refine z7 ?_|refine z11 ?_|apply dw_seq2|refine z16 ?_|refine z20 ?_|apply dw_skip|refine z19 ?_|apply thenD_n|refine z21 ?_ (hc:=by apply w2)|refine z22 ?_ (hc:=by apply w3)|fail))
   all_goals try (exfalso;omega)
   refine dw_ent (ent_ren (k':=5) (L':=[(0,.pd (chkD p l m)),(4,.loc 0 0),(5,.loc 1 0),(6,.loc 2 0),(7,.loc 3 0),(8,.d (.slice 1 ((rawW m r).map encW))),(10,.loc 4 0)]) (H':=[(4,.blk 37 [.d (.int .i64 r.pred),.d (.slice 1 ((aW r x.vars).map encI))]),(3,.blk 64 [.d (.int .i64 r.pred),.d (.slice 2 (r.terms.map encTrm)),.d (.int .i64 r.fold),.d (.slice 4 (r.body.map encLtl)),.d (.int .i64 r.vars)]),(2,.blk 4 [.d (.bool false)]),(1,.blk 39 [.d (.int .i64 x.fact.pred),.d (.slice 1 (x.fact.args.map encI)),.d (.int .i64 x.rule),.d (.slice 1 (x.vars.map encI))]),(0,.blk 28 [.d (.slice 4 (ahead.map encStp))])])
    (fun j=>match j with|4=>12|j=>j) ⟨rfl,rfl,rfl,rfl,rfl,rfl,rfl,trivial⟩ ⟨rfl,rfl,rfl,rfl,rfl,trivial⟩ rfl rfl rfl rfl rfl rfl) ?_
   clear w1 w2 w3
   by_cases hf:r.fold=0
   ·have w4:=orderF_fn ⟨r.pred,aW r x.vars⟩ x.fact
    have w5:=yes_fn r x.vars
    have hrs:ruleStepB r m ahead x=(decide (ordF ⟨r.pred,aW r x.vars⟩ x.fact=0) && (r.body.filter kind1).all fun z=>hasS ahead (yesF x.vars z)):=by unfold ruleStepB;rw [hin,Bool.true_and,if_pos hf]
    rw [hrs]
    by_cases ho0:ordF ⟨r.pred,aW r x.vars⟩ x.fact=0
    ·rw [decide_eq_true ho0,Bool.true_and]
     repeat' (first|refine z0 ?_|apply ds_nil|refine z5 ?_|apply dw_seq2|refine z16 ?_|refine z20 ?_|apply dw_block|apply dw_skip|apply dw_ret|apply thenD_n|apply thenD_r|refine z21 ?_ (hc:=by apply w4)|refine z21 ?_ (hc:=by apply w5)|refine z3 ?_|(refine z23 ?_ ?_ <;> intro hg)|fail)
     all_goals try (exfalso;omega)
     clear w4 w5
     obtain⟨ys,hys⟩:∃ ys,ys=r.body.filter kind1:=⟨_,rfl⟩
     rw [← hys]
     have hyl:(yesX r x.vars).length=ys.length:=by unfold yesX;rw [List.length_map,hys]
     refine dw_range (yesX r x.vars) rfl rfl (yes1_seq r x.vars fun z hz hk=>?_) (yesX_each r x.vars) (by simp) [(0,.pd (chkD p l m)),(4,.loc 0 0),(5,.loc 1 0),(6,.loc 2 0),(7,.loc 3 0),(10,.loc 4 0)] ⟨rfl,rfl,rfl,rfl,rfl,rfl,trivial⟩ rfl
      (ι:=Unit) (fun _ _=>(5,isH r ahead x false)) (fun j _=>((ys.take j).all fun z=>hasS ahead (yesF x.vars z))=true) () (by simp) rfl ?_ ?_
     ·have h:=(hM.s.ok.lit z hz).terms
      rw [show r.vars.toNat=x.vars.length by omega] at h
      exact⟨h,by have:=hM.s.ok.tlen z hz;omega⟩
     ·rintro j hj ⟨⟩ e1 O1 w1 E1 β1 l1
      have hj':j < ys.length:=by omega
      have hxj:(yesX r x.vars)[j]=[elFct (yesF x.vars ys[j])]:=by simp [yesX,hys]
      rw [hxj]
      have wm:=met_fn ahead (yesF x.vars ys[j])
      have hst1:((ys.take (j + 1)).all fun z=>hasS ahead (yesF x.vars z))=hasS ahead (yesF x.vars ys[j]):=by
       rw [List.take_succ_eq_append_getElem hj',List.all_append,e1];simp
      change DW _ _ _ _ ((104,elFct (yesF x.vars ys[j]))::_) _
      repeat' (first|apply ds_nil|refine z16 ?_|refine z1 ?_|refine z3 ?_|fail)
      refine⟨rfl,fun O2 w2 E2 β2=>?_⟩
      cases hb:hasS ahead (yesF x.vars ys[j]) with
      | true =>
       rw [hb] at wm hst1
       repeat' (first|refine z0 ?_|apply ds_nil|apply dw_seq2|refine z16 ?_|apply dw_block|apply dw_skip|refine z19 ?_|apply thenD_n|apply inB_n|refine z21 ?_ (hc:=by apply wm)|fail)
       all_goals try (exfalso;omega)
       exact⟨(),hst1,ent_ren id trivial ⟨rfl,rfl,rfl,rfl,rfl,trivial⟩ rfl rfl rfl rfl rfl rfl⟩
      | false =>
       rw [hb] at wm
       have hall:(ys.all fun z=>hasS ahead (yesF x.vars z))=false:=List.all_eq_false.2 ⟨_,List.getElem_mem hj',by rw [hb];simp⟩
       rw [hall]
       repeat' (first|refine z0 ?_|apply ds_nil|apply dw_seq2|refine z16 ?_|apply dw_block|apply dw_ret|refine z18 ?_|apply thenD_n|apply inB_r|refine z21 ?_ (hc:=by apply wm)|refine z3 ?_|fail)
       all_goals try (exfalso;omega)
       refine⟨5,isH r ahead x false,ent_ren id trivial ⟨rfl,rfl,rfl,rfl,rfl,trivial⟩ rfl rfl rfl rfl rfl rfl,?_⟩
       repeat' (first|apply thenD_r|apply inB_r)
       exact⟨.inl rfl,_,rfl,rfl,rfl⟩
     ·rintro⟨⟩ e1
      rw [hyl,List.take_of_length_le (Nat.le_refl _)] at e1
      rw [e1]
      repeat' (first|apply ds_nil|apply dw_seq2|refine z16 ?_|apply dw_ret|apply thenD_n|apply inB_n|refine z3 ?_|fail)
      all_goals try (exfalso;omega)
      exact⟨.inl rfl,_,rfl,rfl,rfl⟩
    ·rw [decide_eq_false ho0,Bool.false_and]
     repeat' (first|refine z0 ?_|apply ds_nil|refine z5 ?_|apply dw_seq2|refine z16 ?_|refine z20 ?_|apply dw_block|apply dw_skip|apply dw_ret|apply thenD_n|apply thenD_r|refine z21 ?_ (hc:=by apply w4)|refine z21 ?_ (hc:=by apply w5)|refine z3 ?_|(refine z23 ?_ ?_ <;> intro hg)|fail)
     all_goals try (exfalso;omega)
     exact⟨.inl rfl,_,rfl,rfl,rfl⟩
   ·obtain⟨g1,g2⟩:=hM.ok.rul.folded hf
    have w4:=made_fn p.arity r (rawW m r) hM.ok
    have hl:(hdW m r).length≤2000:=by
     refine Nat.le_trans (setF_lenle _) ?_
     rw [headsD_eq]
     exact Nat.le_trans (List.length_filterMap_le _ _) hM.ok.many
    have w5:=in_fn (hdW m r) x.fact (by omega) (setF_spec _).1
    have w6:=equalI_fn (x.fact.args.take (r.terms.length - 1)) ((aW r x.vars).take (r.terms.length - 1))
    rw [show setF' (headsD r (rawW m r))=hdW m r from rfl] at w4
    have hrs:ruleStepB r m ahead x=(hasF (hdW m r) x.fact && decide (x.fact.args.take (r.terms.length - 1)=(aW r x.vars).take (r.terms.length - 1))):=by unfold ruleStepB;rw [hin,Bool.true_and,if_neg hf]
    rw [hrs]
    have lt:(r.terms.map encTrm).length=r.terms.length:=List.length_map _
    have la:((aW r x.vars).map encI).length=(aW r x.vars).length:=List.length_map _
    have la2:=aW_len r x.vars
    have lf:(x.fact.args.map encI).length=x.fact.args.length:=List.length_map _
    have ht3:=hM.ok.tlen
    obtain⟨last,hlast⟩:∃ last,last=r.terms.length - 1:=⟨_,rfl⟩
    rw [← hlast] at w6 ⊢
    have hl1:((r.terms.map encTrm).length:Int) - 1=(last:Int):=by omega
    repeat' ((fail_if_success (apply dw_stopS 12));(first|refine z0 ?_|apply ds_nil|apply dw_seq2|refine z16 ?_|apply dw_skip|apply thenD_n|(refine z23 ?_ ?_ <;> intro hg)|fail))
    all_goals try (exfalso;omega)
    refine dw_ent (ent_ren (k':=5) (L':=[(0,.pd (chkD p l m)),(4,.loc 0 0),(5,.loc 1 0),(6,.loc 2 0),(7,.loc 3 0),(8,.d (.slice 1 ((rawW m r).map encW))),(10,.loc 4 0),(11,.d (.int .i64 last))]) (H':=isH r ahead x false) id ⟨rfl,rfl,rfl,rfl,rfl,rfl,rfl,by rw [← hl1];rfl,trivial⟩ ⟨rfl,rfl,rfl,rfl,rfl,trivial⟩ rfl rfl rfl rfl rfl rfl) ?_
    have hat:hasF (hdW m r) x.fact=true→x.fact.args.length=r.terms.length:=fun h=>(head_way (((setF_spec _).2 _).1 (hasF_iff.1 h)) (fun _=>g1)).1
    cases hb:hasF (hdW m r) x.fact with
    | true =>
     have hat:=hat hb
     rw [hb] at w5
     rw [Bool.true_and]
     repeat' (first|refine z5 ?_|refine z6 ?_|refine z10 ?_|apply dw_seq2|refine z20 ?_|apply dw_ret|apply thenD_n|apply thenD_r|refine z22 ?_ (hc:=by apply w4)|refine z22 ?_ (hc:=by apply w5)|refine z22 ?_ (hc:=by apply w6)|fail)
     all_goals try (exfalso;omega)
     all_goals exact⟨.inl rfl,_,rfl,rfl,rfl⟩
    | false =>
     rw [hb] at w5
     rw [Bool.false_and]
     repeat' (first|refine z5 ?_|refine z14 ?_|refine z6 ?_|refine z10 ?_|apply dw_seq2|refine z20 ?_|apply dw_ret|apply thenD_n|apply thenD_r|refine z22 ?_ (hc:=by apply w4)|refine z22 ?_ (hc:=by apply w5)|fail)
     all_goals try (exfalso;omega)
     all_goals exact⟨.inl rfl,_,rfl,rfl,rfl⟩
  ·have hst:stepB p l m ahead x=false:=by unfold stepB;rw [if_neg h1,dif_neg hr]
   rw [hst]
   repeat' (first|refine z0 ?_|apply ds_nil|refine z5 ?_|refine z14 ?_|refine z6 ?_|refine z7 ?_|refine z10 ?_|refine z11 ?_|apply dw_seq2|refine z16 ?_|refine z20 ?_|apply dw_skip|apply dw_ret|refine z18 ?_|apply thenD_n|apply thenD_r|refine z1 ?_|refine z3 ?_|(refine z23 ?_ ?_ <;> intro hg)|((fail_if_success (apply dt_known;exact rfl));apply dt_guardP;exact rfl;exact rfl;exact rfl;all_goals intro hg))
   all_goals try (exfalso;omega)
   all_goals exact⟨.inl rfl,_,rfl,rfl,rfl⟩
def stepAt (p:Prg) (l m:List Fct) (xs:List Stp) (i:Nat):Bool:=match xs[i]? with
 | some x=>stepB p l m (xs.take i) x
 | none=>true
def stepsB (p:Prg) (l m:List Fct) (xs:List Stp) (n:Nat):Bool:=(List.range n).all (stepAt p l m xs)
def proofB (p:Prg) (l m:List Fct) (xs:List Stp):Bool:=decide (0 < xs.length) && stepsB p l m xs xs.length
theorem stepsB_succ (p:Prg) (l m:List Fct) (xs:List Stp) {i:Nat} (hi:i < xs.length):stepsB p l m xs (i + 1)=(stepsB p l m xs i && stepB p l m (xs.take i) xs[i]):=by
 unfold stepsB
 rw [List.range_succ,List.all_append]
 congr 1
 simp [stepAt,List.getElem?_eq_getElem hi]
theorem stepsB_false (p:Prg) (l m:List Fct) (xs:List Stp) {i:Nat} (hi:i < xs.length) (h:stepB p l m (xs.take i) xs[i]=false):stepsB p l m xs xs.length=false:=by
 unfold stepsB
 exact List.all_eq_false.2 ⟨i,List.mem_range.2 hi,by simp [stepAt,List.getElem?_eq_getElem hi,h]⟩
def whyE (e:Int) (xs:List Stp):Int:=if e=0∧200 < xs.length then 2 else e
set_option maxHeartbeats 8000000 in
theorem wcheck_fn (p:Prg) (l:List Fct) (xs:List Stp) (e:Int) (m:List Fct) (hx:ModelR p l e m) :
  Fn 9 [elPrg p,.d (.slice 2 (l.map encFct)),.d (.slice 4 (xs.map encStp))] (fun r=>r = .tup [.d (.bool (decide (whyE e xs=0) && proofB p l m xs)),.d (.int .i64 (whyE e xs))]):=by
 refine fnp_enter' _ Tryz.func9 rfl rfl (by kernel_rfl) ?_
 intro O w0 E0 β0
 have w1:=model_fn p l e m hx
 have lx:(xs.map encStp).length=xs.length:=List.length_map _
 refine dw_len_map (t:=2) rfl fun hb=>?_
 by_cases he:e=0
 ·subst he
  by_cases hl:200 < xs.length
  ·have hw:whyE 0 xs=2:=if_pos ⟨rfl,hl⟩
   rw [hw]
   repeat' (first|refine z0 ?_|apply ds_nil|refine z5 ?_|apply dw_seq2|refine z16 ?_|refine z20 ?_|apply dw_skip|apply dw_ret|refine z19 ?_|apply thenD_n|apply thenD_r|refine z21 ?_ (hc:=by apply w1)|refine z1 ?_|(refine z23 ?_ ?_ <;> intro hg)|fail)
   all_goals try (exfalso;omega)
   exact⟨.inl rfl,_,rfl,rfl,rfl⟩
  ·have hw:whyE 0 xs=0:=if_neg (fun h=>hl h.2)
   rw [hw,decide_eq_true rfl,Bool.true_and]
   have ho:=mOk hx.ok0
   obtain⟨s1,s2,s3⟩:=hx.strict
   have hl60:=ho.len
   have w2:=set_fn l (by omega) (fun x hx=>by have:=fct_len ho.pr (ho.facts x hx);omega)
   repeat' ((fail_if_success (apply dw_stopS 7));(first|refine z0 ?_|apply ds_nil|refine z5 ?_|refine z7 ?_|refine z11 ?_|apply dw_seq2|refine z16 ?_|refine z20 ?_|apply dw_skip|apply dw_ret|refine z19 ?_|apply thenD_n|apply thenD_r|refine z21 ?_ (hc:=by apply w1)|refine z22 ?_ (hc:=by apply w2)|refine z1 ?_|(refine z23 ?_ ?_ <;> intro hg)|fail))
   all_goals try (exfalso;omega)
   refine dw_ent (ent_freezeL (ds:=chkD p l m) 10 6 rfl rfl) ?_
   clear w1 w2
   repeat' (first|refine z0 ?_|apply ds_nil|apply dw_seq2|refine z16 ?_|apply dw_block|apply thenD_n)
   refine ds_loop (ι:=Nat) (fun i=>⟨0,[(2,.d (.slice 4 (xs.map encStp))),(10,.pd (chkD p l m)),(31,.d (.slice 4 (xs.map encStp))),(32,.d (.int .i64 xs.length)),(33,.d (.int .i64 i))],[]⟩)
    (fun i=>i≤xs.length∧stepsB p l m xs i=true) (fun i=>xs.length - i) 0 ⟨Nat.zero_le _,rfl⟩ (ent_ren id ⟨rfl,rfl,rfl,by rw [← lx];rfl,rfl,trivial⟩ trivial rfl rfl rfl rfl rfl rfl) ?_
   rintro i ⟨g1,g2⟩
   dsimp only at g1 g2 ⊢
   by_cases hi:i < xs.length
   ·have w3:=is_fn p l m (xs.take i) xs[i] hx
    have hs:=stepsB_succ p l m xs hi
    rw [g2,Bool.true_and] at hs
    have hpf:proofB p l m xs=stepsB p l m xs xs.length:=by unfold proofB;rw [decide_eq_true (by omega),Bool.true_and]
    cases hbb:stepB p l m (xs.take i) xs[i] with
    | true =>
     rw [hbb] at w3 hs
     repeat' (first|refine z0 ?_|apply ds_nil|refine z5 ?_|refine z10 ?_|apply dw_seq2|refine z16 ?_|refine z20 ?_|apply dw_block|apply dw_skip|apply dw_exit|apply dw_ret|refine z19 ?_|apply thenD_n|apply thenD_e|apply inB_n|refine z17 ?_|refine z22 ?_ (hc:=by apply w3)|refine z1 ?_|refine z3 ?_|(refine z23 ?_ ?_ <;> intro hg)|fail)
     all_goals try (exfalso;omega)
     exact⟨i + 1,⟨hi,hs⟩,ent_ren id ⟨rfl,rfl,rfl,rfl,rfl,trivial⟩ trivial rfl rfl rfl rfl rfl rfl,by omega⟩
    | false =>
     rw [hbb] at w3
     rw [hpf,stepsB_false p l m xs hi hbb]
     repeat' (first|refine z0 ?_|apply ds_nil|refine z5 ?_|refine z10 ?_|apply dw_seq2|refine z16 ?_|refine z20 ?_|apply dw_block|apply dw_skip|apply dw_exit|apply dw_ret|refine z18 ?_|apply thenD_n|apply thenD_e|apply thenD_r|apply inB_r|refine z17 ?_|refine z22 ?_ (hc:=by apply w3)|refine z1 ?_|refine z3 ?_|(refine z23 ?_ ?_ <;> intro hg)|fail)
     all_goals try (exfalso;omega)
     exact⟨.inl rfl,_,rfl,rfl,rfl⟩
   ·have hin:i=xs.length:=by omega
    rw [hin] at g2
    have hpf:proofB p l m xs=decide (((xs.map encStp).length:Int) > 0):=by
     unfold proofB
     rw [g2,Bool.and_true,lx]
     exact decide_eq_decide.2 (by omega)
    rw [hpf]
    repeat' (first|refine z0 ?_|apply ds_nil|refine z5 ?_|apply dw_seq2|refine z16 ?_|refine z20 ?_|apply dw_block|apply dw_skip|apply dw_exit|apply dw_ret|apply thenD_n|apply thenD_e|refine z17 ?_|refine z1 ?_|refine z3 ?_|(refine z23 ?_ ?_ <;> intro hg)|fail)
    all_goals try (exfalso;omega)
    exact⟨.inl rfl,_,rfl,rfl,rfl⟩
 ·have hw:whyE e xs=e:=if_neg (fun h=>he h.1)
  rw [hw,decide_eq_false he,Bool.false_and]
  repeat' (first|refine z0 ?_|apply ds_nil|refine z5 ?_|apply dw_seq2|refine z16 ?_|refine z20 ?_|apply dw_skip|apply dw_ret|apply thenD_n|apply thenD_r|refine z21 ?_ (hc:=by apply w1)|refine z1 ?_|(refine z23 ?_ ?_ <;> intro hg)|fail)
  all_goals try (exfalso;omega)
  exact⟨.inl rfl,_,rfl,rfl,rfl⟩
theorem heads_pred {r:Rul} {ws:List (List Int)} {f:Fct} (h:f∈headsD r ws):f.pred=r.pred:=by
 rw [headsD_eq] at h
 obtain⟨w,hw,h⟩:=List.mem_filterMap.1 h
 unfold headD at h
 split at h
 ·simp only [Option.some.injEq] at h
  rw [← h]
 ·split at h
  ·simp only [Option.some.injEq] at h
   rw [← h]
  ·cases h
theorem RuleM.mem {p:Prg} {m:List Fct} {r:Rul} (hM:RuleM p m r) (hS:Strict m) (a:List Int):a∈rawW m r↔a.length=r.vars.toNat∧∀ l∈r.body,holdE m l a=true:=by
 have hnd:m.Nodup:=hS.imp fun h he=>by subst he;exact lt_irrefl h
 obtain⟨_,_,p3⟩:=ways_perm hnd hM.s.ok.lit hM.s.bd
 have heq:rawW m r=waysL m r.vars.toNat r.body:=by unfold rawW;rw [if_pos hM.many]
 rw [heq,(waysL_perm _ _ _).mem_iff,p3]

def twiceB (xs:List Stp):Nat→Bool
 | 0=>false
 | n + 1=>twiceB xs n || (match xs[n]? with
  | some x=>hasS (xs.take n) x.fact
  | none=>false)
theorem twiceB_succ {xs:List Stp} {i:Nat} (hi:i < xs.length):twiceB xs (i + 1)=(twiceB xs i || hasS (xs.take i) xs[i].fact):=by
 rw [twiceB,List.getElem?_eq_getElem hi]
def aheadL (p:Prg) (h:Stp):List Fct:=match p.rules[h.rule.toNat]? with
 | some r=>if r.fold=0 then (r.body.filter kind1).map (yesF h.vars) else []
 | none=>[]
def proveG (p:Prg) (how:List Stp):Nat→List Stp→Fct→List Stp
 | 0,out,_=>out
 | n + 1,out,f=>if hasS out f then out else match how.find? (isSB f) with
  | some h=>(aheadL p h).foldl (proveG p how n) out++[⟨f,h.rule,h.vars⟩]
  | none=>out++[⟨f,-1,[]⟩]
set_option maxHeartbeats 8000000 in
theorem prove1_fn (f:Fct) (s:Stp):Fn 132 ([elStp s]++[.pd (encFct f)]) (fun r=>r = .d (.bool (isSB f s))):=by
 refine fnp_enter' _ Tryz.func132 rfl rfl (by kernel_rfl) ?_
 intro O w0 E0 β0
 have w1:=orderF_fn s.fact f
 repeat' (first|refine z0 ?_|apply ds_nil|apply dw_seq2|refine z16 ?_|apply dw_ret|apply thenD_n|refine z21 ?_ (hc:=by apply w1)|refine z1 ?_|fail)
 exact ret_b rfl rfl
set_option maxHeartbeats 8000000 in
theorem indexHow_fn {f:FuncId} {caps:List SV} (p:Stp→Bool) (l:List (Stp)) (hcap:SV.lowL 0 caps=true) (hp:∀ x∈l,Fn f (elStp x::caps) (fun r=>r = .d (.bool (p x)))):Fn 131 [.d (.slice 4 (l.map encStp)),.fn f caps] (fun r=>r = .d (.int .i64 (idxF p l))):=by
 refine fnp_enter' _ Tryz.func131 rfl rfl (by kernel_rfl) ?_
 intro O w0 E0 β0
 refine dw_len_map (t:=0) rfl fun hb=>?_
 repeat' (first|refine z0 ?_|apply ds_nil|apply dw_seq2|refine z16 ?_|apply dw_block|apply thenD_n)
 refine ds_loop (ι:=Nat) (fun i=>⟨0,[(0,.d (.slice 4 (l.map encStp))),(1,.fn f caps),(7,.d (.int .i64 l.length)),(8,.d (.int .i64 i))],[]⟩)
  (fun i=>i≤l.length∧∀ j (hj:j < l.length),j < i→p l[j]=false) (fun i=>l.length - i) 0 ⟨Nat.zero_le _,fun j _ h=>absurd h (Nat.not_lt_zero j)⟩
  (ent_ren id ⟨rfl,congrArg (SV.fn f) (SV.renL_id caps).symm,by simp;rfl,rfl,trivial⟩ trivial (by simp [Sl.low,SV.low,hcap]) rfl rfl rfl rfl rfl) ?_
 rintro i ⟨h1,h2⟩
 repeat' (first|refine z0 ?_|apply ds_nil|apply dw_seq2|refine z16 ?_|apply thenD_n)
 refine dw_condP rfl (fun h=>?_) (fun h=>?_)
 ·have hi:i < l.length:=by omega
  have hpx:=hp l[i] (List.getElem_mem hi)
  repeat' (first|refine z0 ?_|apply ds_nil|apply dw_seq2|refine z16 ?_|apply dw_block|apply dw_skip|apply thenD_n|(apply ds_callV;exact rfl;exact rfl;exact rfl;exact rfl;apply hpx;exact rfl;(assumption);exact rfl;rintro _ rfl))
  refine dw_cond rfl (fun hb=>?_) (fun hb=>?_)
  ·repeat' (first|refine z0 ?_|apply ds_nil|apply dw_seq2|refine z16 ?_|apply dw_ret|apply thenD_n|apply thenD_r|apply inB_r)
   exact ret_i rfl (idxF_hit h2 hi hb).symm
  ·repeat' (first|refine z0 ?_|apply ds_nil|refine z16 ?_|apply dw_skip|apply thenD_n|apply inB_n)
   exact⟨i + 1,⟨hi,none_step h2 hi hb⟩,ent_ren id ⟨rfl,congrArg (SV.fn f) (SV.renL_id caps).symm,rfl,rfl,trivial⟩ trivial (by simp [Sl.low,SV.low,hcap]) rfl rfl rfl rfl rfl,by omega⟩
 ·repeat' (first|refine z0 ?_|apply ds_nil|apply dw_seq2|refine z16 ?_|apply dw_exit|apply dw_ret|apply thenD_n|apply thenD_e|refine z17 ?_|fail)
  exact ret_i rfl (idxF_none fun j hj=>h2 j hj (by omega)).symm
abbrev prvH (p:Prg) (how out:List Stp):Hp :=
 [(0,.blk 127 [.d (.slice 1 (p.arity.map encI)),.d (.slice 1 (p.names.map encT)),.d (.slice 5 (p.rules.map encRul)),.d (.slice 4 (how.map encStp)),.row 1]),(1,.row 39 4 (out.map encStp))]
set_option maxHeartbeats 8000000 in
theorem proveMet_fn (p:Prg) (how out:List Stp) (f:Fct) (n:Nat) (hl:out.length≤1000) (hmet:hasS out f=true) :
  FnOk false Tryz.prog tab tab_ok 72 [.loc 0 0,elFct f] 1 2 (prvH p how out) (fun k2 r H2=>k2=2∧r = .tup []∧H2=prvH p how (proveG p how (n + 1) out f)):=by
 have hg:proveG p how (n + 1) out f=out:=by rw [proveG,if_pos hmet]
 rw [hg]
 refine fn_enterR _ Tryz.func72 rfl rfl (by kernel_rfl) ?_
 intro O w0 E0 β0
 have w1:=metR_fn out f (by omega)
 rw [hmet] at w1
 repeat' (first|apply ds_nil|refine z5 ?_|apply dw_seq2|refine z16 ?_|refine z20 ?_|apply thenD_n|refine z1 ?_|fail)
 refine dt_callR (fun j=>match j with|0=>1|j=>j) w1 (by rintro _ rfl;exact⟨rfl,rfl⟩) ⟨_,rfl⟩ rfl rfl rfl rfl ⟨rfl,trivial⟩ rfl rfl rfl rfl rfl rfl rfl rfl rfl ?_
 rintro _ rfl
 repeat' (first|refine z10 ?_|apply dw_ret|refine z18 ?_|apply thenD_n|apply thenD_r)
 exact⟨.inl rfl,_,rfl,id,2,_,prvH p how out,rfl,⟨rfl,rfl,trivial⟩,rfl,rfl,rfl,rfl,rfl,rfl,rfl,rfl,rfl⟩
set_option maxHeartbeats 8000000 in
theorem proveLeaf_fn (p:Prg) (how out:List Stp) (f:Fct) (n:Nat) (hl:out.length≤1000) (hf:f.args.length≤17592186044416) (hmet:hasS out f=false) (hno:how.find? (isSB f)=none) :
  FnOk false Tryz.prog tab tab_ok 72 [.loc 0 0,elFct f] 1 2 (prvH p how out) (fun k2 r H2=>k2=2∧r = .tup []∧H2=prvH p how (proveG p how (n + 1) out f)):=by
 have hg:proveG p how (n + 1) out f=out++[⟨f,-1,[]⟩]:=by rw [proveG,if_neg (by simp [hmet]),hno]
 rw [hg]
 refine fn_enterR _ Tryz.func72 rfl rfl (by kernel_rfl) ?_
 intro O w0 E0 β0
 have w1:=metR_fn out f (by omega)
 rw [hmet] at w1
 have w2:=own_fn f hf
 have lo:(out.map encStp).length=out.length:=List.length_map _
 have w3:=indexHow_fn (caps:=[.pd (encFct f)]) (isSB f) how rfl (fun s _=>prove1_fn f s)
 rw [show idxF (isSB f) how = -1 from idxF_none fun j hj=>by
  have:=List.find?_eq_none.1 hno _ (List.getElem_mem hj)
  simpa using this] at w3
 repeat' (first|apply ds_nil|refine z5 ?_|apply dw_seq2|refine z16 ?_|refine z20 ?_|apply thenD_n|refine z1 ?_|fail)
 refine dt_callR (fun j=>match j with|0=>1|j=>j) w1 (by rintro _ rfl;exact⟨rfl,rfl⟩) ⟨_,rfl⟩ rfl rfl rfl rfl ⟨rfl,trivial⟩ rfl rfl rfl rfl rfl rfl rfl rfl rfl ?_
 rintro _ rfl
 repeat' ((fail_if_success (apply dw_stopS 3));(first|refine z0 ?_|apply ds_nil|refine z10 ?_|apply dw_seq2|refine z16 ?_|apply dw_skip|refine z19 ?_|apply thenD_n|refine z21 ?_ (hc:=by apply w2)|refine z1 ?_|refine z3 ?_|fail))
 refine dw_ent (ent_freezeL (ds:=encFct f) 3 3 rfl rfl) ?_
 repeat' ((fail_if_success (apply dw_stopR 12));(first|refine z0 ?_|apply ds_nil|refine z5 ?_|refine z6 ?_|refine z9 ?_|refine z11 ?_|apply dw_seq2|refine z16 ?_|refine z20 ?_|apply dw_skip|refine z19 ?_|apply thenD_n|refine z21 ?_ (hc:=by apply w3)|fail))
 exact⟨.inr rfl,_,rfl,fun j=>match j with|1=>12|j=>j,2,_,prvH p how (out++[⟨f,-1,[]⟩]),rfl,⟨rfl,by dsimp only;rw [List.map_append];rfl,trivial⟩,rfl,rfl,rfl,rfl,rfl,rfl,rfl,rfl,rfl⟩
end Go.Proofs.YtapciiffpnociadGreat
