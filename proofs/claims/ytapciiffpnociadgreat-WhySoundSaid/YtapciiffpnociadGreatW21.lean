/- Several texts in one: WhK WhL WhM WhN WhO PrgIn WhIn. Condition: none. -/
import Derived.Test.YtapciiffpnociadGreatW20
import Derived.Test.YtapciiffpnociadGreatW09
import Derived.Test.YtapciiffpnociadGreatW10
namespace Go.Proofs.YtapciiffpnociadGreat
open Go Go.RowKit
attribute [local irreducible] DW DS DL DQ Ev FnOk FnP thenD inBlockD DT
abbrev prvQ (p:Prg) (how out:List Stp) (q:Nat):Hp :=
 [(0,.blk 127 [.d (.slice 1 (p.arity.map encI)),.d (.slice 1 (p.names.map encT)),.d (.slice 5 (p.rules.map encRul)),.d (.slice 4 (how.map encStp)),.row q]),(q,.row 39 4 (out.map encStp))]
abbrev stpH (p:Prg) (how:List Stp) (h:Stp) (f:Fct) (r:Rul) (out:List Stp) (q:Nat):Hp:=(3,.blk 64 [.d (.int .i64 r.pred),.d (.slice 2 (r.terms.map encTrm)),.d (.int .i64 r.fold),.d (.slice 4 (r.body.map encLtl)),.d (.int .i64 r.vars)])::(5,.blk 187 [.d (.int .i64 h.fact.pred),.d (.slice 1 (h.fact.args.map encI)),.d (.int .i64 h.rule),.d (.slice 1 (h.vars.map encI))])::(4,.blk 39 [.d (.int .i64 f.pred),.d (.slice 1 (f.args.map encI)),.d (.int .i64 h.rule),.d (.slice 1 (h.vars.map encI))])::(2,.blk 125 [.loc 0 0])::prvQ p how out q
set_option maxHeartbeats 8000000 in
theorem proveStep_fn (p:Prg) (how out:List Stp) (f:Fct) (h:Stp) (r:Rul) (n:Nat) (hl:out.length≤1000) (hf:f.args.length≤17592186044416) (hmet:hasS out f=false) (hfind:how.find? (isSB f)=some h) (h0:0≤h.rule) (h1:h.rule.toNat < p.rules.length) (hr:p.rules[h.rule.toNat]=r) (hv:h.vars.length≤1000) (hok:∀ x∈r.body,x.kind=1→(∀ t∈x.terms,okT h.vars.length t)∧x.terms.length≤1000000)
  (Inv:List Stp→Prop) (hI0:Inv out) (hIl:∀ o,Inv o→o.length≤1000) (IH:∀ o g,Inv o→g∈aheadL p h→Inv (proveG p how n o g)∧FnOk false Tryz.prog tab tab_ok 72 [.loc 0 0,elFct g] 1 2 (prvH p how o) (fun k2 r H2=>k2=2∧r = .tup []∧H2=prvH p how (proveG p how n o g))) :
  FnOk false Tryz.prog tab tab_ok 72 [.loc 0 0,elFct f] 1 2 (prvH p how out) (fun k2 r H2=>k2=2∧r = .tup []∧H2=prvH p how (proveG p how (n + 1) out f)):=by
 have hg:proveG p how (n + 1) out f=(aheadL p h).foldl (proveG p how n) out++[⟨f,h.rule,h.vars⟩]:=by rw [proveG,if_neg (by simp [hmet]),hfind]
 rw [hg]
 have hlt:how.findIdx (isSB f) < how.length:=by
  have hx:=List.find?_some hfind
  exact List.findIdx_lt_length_of_exists ⟨h,List.mem_of_find?_eq_some hfind,hx⟩
 have hget:how[how.findIdx (isSB f)]=h:=by
  have h2:=List.find?_eq_some_iff_getElem.1 hfind
  obtain⟨hx,i,hi,he,hno⟩:=h2
  have:how.findIdx (isSB f)=i:=(List.findIdx_eq hi).2 ⟨by rw [he];exact hx,fun j hj=>by have:=hno j hj;simpa using this⟩
  simp only [this,he]
 have hidx:idxF (isSB f) how=(how.findIdx (isSB f):Int):=by
  unfold idxF
  rw [List.findIdx?_eq_some_iff_findIdx_eq.2 ⟨hlt,rfl⟩]
 refine fn_enterR _ Tryz.func72 rfl rfl (by kernel_rfl) ?_
 intro O w0 E0 β0
 have w1:=metR_fn out f (by omega)
 rw [hmet] at w1
 have w2:=own_fn f hf
 have lo:(out.map encStp).length=out.length:=List.length_map _
 have lh:(how.map encStp).length=how.length:=List.length_map _
 have lr:(p.rules.map encRul).length=p.rules.length:=List.length_map _
 have w3:=indexHow_fn (caps:=[.pd (encFct f)]) (isSB f) how rfl (fun s _=>prove1_fn f s)
 rw [hidx] at w3
 generalize how.findIdx (isSB f)=ix at *
 have w4:=cloneI_fn h.vars (by omega)
 repeat' (first|apply ds_nil|refine z5 ?_|apply dw_seq2|refine z16 ?_|refine z20 ?_|apply thenD_n|refine z1 ?_|fail)
 refine dt_callR (fun j=>match j with|0=>1|j=>j) w1 (by rintro _ rfl;exact⟨rfl,rfl⟩) ⟨_,rfl⟩ rfl rfl rfl rfl ⟨rfl,trivial⟩ rfl rfl rfl rfl rfl rfl rfl rfl rfl ?_
 rintro _ rfl
 repeat' ((fail_if_success (apply dw_stopS 3));(first|refine z0 ?_|apply ds_nil|refine z10 ?_|apply dw_seq2|refine z16 ?_|apply dw_skip|refine z19 ?_|apply thenD_n|refine z21 ?_ (hc:=by apply w2)|refine z1 ?_|refine z3 ?_|fail))
 refine dw_ent (ent_freezeL (ds:=encFct f) 3 3 rfl rfl) ?_
 repeat' ((fail_if_success (apply dw_stopS 6));(first|refine z0 ?_|apply ds_nil|apply dw_seq2|refine z16 ?_|refine z18 ?_|apply thenD_n|refine z21 ?_ (hc:=by apply w3)|refine z1 ?_|refine z3 ?_|fail))
 all_goals try (exfalso;omega)
 rw [hget]
 refine dw_ent (ent_ren (k':=6) (L':=[(2,.loc 2 0),(4,.loc 4 0),(6,.loc 5 0)]) (H':=(5,.blk 187 [.d (.int .i64 h.fact.pred),.d (.slice 1 (h.fact.args.map encI)),.d (.int .i64 h.rule),.d (.slice 1 (h.vars.map encI))])::(4,.blk 39 [.d (.int .i64 f.pred),.d (.slice 1 (f.args.map encI)),.d (.int .i64 (-1)),.nils])::(2,.blk 125 [.loc 0 0])::prvH p how out) id ⟨rfl,rfl,rfl,trivial⟩ ⟨rfl,rfl,rfl,rfl,rfl,trivial⟩ rfl rfl rfl rfl rfl rfl) ?_
 clear w1 w2 w3
 repeat' ((fail_if_success (apply dw_stopS 8));(first|refine z5 ?_|refine z6 ?_|refine z7 ?_|refine z10 ?_|refine z11 ?_|apply dw_seq2|refine z20 ?_|apply thenD_n|refine z22 ?_ (hc:=by apply w4)|fail))
 all_goals try (exfalso;omega)
 have hah:aheadL p h=if r.fold=0 then (r.body.filter kind1).map (yesF h.vars) else []:=by unfold aheadL;rw [List.getElem?_eq_getElem h1,hr]
 rw [hr]
 refine dw_ent (ent_ren (k':=6) (L':=[(2,.loc 2 0),(4,.loc 4 0),(6,.loc 5 0),(7,.loc 3 0)]) (H':=stpH p how h f r out 1) (fun j=>match j with|3=>15|j=>j) ⟨rfl,rfl,rfl,rfl,trivial⟩ ⟨rfl,rfl,rfl,rfl,rfl,rfl,trivial⟩ rfl rfl rfl rfl rfl rfl) ?_
 by_cases hfo:r.fold=0
 ·rw [if_pos hfo] at hah
  have w5:=yes_fn r h.vars
  repeat' (first|refine z0 ?_|apply ds_nil|refine z5 ?_|refine z6 ?_|refine z9 ?_|refine z11 ?_|apply dw_seq2|refine z16 ?_|refine z20 ?_|apply dw_block|apply dw_skip|apply thenD_n|refine z21 ?_ (hc:=by apply w5)|(refine z23 ?_ ?_ <;> intro hg)|fail)
  all_goals try (exfalso;omega)
  clear w4 w5
  obtain⟨gs,hgs⟩:∃ gs,gs=aheadL p h:=⟨_,rfl⟩
  rw [← hgs]
  rw [← hgs] at hah IH
  have hyl:(yesX r h.vars).length=gs.length:=by rw [hah];unfold yesX;simp
  refine dw_range (yesX r h.vars) rfl rfl (yes1_seq r h.vars hok) (yesX_each r h.vars) (by simp) [(2,.loc 2 0),(4,.loc 4 0)] ⟨rfl,rfl,trivial⟩ rfl
   (ι:=Bool × List Stp) (fun _ x=>match x.1 with|false=>(6,stpH p how h f r x.2 1)|true=>(7,stpH p how h f r x.2 6)) (fun j x=>Inv x.2∧x.2=(gs.take j).foldl (proveG p how n) out) (false,out) ⟨hI0,rfl⟩ rfl ?_ ?_
  ·rintro j hj ⟨b,o⟩ ⟨e1,e2⟩ O1 w1 E1 β1 l1
   dsimp only at e1 e2
   have hj':j < gs.length:=by omega
   have hxj:(yesX r h.vars)[j]=[elFct gs[j]]:=by simp [yesX,hah]
   rw [hxj]
   obtain⟨i1,i2⟩:=IH o gs[j] e1 (List.getElem_mem hj')
   have hst1:proveG p how n o gs[j]=(gs.take (j + 1)).foldl (proveG p how n) out:=by rw [List.take_succ_eq_append_getElem hj',List.foldl_append,← e2];rfl
   cases b with
   | false =>
    change DW _ _ _ _ ((56,elFct gs[j])::_) _
    dsimp only
    repeat' (first|apply ds_nil|refine z16 ?_|refine z1 ?_|refine z3 ?_|fail)
    refine⟨rfl,fun O2 w2 E2 β2=>?_⟩
    repeat' (first|refine z0 ?_|refine z16 ?_|apply dw_block)
    (refine ds_callF id (i2) rfl rfl rfl rfl ⟨rfl,rfl,trivial⟩ rfl rfl rfl rfl rfl rfl ?_ ?_)
    ·rintro k2 res H2 ⟨rfl,rfl,rfl⟩;exact⟨rfl,rfl⟩
    rintro k2 res H2 ⟨rfl,rfl,rfl⟩
    change DS _ _ _ _ _ _ _ _
    repeat' (first|apply ds_nil|apply inB_n)
    exact⟨(true,_),⟨i1,hst1⟩,ent_ren (fun j=>match j with|6=>8|j=>j) trivial ⟨rfl,rfl,rfl,rfl,rfl,rfl,trivial⟩ rfl rfl rfl rfl rfl rfl⟩
   | true =>
    change DW _ _ _ _ ((56,elFct gs[j])::_) _
    dsimp only
    repeat' (first|apply ds_nil|refine z16 ?_|refine z1 ?_|refine z3 ?_|fail)
    refine⟨rfl,fun O2 w2 E2 β2=>?_⟩
    repeat' (first|refine z0 ?_|refine z16 ?_|apply dw_block)
    refine ds_callF (fun j=>match j with|1=>6|j=>j) i2 rfl rfl rfl rfl ⟨rfl,rfl,trivial⟩ rfl rfl rfl rfl rfl rfl ?_ ?_
    ·rintro k2 res H2 ⟨rfl,rfl,rfl⟩;exact⟨rfl,rfl⟩
    rintro k2 res H2 ⟨rfl,rfl,rfl⟩
    change DS _ _ _ _ _ _ _ _
    repeat' (first|apply ds_nil|apply inB_n)
    exact⟨(true,_),⟨i1,hst1⟩,ent_ren (fun j=>match j with|6=>9|j=>j) trivial ⟨rfl,rfl,rfl,rfl,rfl,rfl,trivial⟩ rfl rfl rfl rfl rfl rfl⟩
  ·rintro⟨b,o⟩ ⟨e1,e2⟩
   dsimp only at e1 e2
   rw [hyl,List.take_of_length_le (Nat.le_refl _)] at e2
   rw [← e2]
   have lo2:(o.map encStp).length=o.length:=List.length_map _
   have hol:=hIl o e1
   cases b with
   | false =>
    dsimp only
    repeat' (first|refine z5 ?_|refine z6 ?_|refine z9 ?_|refine z11 ?_|refine z20 ?_|apply thenD_n|apply inB_n)
    all_goals try (exfalso;omega)
    exact⟨.inr rfl,_,rfl,fun j=>match j with|1=>13|j=>j,2,_,prvH p how (o++[⟨f,h.rule,h.vars⟩]),rfl,⟨rfl,by dsimp only;rw [List.map_append];rfl,trivial⟩,rfl,rfl,rfl,rfl,rfl,rfl,rfl,rfl,rfl⟩
   | true =>
    dsimp only
    repeat' (first|refine z5 ?_|refine z6 ?_|refine z9 ?_|refine z11 ?_|refine z20 ?_|apply thenD_n|apply inB_n)
    all_goals try (exfalso;omega)
    exact⟨.inr rfl,_,rfl,fun j=>match j with|1=>14|j=>j,2,_,prvH p how (o++[⟨f,h.rule,h.vars⟩]),rfl,⟨rfl,by dsimp only;rw [List.map_append];rfl,trivial⟩,rfl,rfl,rfl,rfl,rfl,rfl,rfl,rfl,rfl⟩
 ·rw [if_neg hfo] at hah
  rw [hah,List.foldl_nil]
  repeat' (first|refine z0 ?_|apply ds_nil|refine z5 ?_|refine z6 ?_|refine z9 ?_|refine z11 ?_|apply dw_seq2|refine z16 ?_|refine z20 ?_|apply dw_skip|apply thenD_n|(refine z23 ?_ ?_ <;> intro hg)|fail)
  all_goals try (exfalso;omega)
  exact⟨.inr rfl,_,rfl,fun j=>match j with|1=>13|j=>j,2,_,prvH p how (out++[⟨f,h.rule,h.vars⟩]),rfl,⟨rfl,by dsimp only;rw [List.map_append];rfl,trivial⟩,rfl,rfl,rfl,rfl,rfl,rfl,rfl,rfl,rfl⟩
theorem isSB_iff {f:Fct} {s:Stp}:isSB f s=true↔s.fact=f:=by
 unfold isSB
 rw [decide_eq_true_iff]
 exact⟨fun h=>ordF_eq0 h,fun h=>by rw [h];exact ordF_self f⟩
theorem hasS_iff {l:List Stp} {f:Fct}:hasS l f=true↔∃ s∈l,s.fact=f:=by
 unfold hasS
 rw [List.any_eq_true]
 exact⟨fun⟨s,h1,h2⟩=>⟨s,h1,isSB_iff.1 h2⟩,fun⟨s,h1,h2⟩=>⟨s,h1,isSB_iff.2 h2⟩⟩
theorem hasS_no {l:List Stp} {f:Fct} (h:hasS l f=false):∀ s∈l,s.fact≠f:=fun s hs he=>by
 rw [hasS_iff.2 ⟨s,hs,he⟩] at h
 cases h
def rkF (how:List Stp) (f:Fct):Nat:=match how.findIdx? (isSB f) with
 | some i=>i + 1
 | none=>0
theorem rkF_take {how:List Stp} {g:Stp} {i:Nat} (h:g∈how.take i):rkF how g.fact≤i:=by
 obtain⟨j,hj,he⟩:=List.getElem_of_mem h
 have hj2:j < i∧j < how.length:=by rw [List.length_take] at hj;omega
 rw [List.getElem_take] at he
 unfold rkF
 cases hk:how.findIdx? (isSB g.fact) with
 | none=>exact Nat.zero_le _
 | some k =>
  obtain⟨h1,h2,h3⟩:=List.findIdx?_eq_some_iff_getElem.1 hk
  dsimp only
  apply Classical.byContradiction
  intro hc
  exact h3 j (by omega) (isSB_iff.2 (by rw [he]))
theorem rkF_new {how:List Stp} {f:Fct} (h:∀ g∈how,g.fact≠f):rkF how f=0:=by
 unfold rkF
 rw [List.findIdx?_eq_none_iff.2 fun x hx=>Bool.eq_false_iff.2 fun hc=>h x hx (isSB_iff.1 hc)]
theorem rkF_some {how:List Stp} {f:Fct} {h:Stp} (hf:how.find? (isSB f)=some h):∃ i,how[i]? = some h∧rkF how f=i + 1∧h.fact=f:=by
 obtain⟨h1,i,hi,he,hno⟩:=List.find?_eq_some_iff_getElem.1 hf
 refine⟨i,by rw [List.getElem?_eq_getElem hi,he],?_,isSB_iff.1 h1⟩
 unfold rkF
 rw [List.findIdx?_eq_some_iff_getElem.2 ⟨hi,by rw [he];exact h1,fun j hj hc=>by have:=hno j hj;rw [hc] at this;cases this⟩]
structure PInv (p:Prg) (l m:List Fct) (o:List Stp):Prop where
 nodup:(o.map (·.fact)).Nodup
 mem:∀ s∈o,s.fact∈m
 right:stepsB p l m o o.length=true
theorem stepsB_more {p:Prg} {l m:List Fct} {o:List Stp} {s:Stp} (h:stepsB p l m o o.length=true) (hs:stepB p l m o s=true):stepsB p l m (o++[s]) (o++[s]).length=true:=by
 have hlt:o.length < (o++[s]).length:=by rw [List.length_append];exact Nat.lt_succ_self _
 have hle:(o++[s]).length=o.length + 1:=by rw [List.length_append];rfl
 rw [hle,stepsB_succ p l m _ hlt,Bool.and_eq_true]
 refine⟨?_,?_⟩
 ·unfold stepsB at h ⊢
  rw [List.all_eq_true] at h ⊢
  intro i hi
  have hi2:=List.mem_range.1 hi
  have:=h i hi
  unfold stepAt at this ⊢
  rw [List.getElem?_append_left hi2,List.take_append_of_le_length (Nat.le_of_lt hi2)]
  exact this
 ·rw [List.take_left,List.getElem_append_right (Nat.le_refl _)]
  simpa using hs
theorem PInv.more {p:Prg} {l m:List Fct} {o:List Stp} {s:Stp} (h:PInv p l m o) (hm:s.fact∈m) (hn:∀ x∈o,x.fact≠s.fact) (hs:stepB p l m o s=true):PInv p l m (o++[s]):=by
 refine⟨?_,fun x hx=>?_,stepsB_more h.right hs⟩
 ·rw [List.map_append]
  refine List.nodup_append.2 ⟨h.nodup,by simp,fun x hx y hy he=>?_⟩
  rw [List.map_singleton,List.mem_singleton] at hy
  obtain⟨g,hg,rfl⟩:=List.mem_map.1 hx
  exact hn g hg (he.trans hy)
 ·rcases List.mem_append.1 hx with hx|hx
  ·exact h.mem x hx
  ·rw [List.mem_singleton] at hx
   rw [hx];exact hm
theorem PInv.len {p:Prg} {l m:List Fct} {o:List Stp} (h:PInv p l m o):o.length≤m.length:=by
 have h1:(o.map (·.fact)).length≤m.length:=h.nodup.length_le_of_subset fun x hx=>by
  obtain⟨g,hg,rfl⟩:=List.mem_map.1 hx
  exact h.mem g hg
 rwa [List.length_map] at h1
theorem ahead_ok {p:Prg} {lv:List Int} {n:Int} {l m:List Fct} {how:List Stp} (hk:HwOk l m how) (hm:HwM p lv n l how m) {h:Stp} {i:Nat} (hi:how[i]? = some h) {g:Fct} (hg:g∈aheadL p h):g∈m∧rkF how g < i + 1:=by
 have hs:=hm i h hi
 unfold aheadL at hg
 rw [List.getElem?_eq_getElem hs.hi] at hg
 dsimp only at hg
 split at hg
 ·rename_i h0
  obtain⟨z,hz,rfl⟩:=List.mem_map.1 hg
  obtain⟨hz1,hz2⟩:=List.mem_filter.1 hz
  rcases hs.ahead h0 z hz1 (of_decide_eq_true hz2) with h1|⟨g',h1,h2⟩
  ·refine⟨(hk.all _).2 (.inl h1),?_⟩
   rw [show yesF h.vars z=(⟨z.pred,z.terms.map (vA h.vars)⟩:Fct) from rfl,rkF_new fun x hx he=>hk.new x hx (by rw [he];exact h1)]
   omega
  ·have h3:=rkF_take h1
   rw [h2] at h3
   exact⟨(hk.all _).2 (.inr ⟨g',List.mem_of_mem_take h1,h2⟩),Nat.lt_succ_of_le h3⟩
 ·cases hg
theorem step_right {p:Prg} {lv:List Int} {n:Int} {l m:List Fct} {how:List Stp} (hx:ModelR p l 0 m) (hm:HwM p lv n l how m) {h:Stp} {i:Nat} (hi:how[i]? = some h) {o:List Stp} (ho:∀ g∈aheadL p h,hasS o g=true):stepB p l m o ⟨h.fact,h.rule,h.vars⟩=true:=by
 have hs:=hm i h hi
 have hM:=hx.rule (List.getElem_mem hs.hi)
 have hah:aheadL p h=if (p.rules[h.rule.toNat]'hs.hi).fold=0 then ((p.rules[h.rule.toNat]'hs.hi).body.filter kind1).map (yesF h.vars) else []:=by unfold aheadL;rw [List.getElem?_eq_getElem hs.hi]
 have hlo:=hs.lo
 unfold stepB
 rw [if_neg (by dsimp only;omega),dif_pos ⟨hs.lo,hs.hi⟩]
 dsimp only
 have hway:=hs.way
 have hhead:=hs.head
 have his:=hs.is
 generalize p.rules[h.rule.toNat]'hs.hi=r at hM hah hway hhead his ⊢
 unfold ruleStepB
 rw [List.any_eq_true.2 ⟨h.vars,hway,decide_eq_true rfl⟩,Bool.true_and]
 have hin:=((setF_spec _).2 _).1 hhead
 unfold isW at his
 have his:=of_decide_eq_true his
 split
 ·rename_i h0
  rw [if_pos h0] at hah
  have hw:=head_way hin fun h1=>absurd h0 h1
  unfold kW at his
  rw [if_pos h0,List.take_of_length_le (by rw [aW_len];exact Nat.le_refl _),List.take_of_length_le (by rw [hw.1];exact Nat.le_refl _)] at his
  have heq:(⟨r.pred,aW r h.vars⟩:Fct)=h.fact:=by rw [his,← heads_pred hin]
  rw [Bool.and_eq_true]
  refine⟨?_,?_⟩
  ·dsimp only
   rw [heq]
   exact decide_eq_true (ordF_self _)
  ·rw [List.all_eq_true]
   intro z hz
   exact ho _ (by rw [hah];exact List.mem_map.2 ⟨z,hz,rfl⟩)
 ·rename_i h0
  unfold kW at his
  rw [if_neg h0] at his
  rw [Bool.and_eq_true]
  exact⟨hasF_iff.2 hhead,decide_eq_true his.symm⟩
theorem fold_inv {p:Prg} {l m:List Fct} {how:List Stp} {N K:Nat} (hKN:K≤N)
  (IH:∀ o f,rkF how f < N→f∈m→PInv p l m o→PInv p l m (proveG p how N o f)∧hasS (proveG p how N o f) f=true∧∃ t,proveG p how N o f=o++t∧∀ s∈t,s.fact=f∨rkF how s.fact < rkF how f) :
  ∀ (gs:List Fct) (o:List Stp),(∀ g∈gs,g∈m∧rkF how g < K)→PInv p l m o→PInv p l m (gs.foldl (proveG p how N) o)∧(∀ g∈gs,hasS (gs.foldl (proveG p how N) o) g=true)∧∃ t,gs.foldl (proveG p how N) o=o++t∧∀ s∈t,rkF how s.fact < K
 | [],o,_,h=>⟨h,fun _ hg=>by simp at hg,[],by simp,fun _ hs=>by simp at hs⟩
 | g::gs,o,hg,h=>by
  have g1:=hg g (List.mem_cons_self ..)
  obtain⟨a1,a2,t1,a3,a4⟩:=IH o g (Nat.lt_of_lt_of_le g1.2 hKN) g1.1 h
  obtain⟨b1,b2,t2,b3,b4⟩:=fold_inv hKN IH gs _ (fun x hx=>hg x (List.mem_cons_of_mem _ hx)) a1
  refine⟨b1,fun x hx=>?_,t1++t2,by rw [List.foldl_cons,b3,a3,List.append_assoc],fun s hs=>?_⟩
  ·rcases List.mem_cons.1 hx with rfl|hx
   ·obtain⟨s,hs,he⟩:=hasS_iff.1 a2
    rw [List.foldl_cons,b3]
    exact hasS_iff.2 ⟨s,List.mem_append_left _ hs,he⟩
   ·exact b2 x hx
  ·rcases List.mem_append.1 hs with hs|hs
   ·rcases a4 s hs with he|he
    ·rw [he];exact g1.2
    ·exact Nat.lt_trans he g1.2
   ·exact b4 s hs
theorem prove_inv {p:Prg} {lv:List Int} {n:Int} {l m:List Fct} {how:List Stp} (hx:ModelR p l 0 m) (hk:HwOk l m how) (hm:HwM p lv n l how m) :
  ∀ (N:Nat) (o:List Stp) (f:Fct),rkF how f < N→f∈m→PInv p l m o→PInv p l m (proveG p how N o f)∧hasS (proveG p how N o f) f=true∧∃ t,proveG p how N o f=o++t∧∀ s∈t,s.fact=f∨rkF how s.fact < rkF how f
 | 0,_,_,h,_,_=>absurd h (Nat.not_lt_zero _)
 | N + 1,o,f,h,hf,hI=>by
  cases hmet:hasS o f with
  | true =>
   have hg:proveG p how (N + 1) o f=o:=by rw [proveG,if_pos hmet]
   rw [hg]
   exact⟨hI,hmet,[],by simp,fun _ hs=>by simp at hs⟩
  | false =>
   have hno:=hasS_no hmet
   cases hfind:how.find? (isSB f) with
   | none =>
    have hg:proveG p how (N + 1) o f=o++[⟨f,-1,[]⟩]:=by rw [proveG,if_neg (by simp [hmet]),hfind]
    rw [hg]
    have hgiv:f∈l:=by
     rcases (hk.all f).1 hf with h1|⟨s,h1,h2⟩
     ·exact h1
     ·have:=List.find?_eq_none.1 hfind s h1
      exact absurd (isSB_iff.2 h2) this
    refine⟨hI.more hf hno ?_,hasS_iff.2 ⟨_,List.mem_append_right _ (List.mem_singleton.2 rfl),rfl⟩,_,rfl,fun s hs=>.inl ?_⟩
    ·unfold stepB
     rw [if_pos rfl,Bool.and_eq_true]
     exact⟨hasF_iff.2 hgiv,rfl⟩
    ·rw [List.mem_singleton.1 hs]
   | some s =>
    have hg:proveG p how (N + 1) o f=(aheadL p s).foldl (proveG p how N) o++[⟨f,s.rule,s.vars⟩]:=by rw [proveG,if_neg (by simp [hmet]),hfind]
    obtain⟨i,hi,hr,hsf⟩:=rkF_some hfind
    obtain⟨b1,b2,t,b3,b4⟩:=fold_inv (K:=i + 1) (by omega) (prove_inv hx hk hm N) (aheadL p s) o (fun g hg=>ahead_ok hk hm hi hg) hI
    rw [hg]
    have hst:=step_right hx hm hi b2
    rw [hsf] at hst
    refine⟨b1.more hf (fun x hx he=>?_) hst,hasS_iff.2 ⟨_,List.mem_append_right _ (List.mem_singleton.2 rfl),rfl⟩,t++[⟨f,s.rule,s.vars⟩],by rw [b3,List.append_assoc],fun x hx=>?_⟩
    ·rw [b3] at hx
     rcases List.mem_append.1 hx with hx|hx
     ·exact hno x hx he
     ·have:=b4 x hx
      rw [he] at this
      dsimp only at this
      omega
    ·rcases List.mem_append.1 hx with hx|hx
     ·right;rw [hr];exact b4 x hx
     ·left;rw [List.mem_singleton.1 hx]
theorem prove_last {p:Prg} {how:List Stp} {N:Nat} {o:List Stp} {f:Fct} (h:hasS o f=false):∃ t s,proveG p how (N + 1) o f=t++[s]∧s.fact=f:=by
 rw [proveG,if_neg (by simp [h])]
 split
 ·exact⟨_,_,rfl,rfl⟩
 ·exact⟨_,_,rfl,rfl⟩
theorem prove_fn {p:Prg} {lv:List Int} {n:Int} {l m:List Fct} {how:List Stp} (hx:ModelR p l 0 m) (hk:HwOk l m how) (hm:HwM p lv n l how m) :
  ∀ (N:Nat) (o:List Stp) (f:Fct),rkF how f < N→f∈m→PInv p l m o →
   FnOk false Tryz.prog tab tab_ok 72 [.loc 0 0,elFct f] 1 2 (prvH p how o) (fun k2 r H2=>k2=2∧r = .tup []∧H2=prvH p how (proveG p how N o f))
 | 0,_,_,h,_,_=>absurd h (Nat.not_lt_zero _)
 | N + 1,o,f,h,hf,hI=>by
  obtain⟨s1,s2,s3⟩:=hx.strict
  have ho:=hI.len
  have hfl:=fct_len (mOk hx.ok0).pr (s3 f hf)
  cases hmet:hasS o f with
  | true=>exact proveMet_fn p how o f N (by omega) hmet
  | false =>
   cases hfind:how.find? (isSB f) with
   | none=>exact proveLeaf_fn p how o f N (by omega) (by omega) hmet hfind
   | some s =>
    obtain⟨i,hi,hr,hsf⟩:=rkF_some hfind
    have hs:=hm i s hi
    have hM:=hx.rule (List.getElem_mem hs.hi)
    have hvl:=hM.ok.len _ hs.way
    have hv8:=hM.ok.rul.vars
    refine proveStep_fn p how o f s _ N (by omega) (by omega) hmet hfind hs.lo hs.hi rfl (by omega) (fun x hx _=>?_) (PInv p l m) hI (fun o h=>by have:=h.len;omega) fun o g hI hg=>?_
    ·have h:=(hM.s.ok.lit x hx).terms
     rw [← hvl] at h
     exact⟨h,by have:=hM.s.ok.tlen x hx;omega⟩
    ·obtain⟨q1,q2⟩:=ahead_ok hk hm hi hg
     exact⟨(prove_inv hx hk hm N o g (by omega) q1 hI).1,prove_fn hx hk hm N o g (by omega) q1 hI⟩
def prvE (p:Prg) (f:Fct) (e:Int):Int:=if e=0 then factE p.arity f else e
def prvB (p:Prg) (m:List Fct) (f:Fct) (e:Int):Bool:=decide (prvE p f e=0) && hasF m f
structure PrvOk (p:Prg) (l m:List Fct) (f:Fct) (xs:List Stp):Prop where
 inv:PInv p l m xs
 last:∃ t s,xs=t++[s]∧s.fact=f
theorem rkF_le (how:List Stp) (f:Fct):rkF how f≤how.length:=by
 unfold rkF
 cases hk:how.findIdx? (isSB f) with
 | none=>exact Nat.zero_le _
 | some i=>exact (List.findIdx?_eq_some_iff_getElem.1 hk).1
set_option maxHeartbeats 8000000 in
theorem wprove_fn (p:Prg) (l:List Fct) (f:Fct) (e:Int) (m:List Fct) (hx:ModelR p l e m) :
  Fn 24 [elPrg p,.d (.slice 2 (l.map encFct)),elFct f] (fun r=>∃ xs:List Stp,r = .tup [.d (.slice 4 (xs.map encStp)),.d (.bool (prvB p m f e)),.d (.int .i64 (prvE p f e))]∧(prvB p m f e=true→PrvOk p l m f xs)∧(prvB p m f e=false→xs=[])):=by
 refine fnp_enter' _ Tryz.func24 rfl rfl (by kernel_rfl) ?_
 intro O w0 E0 β0
 have w1:=mall_fn p l
 repeat' (first|refine z0 ?_|apply ds_nil|apply dw_seq2|refine z16 ?_|apply thenD_n|refine z1 ?_|fail)
 apply ds_call;exact rfl;exact rfl;exact w1;exact rfl;exact rfl;exact rfl
 rintro _ ⟨m',how,e',rfl,q1,q2⟩
 obtain⟨he,hm⟩:=q1.unique hx
 subst he hm
 clear w1
 by_cases h0:e' = 0
 ·subst h0
  have hE:prvE p f 0=factE p.arity f:=if_pos rfl
  have hB:prvB p m' f 0=(decide (factE p.arity f=0) && hasF m' f):=by unfold prvB;rw [hE]
  rw [hE,hB]
  have w2:=fright_fn p f
  by_cases hf:factE p.arity f=0
  ·rw [hf,decide_eq_true rfl,Bool.true_and]
   rw [hf] at w2
   obtain⟨s1,s2,s3⟩:=hx.strict
   have w3:=in_fn m' f (by omega) s1
   cases hb:hasF m' f with
   | true =>
    rw [hb] at w3
    repeat' ((fail_if_success (apply dw_stopS 9));(first|refine z0 ?_|apply ds_nil|apply dw_seq2|refine z16 ?_|apply dw_skip|refine z18 ?_|refine z19 ?_|apply thenD_n|refine z21 ?_ (hc:=by apply w2)|refine z21 ?_ (hc:=by apply w3)|refine z1 ?_|fail))
    all_goals try (exfalso;omega)
    obtain⟨q3,q4⟩:=q2 rfl
    have hmem:=hasF_iff.1 hb
    have hN:rkF how f < how.length + 1 + 1:=by have:=rkF_le how f;omega
    have hI:PInv p l m' []:=⟨by simp,by simp,rfl⟩
    have w4:=prove_fn hx q3 q4 (how.length + 1 + 1) [] f hN hmem hI
    obtain⟨r1,-,t,r2,-⟩:=prove_inv hx q3 q4 (how.length + 1 + 1) [] f hN hmem hI
    have r3:=prove_last (p:=p) (how:=how) (N:=how.length + 1) (o:=[]) (f:=f) rfl
    generalize proveG p how (how.length + 1 + 1) [] f=xs at *
    refine dw_ent (ent_ren (k':=2) (L':=[(12,.loc 0 0),(5,.loc 1 0)]) (H':=[(0,.blk 127 [.d (.slice 1 (p.arity.map encI)),.d (.slice 1 (p.names.map encT)),.d (.slice 5 (p.rules.map encRul)),.d (.slice 4 (how.map encStp)),.nils]),(1,.blk 37 [.d (.int .i64 f.pred),.d (.slice 1 (f.args.map encI))])])
     (fun j=>match j with|0=>2|j=>j) ⟨rfl,rfl,trivial⟩ ⟨rfl,rfl,trivial⟩ rfl rfl rfl rfl rfl rfl) ?_
    refine dw_ent (ent_cellrow 0 4 39 4 rfl rfl rfl) ?_
    repeat' (first|refine z0 ?_|apply dw_seq2|refine z16 ?_|fail)
    refine ds_callF (fun j=>match j with|1=>2|j=>j) w4 rfl rfl rfl rfl ⟨rfl,rfl,trivial⟩ rfl rfl rfl rfl rfl rfl ?_ ?_
    ·rintro k2 res H2 ⟨rfl,rfl,rfl⟩;exact⟨rfl,rfl⟩
    rintro k2 res H2 ⟨rfl,rfl,rfl⟩
    change DS _ _ _ _ _ _ _ _
    repeat' ((fail_if_success (apply dw_stopS 10));(first|apply ds_nil|apply thenD_n))
    refine dw_ent (ent_cellseal 0 4 4 rfl rfl rfl rfl rfl) ?_
    repeat' (first|refine z0 ?_|apply ds_nil|apply dw_seq2|refine z16 ?_|apply dw_ret|apply thenD_n)
    exact⟨.inl rfl,_,rfl,rfl,xs,rfl,fun _=>⟨r1,r3⟩,fun h=>(by cases h)⟩
   | false =>
    rw [hb] at w3
    repeat' (first|refine z0 ?_|apply ds_nil|apply dw_seq2|refine z16 ?_|apply dw_skip|refine z18 ?_|refine z19 ?_|apply thenD_n|refine z21 ?_ (hc:=by apply w2)|refine z21 ?_ (hc:=by apply w3)|fail)
    all_goals try (exfalso;omega)
    refine dw_ent (ent_nild 6 4 rfl) ?_
    repeat' (first|apply dw_ret|apply thenD_r)
    exact⟨.inl rfl,_,rfl,rfl,[],rfl,fun h=>(by cases h),fun _=>rfl⟩
  ·rw [decide_eq_false hf,Bool.false_and]
   generalize factE p.arity f=ee at *
   repeat' (first|refine z0 ?_|apply ds_nil|apply dw_seq2|refine z16 ?_|apply dw_skip|refine z18 ?_|apply thenD_n|refine z21 ?_ (hc:=by apply w2)|(refine z23 ?_ ?_ <;> intro hg)|fail)
   all_goals try (exfalso;omega)
   refine dw_ent (ent_nild 6 4 rfl) ?_
   repeat' (first|apply dw_ret|apply thenD_r)
   exact⟨.inl rfl,_,rfl,rfl,[],rfl,fun h=>(by cases h),fun _=>rfl⟩
 ·have hE:prvE p f e' = e':=if_neg h0
  have hB:prvB p m' f e' = false:=by unfold prvB;rw [hE,decide_eq_false h0,Bool.false_and]
  rw [hE,hB]
  repeat' (first|refine z0 ?_|apply ds_nil|apply dw_seq2|refine z16 ?_|apply dw_skip|apply thenD_n|(refine z23 ?_ ?_ <;> intro hg)|fail)
  all_goals try (exfalso;omega)
  refine dw_ent (ent_nild 6 4 rfl) ?_
  repeat' (first|apply dw_ret|apply thenD_r)
  exact⟨.inl rfl,_,rfl,rfl,[],rfl,fun h=>(by cases h),fun _=>rfl⟩
theorem PInv.proof {p:Prg} {l m:List Fct} {xs:List Stp} (h:PInv p l m xs) (h0:0 < xs.length):proofB p l m xs=true:=by
 unfold proofB
 rw [decide_eq_true h0,Bool.true_and]
 exact h.right
theorem PInv.once {p:Prg} {l m:List Fct} {xs:List Stp} (h:PInv p l m xs):∀ n,n≤xs.length→twiceB xs n=false
 | 0,_=>rfl
 | n + 1,hn=>by
  have hlt:n < xs.length:=hn
  rw [twiceB_succ hlt,PInv.once h n (by omega),Bool.false_or]
  cases hb:hasS (xs.take n) xs[n].fact with
  | false=>rfl
  | true =>
   obtain⟨s,hs,he⟩:=hasS_iff.1 hb
   obtain⟨j,hj,hjs⟩:=List.getElem_of_mem hs
   have hj2:j < n:=by rw [List.length_take] at hj;omega
   rw [List.getElem_take] at hjs
   have hnd:=h.nodup
   have hne:=List.pairwise_iff_getElem.1 hnd j n (by rw [List.length_map];omega) (by rw [List.length_map];exact hlt) hj2
   rw [List.getElem_map,List.getElem_map,hjs] at hne
   exact absurd he hne
theorem last_is {xs t:List Stp} {s:Stp} (h:xs=t++[s]):∃ hl:(((xs.map encStp).length:Int) - 1).toNat < xs.length,xs[(((xs.map encStp).length:Int) - 1).toNat]'hl=s:=by
 have hn:(((xs.map encStp).length:Int) - 1).toNat=t.length:=by rw [List.length_map,h,List.length_append];simp
 have hs:xs[(((xs.map encStp).length:Int) - 1).toNat]? = some s:=by rw [hn,h];simp
 exact List.getElem?_eq_some_iff.1 hs
set_option maxHeartbeats 8000000 in
theorem whyBegun_fn:Fn 7 [] (fun r=>r = .d (.bool true)):=by
 refine fnp_enter' _ Tryz.func7 rfl rfl (by kernel_rfl) ?_
 intro O w0 E0 β0
 have h1:=lsmall_fn
 have h2:=lpairs_fn
 have h3:=rfact_fn 1 [1,3]
 have h3':=rfact_fn 1 [3,1]
 have h4:=wprove_fn smallP pairsF ⟨1,[1,3]⟩ 0 fullF small_model
 have h5:=wprove_fn smallP pairsF ⟨1,[3,1]⟩ 0 fullF small_model
 rw [show prvB smallP fullF ⟨1,[1,3]⟩ 0=true by kernel_rfl,show prvE smallP ⟨1,[1,3]⟩ 0=0 by kernel_rfl] at h4
 rw [show prvB smallP fullF ⟨1,[3,1]⟩ 0=false by kernel_rfl,show prvE smallP ⟨1,[3,1]⟩ 0=0 by kernel_rfl] at h5
 repeat' (first|refine z0 ?_|apply ds_nil|apply dw_seq2|refine z16 ?_|apply thenD_n|refine z21 ?_ (hc:=by apply h1)|refine z21 ?_ (hc:=by apply h2)|refine z21 ?_ (hc:=by apply h3)|refine z4 ?_|fail)
 apply ds_call;exact rfl;exact rfl;exact h4;exact rfl;exact rfl;exact rfl
 rintro _ ⟨xs,rfl,q1,-⟩
 obtain⟨q1,t,s,q2,q3⟩:=q1 rfl
 repeat' (first|refine z0 ?_|apply ds_nil|apply dw_seq2|refine z16 ?_|apply thenD_n|refine z21 ?_ (hc:=by apply h1)|refine z21 ?_ (hc:=by apply h2)|refine z21 ?_ (hc:=by apply h3')|refine z4 ?_|fail)
 apply ds_call;exact rfl;exact rfl;exact h5;exact rfl;exact rfl;exact rfl
 rintro _ ⟨ys,rfl,-,q4⟩
 obtain rfl:=q4 rfl
 have hpos:0 < xs.length:=by rw [q2];simp
 have h60:xs.length≤5:=q1.len
 have h6:=wcheck_fn smallP pairsF xs 0 fullF small_model
 rw [show whyE 0 xs=0 from if_neg (by omega),q1.proof hpos,show (decide ((0:Int)=0) && true)=true from rfl] at h6
 have lx:(xs.map encStp).length=xs.length:=List.length_map _
 obtain⟨hl,hlast⟩:=last_is q2
 have h8:=sameFacts_fn [(xs[(((xs.map encStp).length:Int) - 1).toNat]'hl).fact] [⟨1,[1,3]⟩]
 rw [show sameL Fct.same [(xs[(((xs.map encStp).length:Int) - 1).toNat]'hl).fact] [⟨1,[1,3]⟩]=true by rw [hlast,q3];kernel_rfl] at h8
 repeat' (first|refine z0 ?_|apply ds_nil|refine z5 ?_|refine z14 ?_|refine z10 ?_|apply dw_seq2|refine z16 ?_|refine z20 ?_|apply dw_ret|apply thenD_n|refine z21 ?_ (hc:=by apply h1)|refine z21 ?_ (hc:=by apply h2)|refine z22 ?_ (hc:=by apply h3)|refine z21 ?_ (hc:=by apply h6)|refine z22 ?_ (hc:=by apply h8)|((fail_if_success (apply dt_known;exact rfl));apply dt_guardP;exact rfl;exact rfl;exact rfl;all_goals intro hg))
 all_goals try (exfalso;omega)
 exact⟨.inl rfl,_,rfl,rfl,rfl⟩
theorem step_mem {p:Prg} {l m:List Fct} (hx:ModelR p l 0 m) {ahead:List Stp} {x:Stp} (h:stepB p l m ahead x=true):x.fact∈m:=by
 have hc:=model_closed (mOk hx.ok0) (ModelR.run hx.ok0 hx)
 have key:x.fact∈l∨(∃ r∈p.rules,x.fact∈hdW m r)→x.fact∈m:=fun hk=>by
  rw [← hc,(setF_spec _).2,List.mem_append]
  exact hk.imp id fun⟨r,h1,h2⟩=>List.mem_flatMap.2 ⟨r,h1,h2⟩
 unfold stepB at h
 split at h
 ·rw [Bool.and_eq_true] at h
  exact key (.inl (hasF_iff.1 h.1))
 ·split at h
  ·rename_i hr
   refine key (.inr ⟨_,List.getElem_mem hr.2,?_⟩)
   generalize p.rules[x.rule.toNat]'hr.2=r at h
   unfold ruleStepB at h
   rw [Bool.and_eq_true] at h
   obtain⟨h1,h2⟩:=h
   split at h2
   ·rename_i h0
    rw [Bool.and_eq_true] at h2
    have he:=ordF_eq0 (of_decide_eq_true h2.1)
    rw [← he]
    unfold hdW
    rw [(setF_spec _).2]
    unfold headsD
    rw [if_pos h0]
    exact List.mem_map.2 ⟨x.vars,any_mem h1,rfl⟩
   ·rw [Bool.and_eq_true] at h2
    exact hasF_iff.1 h2.1
  ·cases h
theorem proof_mem {p:Prg} {l m:List Fct} (hx:ModelR p l 0 m) {xs:List Stp} (h:proofB p l m xs=true) {i:Nat} (hi:i < xs.length):hasF m xs[i].fact=true:=by
 unfold proofB stepsB at h
 rw [Bool.and_eq_true,List.all_eq_true] at h
 have:=h.2 i (List.mem_range.2 hi)
 unfold stepAt at this
 rw [List.getElem?_eq_getElem hi] at this
 exact hasF_iff.2 (step_mem hx this)
set_option maxHeartbeats 8000000 in
theorem whySound_fn (p:Prg) (l:List Fct) (xs:List Stp) :
  Fn 3 [elPrg p,.d (.slice 2 (l.map encFct)),.d (.slice 4 (xs.map encStp))] (fun r=>r = .d (.bool true)):=by
 refine fnp_enter' _ Tryz.func3 rfl rfl (by kernel_rfl) ?_
 intro O w0 E0 β0
 obtain⟨e,m,hx⟩:=ModelR.total p l
 have h1:=whyBegun_fn
 have h2:=modelBegun_fn
 have h3:=wcheck_fn p l xs e m hx
 have h4:=model_fn p l e m hx
 have lx:(xs.map encStp).length=xs.length:=List.length_map _
 refine dw_len_map (t:=2) rfl fun hb=>?_
 by_cases he:e=0
 ·subst he
  cases hbp:decide (whyE 0 xs=0) && proofB p l m xs with
  | false =>
   rw [hbp] at h3
   generalize whyE 0 xs=ew at *
   repeat' (first|(apply ds_slD;exact rfl;exact rfl;exact rfl;exact rfl;exact rfl;exact rfl;(refine⟨?_,?_,?_⟩ <;> (first|omega|(simp only [List.length_map];omega)));(first|((with_reducible apply hv_take);(first|exact nat_add_2 _|exact nat_sub_1 _|exact nat_add_1 _|exact nat_lit_0|exact nat_lit_1|exact rfl|exact (Int.toNat_of_nonneg (by omega)).symm))|((with_reducible apply hv_drop);(first|exact nat_add_2 _|exact nat_sub_1 _|exact nat_add_1 _|exact nat_lit_0|exact nat_lit_1|exact rfl|exact (Int.toNat_of_nonneg (by omega)).symm))|exact rfl);exact rfl;exact rfl)|refine z0 ?_|refine z12 ?_|refine z13 ?_|apply ds_nil|(apply ds_ixR;exact rfl;exact rfl;exact rfl;(first|exact nat_add_2 _|exact nat_sub_1 _|exact nat_add_1 _|exact nat_lit_0|exact nat_lit_1|exact rfl|exact (Int.toNat_of_nonneg (by omega)).symm);(first|(with_reducible exact trivial)|(with_reducible exact u8_range _)|(with_reducible exact sat_range _ _)|omega|(with_reducible assumption)|(with_reducible exact bytesOk_one)|(constructor <;> omega)|(simp only [List.length_map];omega)|(unfold maxLen at *;omega)|(simp <;> omega)|(unfold maxLen;simp <;> omega));exact rfl;exact rfl;exact rfl;exact rfl;exact rfl)|(apply ds_ldP;exact rfl;exact rfl;(apply hv_get;(first|(with_reducible exact trivial)|(with_reducible exact u8_range _)|(with_reducible exact sat_range _ _)|omega|(with_reducible assumption)|(with_reducible exact bytesOk_one)|(constructor <;> omega)|(simp only [List.length_map];omega)|(unfold maxLen at *;omega)|(simp <;> omega)|(unfold maxLen;simp <;> omega)));exact rfl;exact rfl;exact rfl)|(apply ds_stP;exact rfl;exact rfl;(apply hv_get;(first|(with_reducible exact trivial)|(with_reducible exact u8_range _)|(with_reducible exact sat_range _ _)|omega|(with_reducible assumption)|(with_reducible exact bytesOk_one)|(constructor <;> omega)|(simp only [List.length_map];omega)|(unfold maxLen at *;omega)|(simp <;> omega)|(unfold maxLen;simp <;> omega)));exact rfl;exact rfl;(first|exact hv_set rfl|exact rfl);exact rfl;exact rfl;exact rfl;exact rfl;exact rfl;exact rfl)|refine z5 ?_|refine z14 ?_|refine z15 ?_|refine z6 ?_|refine z7 ?_|refine z8 ?_|refine z9 ?_|refine z10 ?_|refine z11 ?_|apply dw_seq2|refine z16 ?_|refine z20 ?_|apply dw_block|apply dw_skip|apply dw_exit|apply dw_ret|refine z18 ?_|refine z19 ?_|apply thenD_n|apply thenD_e|apply thenD_r|apply inB_n|apply inB_r|refine z17 ?_|(apply inB_x;exact rfl)|refine z21 ?_ (hc:=by apply h1)|refine z22 ?_ (hc:=by apply h1)|refine z21 ?_ (hc:=by apply h2)|refine z22 ?_ (hc:=by apply h2)|refine z21 ?_ (hc:=by apply h3)|refine z22 ?_ (hc:=by apply h3)|refine z21 ?_ (hc:=by apply h4)|refine z22 ?_ (hc:=by apply h4)|refine z1 ?_|refine z3 ?_|refine z4 ?_|refine z2 ?_|(refine z23 ?_ ?_ <;> intro hg)|(apply dw_cond;exact rfl;all_goals intro hg)|((fail_if_success (apply ds_known;exact rfl));apply ds_guardP;exact rfl;exact rfl;exact rfl;all_goals intro hg)|((fail_if_success (apply ds_known;exact rfl));apply ds_guardB;exact rfl;exact rfl;exact rfl;all_goals intro hg)|((fail_if_success (apply dt_known;exact rfl));apply dt_guardP;exact rfl;exact rfl;exact rfl;all_goals intro hg)|((fail_if_success (apply dt_known;exact rfl));apply dt_guard;exact rfl;exact rfl;exact rfl;all_goals intro hg))
   all_goals try (exfalso;omega)
   refine ds_loop (ι:=Unit) (fun _=>⟨0,[(7,.d (.bool false)),(11,.d (.int .i64 0)),(2,.d (.slice 4 (xs.map encStp)))],[]⟩) (fun _=>True) (fun _=>0) () trivial (ent_ren id ⟨rfl,rfl,rfl,trivial⟩ trivial rfl rfl rfl rfl rfl rfl) ?_
   rintro⟨⟩ -
   dsimp only
   repeat' (first|(apply ds_slD;exact rfl;exact rfl;exact rfl;exact rfl;exact rfl;exact rfl;(refine⟨?_,?_,?_⟩ <;> (first|omega|(simp only [List.length_map];omega)));(first|((with_reducible apply hv_take);(first|exact nat_add_2 _|exact nat_sub_1 _|exact nat_add_1 _|exact nat_lit_0|exact nat_lit_1|exact rfl|exact (Int.toNat_of_nonneg (by omega)).symm))|((with_reducible apply hv_drop);(first|exact nat_add_2 _|exact nat_sub_1 _|exact nat_add_1 _|exact nat_lit_0|exact nat_lit_1|exact rfl|exact (Int.toNat_of_nonneg (by omega)).symm))|exact rfl);exact rfl;exact rfl)|refine z0 ?_|refine z12 ?_|refine z13 ?_|apply ds_nil|(apply ds_ixR;exact rfl;exact rfl;exact rfl;(first|exact nat_add_2 _|exact nat_sub_1 _|exact nat_add_1 _|exact nat_lit_0|exact nat_lit_1|exact rfl|exact (Int.toNat_of_nonneg (by omega)).symm);(first|(with_reducible exact trivial)|(with_reducible exact u8_range _)|(with_reducible exact sat_range _ _)|omega|(with_reducible assumption)|(with_reducible exact bytesOk_one)|(constructor <;> omega)|(simp only [List.length_map];omega)|(unfold maxLen at *;omega)|(simp <;> omega)|(unfold maxLen;simp <;> omega));exact rfl;exact rfl;exact rfl;exact rfl;exact rfl)|(apply ds_ldP;exact rfl;exact rfl;(apply hv_get;(first|(with_reducible exact trivial)|(with_reducible exact u8_range _)|(with_reducible exact sat_range _ _)|omega|(with_reducible assumption)|(with_reducible exact bytesOk_one)|(constructor <;> omega)|(simp only [List.length_map];omega)|(unfold maxLen at *;omega)|(simp <;> omega)|(unfold maxLen;simp <;> omega)));exact rfl;exact rfl;exact rfl)|(apply ds_stP;exact rfl;exact rfl;(apply hv_get;(first|(with_reducible exact trivial)|(with_reducible exact u8_range _)|(with_reducible exact sat_range _ _)|omega|(with_reducible assumption)|(with_reducible exact bytesOk_one)|(constructor <;> omega)|(simp only [List.length_map];omega)|(unfold maxLen at *;omega)|(simp <;> omega)|(unfold maxLen;simp <;> omega)));exact rfl;exact rfl;(first|exact hv_set rfl|exact rfl);exact rfl;exact rfl;exact rfl;exact rfl;exact rfl;exact rfl)|refine z5 ?_|refine z14 ?_|refine z15 ?_|refine z6 ?_|refine z7 ?_|refine z8 ?_|refine z9 ?_|refine z10 ?_|refine z11 ?_|apply dw_seq2|refine z16 ?_|refine z20 ?_|apply dw_block|apply dw_skip|apply dw_exit|apply dw_ret|refine z18 ?_|refine z19 ?_|apply thenD_n|apply thenD_e|apply thenD_r|apply inB_n|apply inB_r|refine z17 ?_|(apply inB_x;exact rfl)|refine z1 ?_|refine z3 ?_|refine z4 ?_|refine z2 ?_|(refine z23 ?_ ?_ <;> intro hg)|(apply dw_cond;exact rfl;all_goals intro hg)|((fail_if_success (apply ds_known;exact rfl));apply ds_guardP;exact rfl;exact rfl;exact rfl;all_goals intro hg)|((fail_if_success (apply ds_known;exact rfl));apply ds_guardB;exact rfl;exact rfl;exact rfl;all_goals intro hg)|((fail_if_success (apply dt_known;exact rfl));apply dt_guardP;exact rfl;exact rfl;exact rfl;all_goals intro hg)|((fail_if_success (apply dt_known;exact rfl));apply dt_guard;exact rfl;exact rfl;exact rfl;all_goals intro hg))
   all_goals try (exfalso;omega)
   all_goals exact⟨.inl rfl,_,rfl,rfl,rfl⟩
  | true =>
   rw [hbp] at h3
   rw [Bool.and_eq_true] at hbp
   obtain⟨-,hpf⟩:=hbp
   generalize whyE 0 xs=ew at *
   repeat' (first|(apply ds_slD;exact rfl;exact rfl;exact rfl;exact rfl;exact rfl;exact rfl;(refine⟨?_,?_,?_⟩ <;> (first|omega|(simp only [List.length_map];omega)));(first|((with_reducible apply hv_take);(first|exact nat_add_2 _|exact nat_sub_1 _|exact nat_add_1 _|exact nat_lit_0|exact nat_lit_1|exact rfl|exact (Int.toNat_of_nonneg (by omega)).symm))|((with_reducible apply hv_drop);(first|exact nat_add_2 _|exact nat_sub_1 _|exact nat_add_1 _|exact nat_lit_0|exact nat_lit_1|exact rfl|exact (Int.toNat_of_nonneg (by omega)).symm))|exact rfl);exact rfl;exact rfl)|refine z0 ?_|refine z12 ?_|refine z13 ?_|apply ds_nil|(apply ds_ixR;exact rfl;exact rfl;exact rfl;(first|exact nat_add_2 _|exact nat_sub_1 _|exact nat_add_1 _|exact nat_lit_0|exact nat_lit_1|exact rfl|exact (Int.toNat_of_nonneg (by omega)).symm);(first|(with_reducible exact trivial)|(with_reducible exact u8_range _)|(with_reducible exact sat_range _ _)|omega|(with_reducible assumption)|(with_reducible exact bytesOk_one)|(constructor <;> omega)|(simp only [List.length_map];omega)|(unfold maxLen at *;omega)|(simp <;> omega)|(unfold maxLen;simp <;> omega));exact rfl;exact rfl;exact rfl;exact rfl;exact rfl)|(apply ds_ldP;exact rfl;exact rfl;(apply hv_get;(first|(with_reducible exact trivial)|(with_reducible exact u8_range _)|(with_reducible exact sat_range _ _)|omega|(with_reducible assumption)|(with_reducible exact bytesOk_one)|(constructor <;> omega)|(simp only [List.length_map];omega)|(unfold maxLen at *;omega)|(simp <;> omega)|(unfold maxLen;simp <;> omega)));exact rfl;exact rfl;exact rfl)|(apply ds_stP;exact rfl;exact rfl;(apply hv_get;(first|(with_reducible exact trivial)|(with_reducible exact u8_range _)|(with_reducible exact sat_range _ _)|omega|(with_reducible assumption)|(with_reducible exact bytesOk_one)|(constructor <;> omega)|(simp only [List.length_map];omega)|(unfold maxLen at *;omega)|(simp <;> omega)|(unfold maxLen;simp <;> omega)));exact rfl;exact rfl;(first|exact hv_set rfl|exact rfl);exact rfl;exact rfl;exact rfl;exact rfl;exact rfl;exact rfl)|refine z5 ?_|refine z14 ?_|refine z15 ?_|refine z6 ?_|refine z7 ?_|refine z8 ?_|refine z9 ?_|refine z10 ?_|refine z11 ?_|apply dw_seq2|refine z16 ?_|refine z20 ?_|apply dw_block|apply dw_skip|apply dw_exit|apply dw_ret|refine z18 ?_|refine z19 ?_|apply thenD_n|apply thenD_e|apply thenD_r|apply inB_n|apply inB_r|refine z17 ?_|(apply inB_x;exact rfl)|refine z21 ?_ (hc:=by apply h1)|refine z22 ?_ (hc:=by apply h1)|refine z21 ?_ (hc:=by apply h2)|refine z22 ?_ (hc:=by apply h2)|refine z21 ?_ (hc:=by apply h3)|refine z22 ?_ (hc:=by apply h3)|refine z21 ?_ (hc:=by apply h4)|refine z22 ?_ (hc:=by apply h4)|refine z1 ?_|refine z3 ?_|refine z4 ?_|refine z2 ?_|(refine z23 ?_ ?_ <;> intro hg)|(apply dw_cond;exact rfl;all_goals intro hg)|((fail_if_success (apply ds_known;exact rfl));apply ds_guardP;exact rfl;exact rfl;exact rfl;all_goals intro hg)|((fail_if_success (apply ds_known;exact rfl));apply ds_guardB;exact rfl;exact rfl;exact rfl;all_goals intro hg)|((fail_if_success (apply dt_known;exact rfl));apply dt_guardP;exact rfl;exact rfl;exact rfl;all_goals intro hg)|((fail_if_success (apply dt_known;exact rfl));apply dt_guard;exact rfl;exact rfl;exact rfl;all_goals intro hg))
   all_goals try (exfalso;omega)
   refine ds_loop (ι:=Nat) (fun i=>⟨0,[(7,.d (.bool true)),(9,.d (.slice 2 (m.map encFct))),(11,.d (.int .i64 i)),(2,.d (.slice 4 (xs.map encStp)))],[]⟩) (fun i=>i≤xs.length) (fun i=>xs.length - i) 0 (Nat.zero_le _) (ent_ren id ⟨rfl,rfl,rfl,rfl,trivial⟩ trivial rfl rfl rfl rfl rfl rfl) ?_
   intro i g1
   dsimp only at g1 ⊢
   by_cases hi:i < xs.length
   ·have h5:=hasFact_fn m xs[i].fact
    rw [proof_mem hx hpf hi] at h5
    repeat' (first|(apply ds_slD;exact rfl;exact rfl;exact rfl;exact rfl;exact rfl;exact rfl;(refine⟨?_,?_,?_⟩ <;> (first|omega|(simp only [List.length_map];omega)));(first|((with_reducible apply hv_take);(first|exact nat_add_2 _|exact nat_sub_1 _|exact nat_add_1 _|exact nat_lit_0|exact nat_lit_1|exact rfl|exact (Int.toNat_of_nonneg (by omega)).symm))|((with_reducible apply hv_drop);(first|exact nat_add_2 _|exact nat_sub_1 _|exact nat_add_1 _|exact nat_lit_0|exact nat_lit_1|exact rfl|exact (Int.toNat_of_nonneg (by omega)).symm))|exact rfl);exact rfl;exact rfl)|refine z0 ?_|refine z12 ?_|refine z13 ?_|apply ds_nil|(apply ds_ixR;exact rfl;exact rfl;exact rfl;(first|exact nat_add_2 _|exact nat_sub_1 _|exact nat_add_1 _|exact nat_lit_0|exact nat_lit_1|exact rfl|exact (Int.toNat_of_nonneg (by omega)).symm);(first|(with_reducible exact trivial)|(with_reducible exact u8_range _)|(with_reducible exact sat_range _ _)|omega|(with_reducible assumption)|(with_reducible exact bytesOk_one)|(constructor <;> omega)|(simp only [List.length_map];omega)|(unfold maxLen at *;omega)|(simp <;> omega)|(unfold maxLen;simp <;> omega));exact rfl;exact rfl;exact rfl;exact rfl;exact rfl)|(apply ds_ldP;exact rfl;exact rfl;(apply hv_get;(first|(with_reducible exact trivial)|(with_reducible exact u8_range _)|(with_reducible exact sat_range _ _)|omega|(with_reducible assumption)|(with_reducible exact bytesOk_one)|(constructor <;> omega)|(simp only [List.length_map];omega)|(unfold maxLen at *;omega)|(simp <;> omega)|(unfold maxLen;simp <;> omega)));exact rfl;exact rfl;exact rfl)|(apply ds_stP;exact rfl;exact rfl;(apply hv_get;(first|(with_reducible exact trivial)|(with_reducible exact u8_range _)|(with_reducible exact sat_range _ _)|omega|(with_reducible assumption)|(with_reducible exact bytesOk_one)|(constructor <;> omega)|(simp only [List.length_map];omega)|(unfold maxLen at *;omega)|(simp <;> omega)|(unfold maxLen;simp <;> omega)));exact rfl;exact rfl;(first|exact hv_set rfl|exact rfl);exact rfl;exact rfl;exact rfl;exact rfl;exact rfl;exact rfl)|refine z5 ?_|refine z14 ?_|refine z15 ?_|refine z6 ?_|refine z7 ?_|refine z8 ?_|refine z9 ?_|refine z10 ?_|refine z11 ?_|apply dw_seq2|refine z16 ?_|refine z20 ?_|apply dw_block|apply dw_skip|apply dw_exit|apply dw_ret|refine z18 ?_|refine z19 ?_|apply thenD_n|apply thenD_e|apply thenD_r|apply inB_n|apply inB_r|refine z17 ?_|(apply inB_x;exact rfl)|refine z21 ?_ (hc:=by apply h5)|refine z22 ?_ (hc:=by apply h5)|refine z1 ?_|refine z3 ?_|refine z4 ?_|refine z2 ?_|(refine z23 ?_ ?_ <;> intro hg)|(apply dw_cond;exact rfl;all_goals intro hg)|((fail_if_success (apply ds_known;exact rfl));apply ds_guardP;exact rfl;exact rfl;exact rfl;all_goals intro hg)|((fail_if_success (apply ds_known;exact rfl));apply ds_guardB;exact rfl;exact rfl;exact rfl;all_goals intro hg)|((fail_if_success (apply dt_known;exact rfl));apply dt_guardP;exact rfl;exact rfl;exact rfl;all_goals intro hg)|((fail_if_success (apply dt_known;exact rfl));apply dt_guard;exact rfl;exact rfl;exact rfl;all_goals intro hg))
    all_goals try (exfalso;omega)
    exact⟨i + 1,hi,ent_ren id ⟨rfl,rfl,rfl,rfl,trivial⟩ trivial rfl rfl rfl rfl rfl rfl,by omega⟩
   ·repeat' (first|(apply ds_slD;exact rfl;exact rfl;exact rfl;exact rfl;exact rfl;exact rfl;(refine⟨?_,?_,?_⟩ <;> (first|omega|(simp only [List.length_map];omega)));(first|((with_reducible apply hv_take);(first|exact nat_add_2 _|exact nat_sub_1 _|exact nat_add_1 _|exact nat_lit_0|exact nat_lit_1|exact rfl|exact (Int.toNat_of_nonneg (by omega)).symm))|((with_reducible apply hv_drop);(first|exact nat_add_2 _|exact nat_sub_1 _|exact nat_add_1 _|exact nat_lit_0|exact nat_lit_1|exact rfl|exact (Int.toNat_of_nonneg (by omega)).symm))|exact rfl);exact rfl;exact rfl)|refine z0 ?_|refine z12 ?_|refine z13 ?_|apply ds_nil|(apply ds_ixR;exact rfl;exact rfl;exact rfl;(first|exact nat_add_2 _|exact nat_sub_1 _|exact nat_add_1 _|exact nat_lit_0|exact nat_lit_1|exact rfl|exact (Int.toNat_of_nonneg (by omega)).symm);(first|(with_reducible exact trivial)|(with_reducible exact u8_range _)|(with_reducible exact sat_range _ _)|omega|(with_reducible assumption)|(with_reducible exact bytesOk_one)|(constructor <;> omega)|(simp only [List.length_map];omega)|(unfold maxLen at *;omega)|(simp <;> omega)|(unfold maxLen;simp <;> omega));exact rfl;exact rfl;exact rfl;exact rfl;exact rfl)|(apply ds_ldP;exact rfl;exact rfl;(apply hv_get;(first|(with_reducible exact trivial)|(with_reducible exact u8_range _)|(with_reducible exact sat_range _ _)|omega|(with_reducible assumption)|(with_reducible exact bytesOk_one)|(constructor <;> omega)|(simp only [List.length_map];omega)|(unfold maxLen at *;omega)|(simp <;> omega)|(unfold maxLen;simp <;> omega)));exact rfl;exact rfl;exact rfl)|(apply ds_stP;exact rfl;exact rfl;(apply hv_get;(first|(with_reducible exact trivial)|(with_reducible exact u8_range _)|(with_reducible exact sat_range _ _)|omega|(with_reducible assumption)|(with_reducible exact bytesOk_one)|(constructor <;> omega)|(simp only [List.length_map];omega)|(unfold maxLen at *;omega)|(simp <;> omega)|(unfold maxLen;simp <;> omega)));exact rfl;exact rfl;(first|exact hv_set rfl|exact rfl);exact rfl;exact rfl;exact rfl;exact rfl;exact rfl;exact rfl)|refine z5 ?_|refine z14 ?_|refine z15 ?_|refine z6 ?_|refine z7 ?_|refine z8 ?_|refine z9 ?_|refine z10 ?_|refine z11 ?_|apply dw_seq2|refine z16 ?_|refine z20 ?_|apply dw_block|apply dw_skip|apply dw_exit|apply dw_ret|refine z18 ?_|refine z19 ?_|apply thenD_n|apply thenD_e|apply thenD_r|apply inB_n|apply inB_r|refine z17 ?_|(apply inB_x;exact rfl)|refine z1 ?_|refine z3 ?_|refine z4 ?_|refine z2 ?_|(refine z23 ?_ ?_ <;> intro hg)|(apply dw_cond;exact rfl;all_goals intro hg)|((fail_if_success (apply ds_known;exact rfl));apply ds_guardP;exact rfl;exact rfl;exact rfl;all_goals intro hg)|((fail_if_success (apply ds_known;exact rfl));apply ds_guardB;exact rfl;exact rfl;exact rfl;all_goals intro hg)|((fail_if_success (apply dt_known;exact rfl));apply dt_guardP;exact rfl;exact rfl;exact rfl;all_goals intro hg)|((fail_if_success (apply dt_known;exact rfl));apply dt_guard;exact rfl;exact rfl;exact rfl;all_goals intro hg))
    all_goals try (exfalso;omega)
    all_goals exact⟨.inl rfl,_,rfl,rfl,rfl⟩
 ·have hw:whyE e xs=e:=if_neg (fun h=>he h.1)
  rw [hw,decide_eq_false he,Bool.false_and] at h3
  repeat' (first|(apply ds_slD;exact rfl;exact rfl;exact rfl;exact rfl;exact rfl;exact rfl;(refine⟨?_,?_,?_⟩ <;> (first|omega|(simp only [List.length_map];omega)));(first|((with_reducible apply hv_take);(first|exact nat_add_2 _|exact nat_sub_1 _|exact nat_add_1 _|exact nat_lit_0|exact nat_lit_1|exact rfl|exact (Int.toNat_of_nonneg (by omega)).symm))|((with_reducible apply hv_drop);(first|exact nat_add_2 _|exact nat_sub_1 _|exact nat_add_1 _|exact nat_lit_0|exact nat_lit_1|exact rfl|exact (Int.toNat_of_nonneg (by omega)).symm))|exact rfl);exact rfl;exact rfl)|refine z0 ?_|refine z12 ?_|refine z13 ?_|apply ds_nil|(apply ds_ixR;exact rfl;exact rfl;exact rfl;(first|exact nat_add_2 _|exact nat_sub_1 _|exact nat_add_1 _|exact nat_lit_0|exact nat_lit_1|exact rfl|exact (Int.toNat_of_nonneg (by omega)).symm);(first|(with_reducible exact trivial)|(with_reducible exact u8_range _)|(with_reducible exact sat_range _ _)|omega|(with_reducible assumption)|(with_reducible exact bytesOk_one)|(constructor <;> omega)|(simp only [List.length_map];omega)|(unfold maxLen at *;omega)|(simp <;> omega)|(unfold maxLen;simp <;> omega));exact rfl;exact rfl;exact rfl;exact rfl;exact rfl)|(apply ds_ldP;exact rfl;exact rfl;(apply hv_get;(first|(with_reducible exact trivial)|(with_reducible exact u8_range _)|(with_reducible exact sat_range _ _)|omega|(with_reducible assumption)|(with_reducible exact bytesOk_one)|(constructor <;> omega)|(simp only [List.length_map];omega)|(unfold maxLen at *;omega)|(simp <;> omega)|(unfold maxLen;simp <;> omega)));exact rfl;exact rfl;exact rfl)|(apply ds_stP;exact rfl;exact rfl;(apply hv_get;(first|(with_reducible exact trivial)|(with_reducible exact u8_range _)|(with_reducible exact sat_range _ _)|omega|(with_reducible assumption)|(with_reducible exact bytesOk_one)|(constructor <;> omega)|(simp only [List.length_map];omega)|(unfold maxLen at *;omega)|(simp <;> omega)|(unfold maxLen;simp <;> omega)));exact rfl;exact rfl;(first|exact hv_set rfl|exact rfl);exact rfl;exact rfl;exact rfl;exact rfl;exact rfl;exact rfl)|refine z5 ?_|refine z14 ?_|refine z15 ?_|refine z6 ?_|refine z7 ?_|refine z8 ?_|refine z9 ?_|refine z10 ?_|refine z11 ?_|apply dw_seq2|refine z16 ?_|refine z20 ?_|apply dw_block|apply dw_skip|apply dw_exit|apply dw_ret|refine z18 ?_|refine z19 ?_|apply thenD_n|apply thenD_e|apply thenD_r|apply inB_n|apply inB_r|refine z17 ?_|(apply inB_x;exact rfl)|refine z21 ?_ (hc:=by apply h1)|refine z22 ?_ (hc:=by apply h1)|refine z21 ?_ (hc:=by apply h2)|refine z22 ?_ (hc:=by apply h2)|refine z21 ?_ (hc:=by apply h3)|refine z22 ?_ (hc:=by apply h3)|refine z21 ?_ (hc:=by apply h4)|refine z22 ?_ (hc:=by apply h4)|refine z1 ?_|refine z3 ?_|refine z4 ?_|refine z2 ?_|(refine z23 ?_ ?_ <;> intro hg)|(apply dw_cond;exact rfl;all_goals intro hg)|((fail_if_success (apply ds_known;exact rfl));apply ds_guardP;exact rfl;exact rfl;exact rfl;all_goals intro hg)|((fail_if_success (apply ds_known;exact rfl));apply ds_guardB;exact rfl;exact rfl;exact rfl;all_goals intro hg)|((fail_if_success (apply dt_known;exact rfl));apply dt_guardP;exact rfl;exact rfl;exact rfl;all_goals intro hg)|((fail_if_success (apply dt_known;exact rfl));apply dt_guard;exact rfl;exact rfl;exact rfl;all_goals intro hg))
  all_goals try (exfalso;omega)
  all_goals exact⟨.inl rfl,_,rfl,rfl,rfl⟩
theorem plistOf {α:Type} {e:RT} {enc:α→List D} (h:∀ x,TyD e x→∃ t,x=enc t):∀ (l:List (List D)),(∀ x∈l,TyD e x)→∃ ts:List α,l=ts.map enc
 | [],_=>⟨[],rfl⟩
 | x::l,hl=>by
  obtain⟨t,rfl⟩:=h x (hl x (List.mem_cons_self ..))
  obtain⟨ts,rfl⟩:=plistOf h l fun y hy=>hl y (List.mem_cons_of_mem _ hy)
  exact⟨t::ts,rfl⟩
theorem psliceOf {α:Type} {c b:Nat} {e:RT} {enc:α→List D} (h:∀ x,TyD e x→∃ t,x=enc t) (x:List D) (hx:TyD (.slice c b e) x):∃ ts:List α,x=[.slice c (ts.map enc)]:=by
 obtain⟨l,_,_,rfl,h3⟩:=hx
 obtain⟨ts,rfl⟩:=plistOf h l h3
 exact⟨ts,rfl⟩
abbrev rtTrm:RT:=.struct [.int .i64,.int .i64]
abbrev rtLtl:RT:=.struct [.int .i64,.int .i64,.int .i64,.slice 2 16 rtTrm]
abbrev rtRul:RT:=.struct [.int .i64,.slice 2 16 rtTrm,.int .i64,.slice 4 48 rtLtl,.int .i64]
abbrev rtPrg:RT:=.struct [.slice 1 8 (.int .i64),.slice 1 16 .str,.slice 5 72 rtRul]
theorem pint_of (x:List D) (h:TyD (.int .i64) x):∃ n:Int,x=encI n:=by
 obtain⟨n,_,rfl⟩:=h
 exact⟨n,rfl⟩
theorem pstr_of (x:List D) (h:TyD .str x):∃ n:ByteArray,x=encT n:=by
 obtain⟨n,_,rfl⟩:=h
 exact⟨n,rfl⟩
theorem trm_of (x:List D) (h:TyD rtTrm x):∃ t:Trm,x=encTrm t:=by
 obtain⟨a,b,rfl,⟨k,_,rfl⟩,c,d,rfl,⟨p,_,rfl⟩,rfl⟩:=h
 exact⟨⟨k,p⟩,rfl⟩
theorem ltl_of (x:List D) (h:TyD rtLtl x):∃ t:Ltl,x=encLtl t:=by
 obtain⟨a,b,rfl,⟨k,_,rfl⟩,c,d,rfl,⟨p,_,rfl⟩,e,f,rfl,⟨q,_,rfl⟩,g,i,rfl,h4,rfl⟩:=h
 obtain⟨l,rfl⟩:=psliceOf trm_of g h4
 exact⟨⟨k,p,q,l⟩,rfl⟩
theorem rul_of (x:List D) (h:TyD rtRul x):∃ t:Rul,x=encRul t:=by
 obtain⟨a,b,rfl,⟨k,_,rfl⟩,c,d,rfl,h2,e,f,rfl,⟨q,_,rfl⟩,g,i,rfl,h4,j,m,rfl,⟨v,_,rfl⟩,rfl⟩:=h
 obtain⟨l,rfl⟩:=psliceOf trm_of c h2
 obtain⟨n,rfl⟩:=psliceOf ltl_of g h4
 exact⟨⟨k,l,q,n,v⟩,rfl⟩
theorem prg_arg (x:List D) (h:TyD rtPrg x):∃ p:Prg,RT.arg rtPrg x=elPrg p:=by
 obtain⟨c,d,rfl,h2,e,f,rfl,h3,g,h,rfl,h4,rfl⟩:=h
 obtain⟨l,rfl⟩:=psliceOf pint_of c h2
 obtain⟨m,rfl⟩:=psliceOf pstr_of e h3
 obtain⟨n,rfl⟩:=psliceOf rul_of g h4
 exact⟨⟨l,m,n⟩,rfl⟩
abbrev rtFct:RT:=.struct [.int .i64,.slice 1 8 (.int .i64)]
theorem fct_of (x:List D) (h:TyD rtFct x):∃ t:Fct,x=encFct t:=by
 obtain⟨a,b,rfl,⟨k,_,rfl⟩,c,d,rfl,h2,rfl⟩:=h
 obtain⟨l,rfl⟩:=psliceOf pint_of c h2
 exact⟨⟨k,l⟩,rfl⟩
theorem fcts_arg (x:List D) (h:TyD (.slice 2 32 rtFct) x):∃ l:List Fct,RT.arg (.slice 2 32 rtFct) x = .d (.slice 2 (l.map encFct)):=by
 obtain⟨l,rfl⟩:=psliceOf fct_of x h
 exact⟨l,rfl⟩
abbrev rtStp:RT:=.struct [rtFct,.int .i64,.slice 1 8 (.int .i64)]
theorem stp_of (x:List D) (h:TyD rtStp x):∃ t:Stp,x=encStp t:=by
 obtain⟨a,b,rfl,⟨a1,b1,rfl,⟨k,_,rfl⟩,a2,b2,rfl,h2,rfl⟩,c,d,rfl,⟨p,_,rfl⟩,e,f,rfl,h4,rfl⟩:=h
 obtain⟨l,rfl⟩:=psliceOf pint_of a2 h2
 obtain⟨n,rfl⟩:=psliceOf pint_of e h4
 exact⟨⟨⟨k,l⟩,p,n⟩,rfl⟩
theorem stps_arg (x:List D) (h:TyD (.slice 4 64 rtStp) x):∃ l:List Stp,RT.arg (.slice 4 64 rtStp) x = .d (.slice 4 (l.map encStp)):=by
 obtain⟨l,rfl⟩:=psliceOf stp_of x h
 exact⟨l,rfl⟩
end Go.Proofs.YtapciiffpnociadGreat
