/- Several texts in one: RuW GxSr1 RuI RuH RuGp RuD RuE RuJ RuF ScoG ScoH. Condition: none. -/
import Derived.Test.YtapciiffpnociacGreatR13
import Derived.Test.YtapciiffpnociacGreatR12
import Derived.Test.YtapciiffpnociacGreatR11
import Derived.Test.YtapciiffpnociacGreatR08
import Derived.Test.YtapciiffpnociacGreatR10
namespace Go.Proofs.YtapciiffpnociacGreat
open Go Go.RowKit
attribute [local irreducible] DW DS DL DQ Ev FnOk FnP thenD inBlockD DT
set_option maxHeartbeats 8000000 in
theorem cloneIR_fn (l:List Int) (hl:l.length≤17592186044416):FnOk false Tryz.prog tab tab_ok 81 [.row 0] 1 1 [(0,.row 3 1 (l.map encI))] (fun _ r H=>r = .d (.slice 1 (l.map encI))∧H=[(0,.row 3 1 (l.map encI))]):=by
 refine fn_enterR _ Tryz.func81 rfl rfl (by kernel_rfl) ?_
 intro O w0 E0 β0
 have la:(l.map encI).length=l.length:=List.length_map _
 repeat' (first|refine z0 ?_|apply ds_nil|apply dw_seq2|refine z16 ?_|apply thenD_n)
 refine ds_eqnilR rfl rfl rfl rfl rfl rfl (fun h=>?_) ?_
 ·have h0:l=[]:=List.map_eq_nil_iff.1 h
  subst h0
  repeat' (first|refine z0 ?_|apply ds_nil|apply dw_seq2|refine z16 ?_|refine z18 ?_|apply thenD_n)
  refine dw_ent (ent_nild 2 1 rfl) ?_
  repeat' (first|apply dw_ret|apply thenD_r)
  exact⟨.inl rfl,_,rfl,id,1,_,[(0,.row 3 1 [])],rfl,⟨rfl,trivial⟩,rfl,rfl,rfl,rfl,rfl,rfl,rfl,rfl⟩
 ·repeat' (first|(apply ds_bs0;exact rfl;exact rfl;exact rfl;exact rfl;exact rfl;exact rfl;exact rfl;exact rfl)|(first|refine z0 ?_|apply ds_nil|apply dw_seq2|refine z16 ?_|apply dw_skip|refine z19 ?_|apply thenD_n))
  refine ds_append_rowR 0 rfl rfl rfl rfl rfl rfl rfl rfl rfl rfl rfl ?_ ?_ rfl ?_
  ·show (0 + (l.map encI).length) * 8≤_
   omega
  ·show 0 + (l.map encI).length≤_
   unfold maxLen
   omega
  repeat' (first|refine z0 ?_|apply ds_nil|apply thenD_n)
  refine dw_ent (ent_seal 2 rfl rfl rfl) ?_
  repeat' (apply dw_ret)
  exact⟨.inl rfl,_,rfl,id,1,_,[(0,.row 3 1 (l.map encI))],rfl,⟨rfl,trivial⟩,rfl,rfl,rfl,rfl,rfl,rfl,rfl,rfl⟩
theorem putW_app {a b out:List (List Int)} (h:fewW a out=true):putW (a++b) out=putW b (putW a out)∧fewW (a++b) out=fewW b (putW a out)∧(putW a out).length≤2000:=by
 have h:=of_decide_eq_true h
 have hp:putW a out=out++a:=by unfold putW;exact List.take_of_length_le (by rw [List.length_append];omega)
 rw [hp]
 refine⟨by unfold putW;rw [List.append_assoc],?_,by rw [List.length_append];exact h⟩
 unfold fewW
 rw [List.length_append,List.length_append]
 exact decide_eq_decide.2 (by omega)
theorem putW_many {a b out:List (List Int)} (h:fewW a out=false):putW (a++b) out=putW a out∧fewW (a++b) out=false:=by
 have h:=of_decide_eq_false h
 refine⟨?_,decide_eq_false (by rw [List.length_append];omega)⟩
 unfold putW
 rw [← List.append_assoc,List.take_append_of_le_length (by rw [List.length_append];omega)]
theorem matchE_num:∀ {ts:List Trm} {ns:List Int} {e e':RE},numE e→(∀ n∈ns,-1000000≤n∧n≤1000000)→matchE e ts ns=some e'→numE e'
 | [],_,e,e',hn,_,h=>by simp only [matchE,Option.some.injEq] at h;subst h;exact hn
 | _::_,[],e,e',hn,_,h=>by simp only [matchE,Option.some.injEq] at h;subst h;exact hn
 | t::ts,n::ns,e,e',hn,hns,h=>by
  rw [matchE] at h
  cases hv:vOf e t with
  | some x =>
   rw [hv] at h
   simp only at h
   split at h
   ·exact matchE_num hn (fun m hm=>hns m (List.mem_cons_of_mem _ hm)) h
   ·cases h
  | none =>
   rw [hv] at h
   simp only at h
   refine matchE_num (fun v x hx=>?_) (fun m hm=>hns m (List.mem_cons_of_mem _ hm)) h
   by_cases hq:t.var.toNat=v
   ·subst hq
    by_cases hl:t.var.toNat < e.length
    ·rw [List.getElem?_set_self hl] at hx
     simp at hx;subst hx
     exact hns n (List.mem_cons_self ..)
    ·rw [List.getElem?_eq_none (by rw [List.length_set];omega)] at hx;cases hx
   ·rw [List.getElem?_set_ne hq] at hx
    exact hn v x hx
def facW (W:RE→List (List Int)) (e:RE) (l:Ltl) (x:Fct):List (List Int):=if x.pred=l.pred then matW W (matchE e l.terms x.args) else []
theorem litW_yes' {S:List Fct} {W:RE→List (List Int)} {l:Ltl} {e:RE} (h:l.kind=1):litW S W l e=S.flatMap (facW W e l):=by
 unfold litW
 rw [if_pos h]
 rfl
def FindOk (r:Rul) (S:List Fct) (left:List Ltl):Prop:=∀ (e:RE) (out:List (List Int)),okB S e.length left→numE e→Bd left (hasE e)→out.length≤2000 →
 FnOk false Tryz.prog tab tab_ok 86 [.loc 0 0,.d (.slice 4 (left.map encLtl))] 3 4 (pfH r S e out)
  (fun k2 res H=>k2=4∧res = .d (.bool (fewW (findE S left.length left e) out))∧H=pfH r S e (putW (findE S left.length left e) out))
set_option maxHeartbeats 8000000 in
theorem find1_fn (r:Rul) (S:List Fct) (left:List Ltl) (hf:FindOk r S left) (e:RE) (out:List (List Int)) (h1:okB S e.length left) (h2:numE e) (h3:Bd left (hasE e)) (h4:out.length≤2000) :
  FnOk false Tryz.prog tab tab_ok 126 [.loc 3 0,.loc 4 0] 5 6 (goH r S left e out) (fun k2 res H=>k2=6∧res = .d (.bool (fewW (findE S left.length left e) out))∧H=goH r S left e (putW (findE S left.length left e) out)):=by
 refine fn_enterR _ Tryz.func126 rfl rfl (by kernel_rfl) ?_
 intro O w0 E0 β0
 have w:=hf e out h1 h2 h3 h4
 clear hf
 generalize fewW (findE S left.length left e) out=bb at w ⊢
 generalize putW (findE S left.length left e) out=o2 at w ⊢
 repeat' (first|refine z0 ?_|apply ds_nil|apply dw_seq2|refine z16 ?_|apply thenD_n)
 refine ds_callF (fun j=>match j with|3=>5|j=>j) w rfl rfl rfl rfl ⟨rfl,rfl,rfl,rfl,trivial⟩ rfl rfl rfl rfl rfl rfl ?_ ?_
 ·rintro k2 res H2 ⟨rfl,rfl,rfl⟩;exact⟨rfl,rfl⟩
 rintro k2 res H2 ⟨rfl,rfl,rfl⟩
 change DS _ _ _ _ _ _ _ _
 repeat' (first|refine z0 ?_|apply ds_nil|apply dw_ret|apply thenD_n)
 exact⟨.inl rfl,_,rfl,fun j=>match j with|5=>9|j=>j,6,_,goH r S left e o2,rfl,⟨rfl,rfl,rfl,rfl,rfl,rfl,trivial⟩,rfl,rfl,rfl,rfl,rfl,rfl,rfl,rfl,rfl⟩
set_option maxHeartbeats 8000000 in
theorem find_nil (r:Rul) (S:List Fct):FindOk r S []:=by
 intro e out h1 _ _ h4
 refine fn_enterR _ Tryz.func86 rfl rfl (by kernel_rfl) ?_
 intro O w0 E0 β0
 have he:=h1.vle
 have w:=cloneIR_fn (outE e) (by rw [outE_len];omega)
 have hfe:findE S 0 [] e=[outE e]:=rfl
 rw [show ([]:List Ltl).length=0 from rfl,hfe]
 repeat' ((fail_if_success (apply dw_stopT 2));(first|refine z0 ?_|apply ds_nil|apply dw_seq2|refine z16 ?_|refine z18 ?_|apply thenD_n|refine z1 ?_|fail))
 refine dw_tail 12 (by kernel_rfl) (by kernel_rfl) (by kernel_rfl) rfl rfl rfl ?_
 repeat' refine z5 ?_
 refine dt_callR (fun j=>match j with|0=>1|j=>j) w (by rintro _ rfl;exact⟨rfl,rfl⟩) ⟨_,rfl⟩ rfl rfl rfl rfl ⟨rfl,trivial⟩ rfl rfl rfl rfl rfl rfl rfl rfl rfl ?_
 rintro _ rfl
 have lo:(out.map encW).length=out.length:=List.length_map _
 repeat' (first|refine z0 ?_|apply ds_nil|refine z5 ?_|refine z9 ?_|refine z10 ?_|refine z11 ?_|apply dw_seq2|refine z20 ?_|apply dw_ret|apply thenD_n|apply thenD_r|refine z3 ?_|fail)
 have hp:putW [outE e] out=out++[outE e]:=by unfold putW;exact List.take_of_length_le (by simp only [List.length_append,List.length_singleton];omega)
 rw [hp]
 have hfew:decide (((((out.map encW++[[D.slice 1 ((outE e).map encI)]]).length:Nat):Int))≤2000)=fewW [outE e] out:=by
  unfold fewW
  simp only [List.length_append,List.length_singleton,lo]
  exact decide_eq_decide.2 (by omega)
 exact⟨.inl rfl,_,rfl,fun j=>match j with|3=>16|j=>j,4,.d (.bool _),pfH r S e (out++[outE e]),rfl,⟨rfl,rfl,rfl,by rw [List.map_append];rfl,trivial⟩,rfl,rfl,rfl,rfl,rfl,rfl,rfl,congrArg (fun b=>SV.d (.bool b)) hfew,rfl⟩
set_option maxHeartbeats 8000000 in
theorem find_step (r:Rul) (S:List Fct) (hS:Strict S) (hS2:S.length≤4398046511104) (left:List Ltl) (hne:left≠[]) (ih:∀ i (_:i < left.length),FindOk r S (left.eraseIdx i)):FindOk r S left:=by
 intro e out h1 h2 h3 h4
 refine fn_enterR _ Tryz.func86 rfl rfl (by kernel_rfl) ?_
 intro O w0 E0 β0
 have ll:(left.map encLtl).length=left.length:=List.length_map _
 have hl4:=h1.len
 have hpos:0 < left.length:=List.length_pos_iff.2 hne
 have hnx:=next_lt hne h1.lit h3
 have hnr:=next_is hnx
 have w1:=next_fn r S out e left h1.lit (by omega) hnx h1.tlen
 have hB':∀ e',leB (hasE e) (hasE e')→((∀ t∈litTs left[nextE e left],isT (hasE e') t=true)∨∀ ds,firesB ds left[nextE e left]=false)→Bd (left.eraseIdx (nextE e left)) (hasE e'):=fun e' k1 k2=>Bd_rest hnx h3 k1 k2
 have hok':∀ e':RE,e'.length=e.length→okB S e'.length (left.eraseIdx (nextE e left)):=fun e' k1=>by
  have hsub:∀ l∈left.eraseIdx (nextE e left),l∈left:=fun l hl=>(mem_erase hnx l).2 (.inr hl)
  rw [k1]
  exact⟨fun l hl=>h1.lit l (hsub l hl),fun l hl=>h1.op l (hsub l hl),fun l hl=>h1.nums l (hsub l hl),h1.facts,by rw [List.length_eraseIdx];split <;> omega,h1.vle,fun l hl=>h1.tlen l (hsub l hl)⟩
 have hfe:findE S left.length left e=litW S (findE S (left.length - 1) (left.eraseIdx (nextE e left))) left[nextE e left] e:=by
  obtain⟨l0,ls,rfl⟩:=List.exists_cons_of_ne_nil hne
  rw [List.length_cons,findE,List.getElem?_eq_getElem hnx,Nat.add_sub_cancel]
 have hel:(left.eraseIdx (nextE e left)).length=left.length - 1:=by rw [List.length_eraseIdx,if_pos hnx]
 have ih':=ih _ hnx
 have hlm:=List.getElem_mem hnx
 have hlo:=h1.lit _ hlm
 have hlop:=h1.op _ hlm
 have hlnum:=h1.nums _ hlm
 have hl3:=h1.tlen _ hlm
 rw [hfe,← hel]
 clear ih hfe h3
 have hc:Fn 125 [.d (.slice 1 [[.slice 4 ((left.take (nextE e left)).map encLtl)],[.slice 4 ((left.drop (nextE e left + 1)).map encLtl)]])] (fun r=>r = .d (.slice 4 ((left.eraseIdx (nextE e left)).map encLtl))):=by
  have h:=concatLtl_fn [left.take (nextE e left),left.drop (nextE e left + 1)] (by simp only [List.map_cons,List.map_nil,List.sum_cons,List.sum_nil,List.length_take,List.length_drop];omega) (by simp)
  rw [show [left.take (nextE e left),left.drop (nextE e left + 1)].flatten=left.eraseIdx (nextE e left) by rw [List.eraseIdx_eq_take_drop_succ];simp] at h
  exact h
 repeat' (first|refine z0 ?_|apply ds_nil|refine z5 ?_|apply dw_seq2|refine z16 ?_|refine z20 ?_|apply dw_skip|apply thenD_n|refine z1 ?_|(refine z23 ?_ ?_ <;> intro hg)|fail)
 all_goals try (exfalso;omega)
 (refine ds_callF id (w1) rfl rfl rfl rfl ⟨rfl,rfl,rfl,rfl,trivial⟩ rfl rfl rfl rfl rfl rfl ?_ ?_)
 ·rintro k2 res H2 ⟨rfl,rfl⟩;exact⟨rfl,rfl⟩
 rintro k2 res H2 ⟨rfl,rfl⟩
 change DS _ _ _ _ _ _ _ _
 clear w1
 generalize nextE e left=j at *
 repeat' ((fail_if_success (apply dw_stopR 8));(first|refine z0 ?_|apply ds_nil|refine z5 ?_|refine z6 ?_|refine z7 ?_|refine z11 ?_|apply dw_seq2|refine z16 ?_|refine z20 ?_|apply thenD_n|refine z22 ?_ (hc:=by apply hc)|refine z1 ?_|refine z3 ?_|fail))
 all_goals try (exfalso;omega)
 refine dw_ent (ent_ren (k':=7) (L':=[(2,.loc 3 0),(6,.loc 6 0),(8,.fn 126 [.loc 3 0,.loc 4 0])]) (H':=(6,litB left[j])::goH r S (left.eraseIdx j) e out) (fun z=>match z with|3=>4|4=>15|5=>3|6=>5|z=>z) ⟨rfl,rfl,rfl,trivial⟩ ⟨rfl,rfl,rfl,rfl,rfl,rfl,rfl,trivial⟩ rfl rfl rfl rfl rfl rfl) ?_
 clear hc ll hlm
 generalize left[j]=l at *
 generalize left.eraseIdx j=rest at *
 have hthen:∀ (ts:List Trm) (ns:List Int) (o:List (List Int)),o.length≤2000→ts.length=ns.length→(∀ t∈ts,okT e.length t)→(∀ n∈ns,-1000000≤n∧n≤1000000)→litTs l=ts→∀ e',matchE e ts ns=some e' →
   FnOk false Tryz.prog tab tab_ok 126 [.loc 3 0,.loc 4 0] 5 6 (goH r S rest e' o) (fun k2 res H=>k2=6∧res = .d (.bool (fewW (findE S rest.length rest e') o))∧H=goH r S rest e' (putW (findE S rest.length rest e') o)):=by
  intro ts ns o q1 q2 q3 q4 q5 e' q6
  obtain⟨m1,_,m3⟩:=matchE_some q2 q3 q6
  exact find1_fn r S rest ih' e' o (hok' e' m1) (matchE_num h2 q4 q6) (hB' e' (by rw [m3];exact setTs_le _ _) (.inl (by rw [q5,m3];exact setTs_is (by rw [hasE_len];exact q3)))) q1
 have hthen0:l.kind≠1→l.kind≠4→FnOk false Tryz.prog tab tab_ok 126 [.loc 3 0,.loc 4 0] 5 6 (goH r S rest e out) (fun k2 res H=>k2=6∧res = .d (.bool (fewW (findE S rest.length rest e) out))∧H=goH r S rest e (putW (findE S rest.length rest e) out)):=fun n1 n4 =>
  find1_fn r S rest ih' e out (hok' e rfl) h2 (hB' e (leB.refl _) (.inr fun ds=>by unfold firesB;rw [decide_eq_false n1,decide_eq_false n4];rfl)) h4
 have hfacts:=h1.facts
 have hfl:=hlo.facts
 have hT:=hlo.terms
 have hc3:=hlo.calc3
 have ht2:=hlo.test2
 have hkind:=hlo.kind
 have hvle:=h1.vle
 clear ih' hB' hok' hlo h1 hel hnx hpos
 generalize findE S rest.length rest=W at hthen hthen0 ⊢
 by_cases hk1:l.kind=1
 ·rw [litW_yes' hk1]
  have lS:(S.map encFct).length=S.length:=List.length_map _
  repeat' (first|refine z0 ?_|apply ds_nil|refine z5 ?_|apply dw_seq2|refine z16 ?_|refine z20 ?_|apply dw_block|apply dw_skip|apply thenD_n|apply inB_n|(refine z23 ?_ ?_ <;> intro hg)|fail)
  all_goals try (exfalso;omega)
  refine ds_loop (ι:=Nat) (fun i=>⟨7,[(2,.loc 3 0),(6,.loc 6 0),(8,.fn 126 [.loc 3 0,.loc 4 0]),(68,.d (.slice 2 (S.map encFct))),(69,.d (.int .i64 S.length)),(70,.d (.int .i64 i))],(6,litB l)::goH r S rest e (putW ((S.take i).flatMap (facW W e l)) out)⟩)
   (fun i=>i≤S.length∧fewW ((S.take i).flatMap (facW W e l)) out=true) (fun i=>S.length - i) 0 ⟨Nat.zero_le _,fewW_nil h4⟩ (ent_ren id ⟨rfl,rfl,rfl,rfl,by rw [← lS];rfl,rfl,trivial⟩ ⟨rfl,rfl,rfl,rfl,rfl,rfl,by rw [show (S.take 0).flatMap (facW W e l)=[] from rfl,putW_nil h4];rfl,trivial⟩ rfl rfl rfl rfl rfl rfl) ?_
  rintro i ⟨g1,g2⟩
  dsimp only at g1 g2 ⊢
  by_cases hi:i < S.length
  ·have hx:=List.getElem_mem hi
   have hst:(S.take (i + 1)).flatMap (facW W e l)=(S.take i).flatMap (facW W e l)++facW W e l S[i]:=by rw [List.take_succ_eq_append_getElem hi,List.flatMap_append];simp
   obtain⟨p1,p2,p3⟩:=putW_app (b:=facW W e l S[i]) g2
   have hwh:S.flatMap (facW W e l)=(S.take (i + 1)).flatMap (facW W e l)++(S.drop (i + 1)).flatMap (facW W e l):=by rw [← List.flatMap_append,List.take_append_drop]
   have hfx:=hfacts _ hx
   have hfa:=hfl hk1 _ hx
   rw [← hst] at p1 p2
   generalize putW ((S.take i).flatMap (facW W e l)) out=o at p1 p2 p3 ⊢
   have w:=match_fnR r S rest o e l.terms S[i].args W
   by_cases hp:S[i].pred=l.pred
   ·have hfw:facW W e l S[i]=matW W (matchE e l.terms S[i].args):=by unfold facW;rw [if_pos hp]
    have w:=w (hfa hp).symm (by omega) hT p3 (hthen l.terms S[i].args o p3 (hfa hp).symm hT hfx (by unfold litTs;rw [if_pos hk1]))
    rw [← hfw,← p1,← p2] at w
    repeat' (first|refine z0 ?_|refine z12 ?_|apply ds_nil|apply dw_seq2|refine z16 ?_|apply dw_block|apply dw_skip|apply dw_exit|apply dw_ret|refine z19 ?_|apply thenD_n|apply thenD_e|apply thenD_r|apply inB_n|apply inB_r|refine z17 ?_|refine z1 ?_|refine z3 ?_|(refine z23 ?_ ?_ <;> intro hg)|((fail_if_success (apply ds_known;exact rfl));apply ds_guardP;exact rfl;exact rfl;exact rfl;all_goals intro hg))
    all_goals try (exfalso;omega)
    (refine ds_callF id (w) rfl rfl rfl rfl ⟨rfl,rfl,rfl,rfl,rfl,rfl,trivial⟩ rfl rfl rfl rfl rfl rfl ?_ ?_)
    ·rintro k2 res H2 ⟨rfl,rfl,rfl⟩;exact⟨rfl,rfl⟩
    rintro k2 res H2 ⟨rfl,rfl,rfl⟩
    change DS _ _ _ _ _ _ _ _
    cases hb:fewW ((S.take (i + 1)).flatMap (facW W e l)) out with
    | true =>
     repeat' (first|refine z0 ?_|apply ds_nil|refine z16 ?_|apply dw_skip|refine z19 ?_|apply thenD_n|apply inB_n)
     all_goals try (exfalso;omega)
     exact⟨i + 1,⟨hi,hb⟩,ent_ren (fun j=>match j with|5=>13|j=>j) ⟨rfl,rfl,rfl,rfl,rfl,rfl,trivial⟩ ⟨rfl,rfl,rfl,rfl,rfl,rfl,rfl,trivial⟩ rfl rfl rfl rfl rfl rfl,by omega⟩
    | false =>
     obtain⟨q1,q2⟩:=putW_many (b:=(S.drop (i + 1)).flatMap (facW W e l)) hb
     rw [← hwh] at q1 q2
     rw [q1,q2]
     repeat' (first|refine z0 ?_|apply ds_nil|apply dw_seq2|refine z16 ?_|apply dw_ret|refine z18 ?_|apply thenD_n|apply thenD_r|apply inB_r)
     all_goals try (exfalso;omega)
     exact⟨.inl rfl,_,rfl,fun j=>match j with|3=>13|j=>j,4,_,pfH r S e _,rfl,⟨rfl,rfl,rfl,rfl,trivial⟩,rfl,rfl,rfl,rfl,rfl,rfl,rfl,rfl,rfl⟩
   ·have hfw:facW W e l S[i]=[]:=by unfold facW;rw [if_neg hp]
    rw [hfw] at p1 p2
    rw [putW_nil p3] at p1
    rw [fewW_nil p3] at p2
    repeat' (first|refine z0 ?_|refine z12 ?_|apply ds_nil|apply dw_seq2|refine z16 ?_|apply dw_block|apply dw_skip|apply dw_exit|apply dw_ret|refine z19 ?_|apply thenD_n|apply thenD_e|apply thenD_r|apply inB_n|apply inB_r|refine z17 ?_|refine z1 ?_|refine z3 ?_|(refine z23 ?_ ?_ <;> intro hg)|((fail_if_success (apply ds_known;exact rfl));apply ds_guardP;exact rfl;exact rfl;exact rfl;all_goals intro hg))
    all_goals try (exfalso;omega)
    exact⟨i + 1,⟨hi,p2⟩,ent_ren id ⟨rfl,rfl,rfl,rfl,rfl,rfl,trivial⟩ ⟨rfl,rfl,rfl,rfl,rfl,rfl,by rw [p1];rfl,trivial⟩ rfl rfl rfl rfl rfl rfl,by omega⟩
  ·rw [List.take_of_length_le (by omega)] at g2 ⊢
   rw [g2]
   repeat' (first|refine z0 ?_|refine z12 ?_|apply ds_nil|apply dw_seq2|refine z16 ?_|apply dw_block|apply dw_skip|apply dw_exit|apply dw_ret|refine z19 ?_|apply thenD_n|apply thenD_e|apply thenD_r|apply inB_n|apply inB_r|refine z17 ?_|refine z1 ?_|refine z3 ?_|(refine z23 ?_ ?_ <;> intro hg)|((fail_if_success (apply ds_known;exact rfl));apply ds_guardP;exact rfl;exact rfl;exact rfl;all_goals intro hg))
   all_goals try (exfalso;omega)
   exact⟨.inl rfl,_,rfl,fun j=>match j with|3=>5|j=>j,4,_,pfH r S e _,rfl,⟨rfl,rfl,rfl,rfl,trivial⟩,rfl,rfl,rfl,rfl,rfl,rfl,rfl,rfl,rfl⟩
 ·have hrd:rdyL e l=true:=hnr.resolve_right hk1
  by_cases hk4:l.kind=4
  ·have h3:=hc3 hk4
   have hnum:∀ t∈l.terms,-1000000≤vA (outE e) t∧vA (outE e) t≤1000000:=fun t ht=>vA_num h2 (hlnum t ht)
   have hall:(l.terms.take 2).all (fun t=>(vOf e t).isSome)=true:=by
    unfold rdyL needT at hrd;rw [if_pos hk4] at hrd;exact hrd
   have hlW:litW S W l e=if numB (calcL l (outE e)) then matW W (matchE e (l.terms.drop 2) [calcL l (outE e)]) else []:=by
    unfold litW;rw [if_neg hk1,if_pos hk4];rfl
   have w:=values_fn r S out e (l.terms.take 2) (fun t ht=>hT t (List.mem_of_mem_take ht)) (by rw [List.length_take];omega)
   rw [hall,if_pos rfl] at w
   have hthen4:=hthen (l.terms.drop 2) [calcL l (outE e)] out h4 (by rw [List.length_drop,h3];rfl) (fun t ht=>hT t (List.mem_of_mem_drop ht))
   have hlt:litTs l=l.terms.drop 2:=by unfold litTs;rw [if_neg hk1]
   have wm:=fun hn:numB (calcL l (outE e))=true=>match_fnR r S rest out e (l.terms.drop 2) [calcL l (outE e)] W (by rw [List.length_drop,h3];rfl) (by rw [List.length_drop];omega) (fun t ht=>hT t (List.mem_of_mem_drop ht)) h4
    (hthen4 (by intro n hn';rw [List.mem_singleton] at hn';subst hn';exact numB_iff.1 hn) hlt)
   have hcl:calcL l (outE e)=calcE l.op ((l.terms.map (vA (outE e))).getD 0 0) ((l.terms.map (vA (outE e))).getD 1 0):=rfl
   rw [hcl] at hlW wm
   clear hthen4 hthen hthen0 hcl hlt hall hrd hnr
   obtain⟨kind,op,pred,terms⟩:=l
   dsimp only at h3 hk4 hk1 hnum w wm hlW hT
   match terms,h3 with
   | [t1,t2,t3],_ =>
    simp only [List.map_cons,List.map_nil,List.getD_cons_zero,List.getD_cons_succ,List.take_succ_cons,List.take_zero,List.drop_succ_cons,List.drop_zero] at w wm hlW
    have n1:=hnum t1 (by simp)
    have n2:=hnum t2 (by simp)
    clear hnum
    generalize vA (outE e) t1=x at *
    generalize vA (outE e) t2=y at *
    have w4:=calc_fn op x y n1 n2
    have w5:=snumber_fn (calcE op x y)
    repeat' (first|refine z0 ?_|apply ds_nil|refine z5 ?_|apply dw_seq2|refine z16 ?_|refine z20 ?_|apply dw_block|apply dw_skip|apply thenD_n|apply inB_n|(refine z23 ?_ ?_ <;> intro hg)|fail)
    all_goals try (exfalso;first|omega|exact hk1 hg|exact hg hk4|exact hk4 hg|exact hk3 hg|exact hg hk3)
    refine dt_callR (fun j=>match j with|3=>5|j=>j) w (by rintro _ rfl;exact⟨rfl,rfl⟩) ⟨_,rfl⟩ rfl rfl rfl rfl ⟨rfl,rfl,rfl,rfl,trivial⟩ rfl rfl rfl rfl rfl rfl rfl rfl rfl ?_
    rintro _ rfl
    clear w
    repeat' ((fail_if_success (apply dw_stopT 20));(first|refine z5 ?_|refine z10 ?_|apply dw_seq2|refine z20 ?_|apply thenD_n|refine z22 ?_ (hc:=by apply w4)|fail))
    all_goals try (exfalso;first|omega|exact hk1 hg|exact hg hk4|exact hk4 hg|exact hk3 hg|exact hg hk3)
    cases hn:numB (calcE op x y) with
    | false =>
     rw [hn] at hlW w5
     rw [hlW,if_neg (by simp),fewW_nil h4,putW_nil h4]
     repeat' (first|refine z5 ?_|refine z14 ?_|refine z10 ?_|refine z20 ?_|apply dw_ret|apply thenD_n|apply thenD_r|apply inB_r|refine z22 ?_ (hc:=by apply w5)|fail)
     all_goals try (exfalso;first|omega|exact hk1 hg|exact hg hk4|exact hk4 hg|exact hk3 hg|exact hg hk3)
     exact⟨.inl rfl,_,rfl,fun j=>match j with|3=>5|j=>j,4,_,pfH r S e out,rfl,⟨rfl,rfl,rfl,rfl,trivial⟩,rfl,rfl,rfl,rfl,rfl,rfl,rfl,rfl,rfl⟩
    | true =>
     have wm:=wm hn
     rw [hn] at hlW w5
     rw [hlW,if_pos rfl]
     refine dw_tail 11 (by kernel_rfl) (by kernel_rfl) (by kernel_rfl) rfl rfl rfl ?_
     repeat' (first|refine z5 ?_|refine z10 ?_|refine z22 ?_ (hc:=by apply w5)|fail)
     all_goals try (exfalso;first|omega|exact hk1 hg|exact hg hk4|exact hk4 hg|exact hk3 hg|exact hg hk3)
     (refine ds_callF id (wm) rfl rfl rfl rfl ⟨rfl,rfl,rfl,rfl,rfl,rfl,trivial⟩ rfl rfl rfl rfl rfl rfl ?_ ?_)
     ·rintro k2 res H2 ⟨rfl,rfl,rfl⟩;exact⟨rfl,rfl⟩
     rintro k2 res H2 ⟨rfl,rfl,rfl⟩
     change DS _ _ _ _ _ _ _ _
     repeat' (first|refine z0 ?_|apply ds_nil|apply dw_ret|apply thenD_n|apply thenD_r|apply inB_r)
     exact⟨.inl rfl,_,rfl,fun j=>match j with|3=>12|j=>j,4,_,pfH r S e _,rfl,⟨rfl,rfl,rfl,rfl,trivial⟩,rfl,rfl,rfl,rfl,rfl,rfl,rfl,rfl,rfl⟩
  ·have hlW:litW S W l e=if holdE S l (outE e) then W e else []:=by unfold litW;rw [if_neg hk1,if_neg hk4]
   have hth:=hthen0 hk1 hk4
   clear hthen0
   have hall:l.terms.all (fun t=>(vOf e t).isSome)=true:=by
    unfold rdyL needT at hrd;rw [if_neg hk4] at hrd;exact hrd
   have w:=values_fn r S out e l.terms hT (by omega)
   rw [hall,if_pos rfl] at w
   clear hthen hall hrd hnr
   by_cases hk3:l.kind=3
   ·have h2':=ht2 hk3
    obtain⟨kind,op,pred,terms⟩:=l
    dsimp only at h2' hk3 hk4 hk1 w hlW hT
    match terms,h2' with
    | [t1,t2],_ =>
     have hh:holdE S ⟨kind,op,pred,[t1,t2]⟩ (outE e)=testE op (vA (outE e) t1) (vA (outE e) t2):=by subst hk3;rfl
     rw [hh] at hlW
     simp only [List.map_cons,List.map_nil] at w
     generalize vA (outE e) t1=x at *
     generalize vA (outE e) t2=y at *
     have w4:=test_fn op x y
     repeat' (first|refine z0 ?_|apply ds_nil|refine z5 ?_|apply dw_seq2|refine z16 ?_|refine z20 ?_|apply dw_block|apply dw_skip|apply thenD_n|apply inB_n|(refine z23 ?_ ?_ <;> intro hg)|fail)
     all_goals try (exfalso;first|omega|exact hk1 hg|exact hg hk4|exact hk4 hg|exact hk3 hg|exact hg hk3)
     refine ds_callF (fun j=>match j with|3=>5|j=>j) w rfl rfl rfl rfl ⟨rfl,rfl,rfl,rfl,trivial⟩ rfl rfl rfl rfl rfl rfl ?_ ?_
     ·rintro k2 res H2 ⟨rfl,rfl⟩;exact⟨rfl,rfl⟩
     rintro k2 res H2 ⟨rfl,rfl⟩
     change DS _ _ _ _ _ _ _ _
     cases hb:testE op x y with
     | false =>
      rw [hb] at hlW w4
      rw [hlW,if_neg (by simp),fewW_nil h4,putW_nil h4]
      repeat' (first|refine z0 ?_|refine z12 ?_|apply ds_nil|refine z5 ?_|refine z10 ?_|apply dw_seq2|refine z16 ?_|refine z20 ?_|apply dw_ret|apply thenD_n|refine z22 ?_ (hc:=by apply w4)|(refine z23 ?_ ?_ <;> intro hg)|fail)
      all_goals try (exfalso;first|omega|exact hk1 hg|exact hg hk4|exact hk4 hg|exact hk3 hg|exact hg hk3)
      exact⟨.inl rfl,_,rfl,fun j=>match j with|3=>5|j=>j,4,_,pfH r S e out,rfl,⟨rfl,rfl,rfl,rfl,trivial⟩,rfl,rfl,rfl,rfl,rfl,rfl,rfl,rfl,rfl⟩
     | true =>
      rw [hb] at hlW w4
      rw [hlW,if_pos rfl]
      repeat' (first|refine z0 ?_|apply ds_nil|refine z5 ?_|refine z10 ?_|apply dw_seq2|refine z16 ?_|refine z20 ?_|apply thenD_n|refine z22 ?_ (hc:=by apply w4)|(refine z23 ?_ ?_ <;> intro hg)|fail)
      all_goals try (exfalso;first|omega|exact hk1 hg|exact hg hk4|exact hk4 hg|exact hk3 hg|exact hg hk3)
      (refine ds_callVF id (hth) rfl rfl rfl rfl rfl rfl ⟨rfl,rfl,rfl,rfl,rfl,rfl,trivial⟩ rfl rfl rfl rfl rfl rfl ?_ ?_)
      ·rintro k2 res H2 ⟨rfl,rfl,rfl⟩;exact⟨rfl,rfl⟩
      rintro k2 res H2 ⟨rfl,rfl,rfl⟩
      change DS _ _ _ _ _ _ _ _
      repeat' (first|refine z0 ?_|apply ds_nil|apply dw_ret|apply thenD_n)
      exact⟨.inl rfl,_,rfl,fun j=>match j with|3=>12|j=>j,4,_,pfH r S e _,rfl,⟨rfl,rfl,rfl,rfl,trivial⟩,rfl,rfl,rfl,rfl,rfl,rfl,rfl,rfl,rfl⟩
   ·have hk2:l.kind=2:=by omega
    have hh:holdE S l (outE e) = !hasF S ⟨l.pred,l.terms.map (vA (outE e))⟩:=by unfold holdE;rw [if_neg hk1,if_pos hk2]
    rw [hh] at hlW
    have w4:=in_fn S ⟨l.pred,l.terms.map (vA (outE e))⟩ hS2 hS
    repeat' (first|refine z0 ?_|apply ds_nil|refine z5 ?_|apply dw_seq2|refine z16 ?_|refine z20 ?_|apply dw_block|apply dw_skip|apply thenD_n|apply inB_n|(refine z23 ?_ ?_ <;> intro hg)|fail)
    all_goals try (exfalso;first|omega|exact hk1 hg|exact hg hk4|exact hk4 hg|exact hk3 hg|exact hg hk3)
    refine ds_callF (fun j=>match j with|3=>5|j=>j) w rfl rfl rfl rfl ⟨rfl,rfl,rfl,rfl,trivial⟩ rfl rfl rfl rfl rfl rfl ?_ ?_
    ·rintro k2 res H2 ⟨rfl,rfl⟩;exact⟨rfl,rfl⟩
    rintro k2 res H2 ⟨rfl,rfl⟩
    change DS _ _ _ _ _ _ _ _
    cases hb:hasF S ⟨l.pred,l.terms.map (vA (outE e))⟩ with
    | true =>
     rw [hb] at hlW w4
     rw [hlW,if_neg (by simp),fewW_nil h4,putW_nil h4]
     repeat' (first|refine z0 ?_|refine z12 ?_|apply ds_nil|refine z5 ?_|refine z10 ?_|apply dw_seq2|refine z16 ?_|refine z20 ?_|apply dw_ret|apply thenD_n|refine z22 ?_ (hc:=by apply w4)|(refine z23 ?_ ?_ <;> intro hg)|fail)
     all_goals try (exfalso;first|omega|exact hk1 hg|exact hg hk4|exact hk4 hg|exact hk3 hg|exact hg hk3)
     exact⟨.inl rfl,_,rfl,fun j=>match j with|3=>5|j=>j,4,_,pfH r S e out,rfl,⟨rfl,rfl,rfl,rfl,trivial⟩,rfl,rfl,rfl,rfl,rfl,rfl,rfl,rfl,rfl⟩
    | false =>
     rw [hb] at hlW w4
     rw [hlW,if_pos (by simp)]
     repeat' (first|refine z0 ?_|apply ds_nil|refine z5 ?_|refine z10 ?_|apply dw_seq2|refine z16 ?_|refine z20 ?_|apply thenD_n|refine z22 ?_ (hc:=by apply w4)|(refine z23 ?_ ?_ <;> intro hg)|fail)
     all_goals try (exfalso;first|omega|exact hk1 hg|exact hg hk4|exact hk4 hg|exact hk3 hg|exact hg hk3)
     (refine ds_callVF id (hth) rfl rfl rfl rfl rfl rfl ⟨rfl,rfl,rfl,rfl,rfl,rfl,trivial⟩ rfl rfl rfl rfl rfl rfl ?_ ?_)
     ·rintro k2 res H2 ⟨rfl,rfl,rfl⟩;exact⟨rfl,rfl⟩
     rintro k2 res H2 ⟨rfl,rfl,rfl⟩
     change DS _ _ _ _ _ _ _ _
     repeat' (first|refine z0 ?_|apply ds_nil|apply dw_ret|apply thenD_n)
     exact⟨.inl rfl,_,rfl,fun j=>match j with|3=>12|j=>j,4,_,pfH r S e _,rfl,⟨rfl,rfl,rfl,rfl,trivial⟩,rfl,rfl,rfl,rfl,rfl,rfl,rfl,rfl,rfl⟩
theorem find_fn (r:Rul) (S:List Fct) (hS:Strict S) (hS2:S.length≤4398046511104):∀ (n:Nat) (left:List Ltl),left.length=n→FindOk r S left
 | 0,left,h=>by rw [List.eq_nil_of_length_eq_zero h];exact find_nil r S
 | n + 1,left,h=>find_step r S hS hS2 left (fun h0=>by rw [h0] at h;cases h) fun i hi=>find_fn r S hS hS2 n _ (by rw [List.length_eraseIdx,if_pos hi];omega)
end Go.Proofs.YtapciiffpnociacGreat
namespace Go.Proofs.YtapciiffpnociacGreat
open Go Go.RowKit Go.Sort Go.Shelf
section
variable {β : Type}
def Held.val {X:Nat→Prop} {w:World} {enc:β→List D} (h:Held X w 1 enc):Value:=h.vs.headD undef
theorem Held.vs1 {X:Nat→Prop} {w:World} {enc:β→List D} (h:Held X w 1 enc):h.vs=[h.val]:=by
 have:=h.len
 unfold Held.val
 match hv:h.vs,this with
 | [v],_=>rfl
theorem sort1_heap {α:Type} [Inhabited α] {w:World} {g n:Nat} {os:Array Obj} {cur:Array Value} {e:TypeId} {fr:Nat × Nat} (enc:α→Value) (d:Array α) (hb:w.heap[g]? = some (.cells cur e fr)) :
  (sortWorld enc w g 0 n d os).heap[g]? = some (.cells (putCells enc 0 d cur) e fr):=by
 have hg:g < w.heap.size:=(Array.getElem?_eq_some_iff.1 hb).1
 unfold sortWorld
 rw [heap_grow_old _ _ (by simpa using hg)]
 simp [putRow,mapBlock,Sort.ahead,Array.getElem?_modify,hb,onCells]
theorem sort1_other {α:Type} [Inhabited α] {w:World} {g n:Nat} {os:Array Obj} (enc:α→Value) (d:Array α) {b:Nat} (hb:b < w.heap.size) (hne:b≠g) :
  (sortWorld enc w g 0 n d os).heap[b]? = w.heap[b]?:=by
 unfold sortWorld
 rw [heap_grow_old _ _ (by simpa using hb)]
 have:g≠b:=fun h=>hne h.symm
 simp [putRow,mapBlock,Sort.ahead,Array.getElem?_modify,this]
theorem sort1_size {α:Type} [Inhabited α] {w:World} {g n:Nat} {os:Array Obj} (enc:α→Value) (d:Array α):w.heap.size≤(sortWorld enc w g 0 n d os).heap.size:=by
 unfold sortWorld
 simp
theorem take_putCells1 {α:Type} [Inhabited α] (enc:α→Value) (cur:Array Value) (d:Array α) (h:d.size≤cur.size):(putCells enc 0 d cur).toList.take d.size=d.toList.map enc:=by
 apply List.ext_getElem?
 intro j
 by_cases hj:j < d.size
 ·rw [List.getElem?_take_of_lt hj,Array.getElem?_toList,List.getElem?_map,Array.getElem?_toList,Array.getElem?_eq_getElem hj]
  simp [putCells,hj,show j < cur.size by omega]
 ·rw [List.getElem?_take_eq_none (by omega),List.getElem?_eq_none (by simp;omega)]
variable {P : Program} {τ : List (Nat × TI)} {τok : TabOk P τ} {ρ : Ren}
theorem sort_row1 (L:SlLaysF.n6 P ρ) (enc:β→List D) (hes:∀ x,(enc x).length=1) (cf:β→β→Int) (hO:SWO (ltOf cf)) (g:Nat)
  (hc:∀ a b,FnP true P τ τok g ((enc a++enc b).map .d) (fun r=>r = .d (.int .i64 (cf a b)))) (te:TypeId) (l:List β) (hl:l.length < 4611686018427387904)
  {X:Nat→Prop} {e:Env} {w:World} {i:Nat} (hXo:∀ c,HB.owned e (i,.row te 1 (l.map enc))=some c→X c) (hXl:∀ b,X b→b < w.heap.size) (hrow:HRel X e w (i,.row te 1 (l.map enc))) :
  Calls P (ρ.f 6) #[e.η i,.func (.func g) #[] #[]] w fun en w'=>en = .returned (.tuple #[])∧w.heap.size≤w'.heap.size∧w'.os=w.os∧w'.tape=w.tape∧w'.output=w.output ∧
   (∀ c,c < w.heap.size→HB.owned e (i,.row te 1 (l.map enc))≠some c→w'.heap[c]? = w.heap[c]?)∧∃ l':List β,l'.Perm l∧l'.Pairwise (fun a b=>cf b a ≥ 0)∧HRel X e w' (i,.row te 1 (l'.map enc)):=by
 obtain⟨us,hown,hlen,hone2,hrep⟩:=hrow
 by_cases hne:l=[]
 ·subst hne
  obtain⟨p,cap,hv⟩:∃ p cap,e.η i = .slice p 0 cap:=by
   rcases hown.2 with ⟨hv,_⟩|⟨gb,cap,cur,hv,_⟩
   ·exact⟨_,_,hv⟩
   ·exact⟨_,_,hv⟩
  rw [hv]
  refine (AnyF.slices_SortFunc_none { L with } p cap _ w).mono ?_
  rintro en w' ⟨rfl,rfl⟩
  exact⟨rfl,Nat.le_refl _,rfl,rfl,rfl,fun _ _ _=>rfl,[],.refl _,.nil,us,hown,hlen,hone2,hrep⟩
 ·have hpos:0 < l.length:=List.length_pos_iff.2 hne
  have lm:(l.map enc).length=l.length:=List.length_map _
  obtain⟨hul,hcase⟩:=hown
  rw [lm] at hul hcase
  rcases hcase with ⟨_,h⟩|⟨gb,cap,cur,hv,_,hblk,hnc,hcm,hcs,htk⟩
  ·omega
  have hgb:gb < w.heap.size:=(Array.getElem?_eq_some_iff.1 hblk).1
  have howned:∀ (m:List (List D)),HB.owned e (i,.row te 1 m)=some gb:=fun m=>by simp [HB.owned,hv,Value.ownBlock]
  have hXg:X gb:=hXo gb (howned _)
  obtain⟨d,d1,d2⟩:=held_of (X:=X) (w:=w) (enc:=enc) hes l us hul hone2 (fun i hi j hj=>by
   obtain⟨v,q1,q2⟩:=hrep i (by rw [lm];exact hi) j (by simpa using hj)
   exact⟨v,q1,by simpa using q2⟩)
  have hdl:d.length=l.length:=by rw [← d1,List.length_map]
  haveI:Inhabited (Held X w 1 enc):=⟨d[0]'(by omega)⟩
  have hflat:∀ (q:List (Held X w 1 enc)),(q.map Held.vs).flatten=q.map Held.val:=by
   intro q
   induction q with
   | nil=>rfl
   | cons x q ih=>rw [List.map_cons,List.flatten_cons,ih,x.vs1];rfl
  have hF:d.map Held.val=us:=by rw [← hflat,d2]
  have hHold:Holds (Held.val (X:=X) (w:=w) (enc:=enc)) w gb 0 d.toArray:=by
   intro t ht
   have ht':t < l.length:=by simpa [hdl] using ht
   have hc1:cur[t]? = us[t]?:=by
    rw [← htk,List.getElem?_take,if_pos (by omega),Array.getElem?_toList]
   refine⟨?_,by simp [World.frozen?,hblk]⟩
   simp only [World.cell?,hblk,Nat.zero_add]
   simp only [Option.isSome_none,Bool.false_eq_true,if_false]
   rw [hc1,← hF,List.getElem?_map,getElem!_pos _ t ht]
   have:d[t]? = some d[t]:=List.getElem?_eq_getElem (by omega)
   rw [this]
   simp
  have hcmp:CmpLays1 P g #[] (Held.val (X:=X) (w:=w) (enc:=enc)) (fun x y=>cf x.x y.x) gb 0 d.toArray.size w:=by
   intro m os dk hdk x y
   generalize hW:sortWorld Held.val w gb 0 m dk os=W
   have hWs:w.heap.size≤W.heap.size:=hW▸sort1_size _ _
   have hWb:∀ b,b < w.heap.size→¬ X b→W.heap[b]? = w.heap[b]?:=fun b hb hx=>hW▸sort1_other _ _ hb fun h=>hx (h▸hXg)
   have hXW:∀ b,X b→b < W.heap.size:=fun b hb=>Nat.lt_of_lt_of_le (hXl b hb) hWs
   have hel:∀ z:Held X w 1 enc,RelL X e W ((enc z.x).map .d) [z.val]:=fun z=>by
    have:=relL_d (X:=X) (e:=e) (w:=W) (enc z.x) z.vs (by rw [z.len,hes]) fun j hj=>by
     obtain⟨v,q1,q2⟩:=z.rep j hj
     exact⟨v,q1,RepC.keep hWs hWb (fun _ _ h=>h) q2⟩
    rw [z.vs1] at this
    exact this
   have hk:=(hc x.x y.x).2 X (e.ren id 0) W [x.val,y.val] ⟨fun _=>Iff.rfl,by simp,by simp,by simp [ownedL],by simp [ownedL],rfl,rfl,rfl,fun _=>Nat.le_refl _,Nat.le_refl _,fun _ _ _=>rfl,fun b hb=>⟨hXW b hb,by simp [ownedL]⟩,fun j hj=>absurd hj (Nat.not_lt_zero j),fun j hj=>absurd hj (Nat.not_lt_zero j)⟩ ?_
   ·refine hk.mono ?_
    rintro en w' ⟨k',r,H',e',v,⟨rfl,hlr,rfl⟩,rfl,hH2,hrel⟩
    refine⟨?_,grown_eq hH2.os hH2.tape hH2.output (hH2.drawn rfl) hH2.size fun b hb=>hH2.block b hb (by simp [ownedL])⟩
    cases hrel
    rfl
   ·have hXX:∀ b,Ctx.X ⟨P,τ,τok,X,W,fun b=>b∈ownedL (e.ren id 0) [],0,0,(e.ren id 0).an,none,noPan,true,true⟩ (e.ren id 0) [] b↔X b:=fun b=>by unfold Ctx.X;simp [ownedL]
    refine RelL.keep (Nat.le_refl _) (fun _ _ _=>rfl) (fun b _ h=>(hXX b).1 h) _ _ (X:=X) (w:=W) ?_
    rw [List.map_append]
    exact RelL.append _ _ _ _ (RelL.env _ _ (lowL_d _) (hel x)) (RelL.env _ _ (lowL_d _) (hel y))
  have hOα:SWO (ltOf fun x y:Held X w 1 enc=>cf x.x y.x):=⟨fun x=>hO.irrefl x.x,fun x y z=>hO.trans x.x y.x z.x,fun x y z=>hO.ntrans x.x y.x z.x⟩
  have eg:∀ args w,(callFunc g args).run P w = .ok (.enter g args) w:=run_call ((if h:l.length=0 then by omega else (hc (l[0]'hpos) (l[0]'hpos)).1))
  have hone:OneCell (Held.val (X:=X) (w:=w) (enc:=enc)):=fun x=>x.one _ (by rw [x.vs1];simp)
  have hs:=Any.slices_SortFunc L (Held.val (X:=X) (w:=w) (enc:=enc)) hone (fun x y=>cf x.x y.x) hOα g #[] gb 0 cap d.toArray w eg hcmp hHold hgb (by simpa [hdl] using hl)
  have hsz:d.toArray.size=l.length:=by simpa using hdl
  rw [hsz] at hs
  rw [hv]
  refine hs.mono ?_
  rintro en w' ⟨rfl,d',m,os,hp,hso,rfl⟩
  have hd's:d'.size=l.length:=hp.1.trans hsz
  have hperm:d'.toList.Perm d:=by
   have:=hp.2.2
   rwa [show d'.extract 0 l.length=d' by rw [← hd's];simp,show d.toArray.extract 0 l.length=d.toArray by rw [← hsz];simp] at this
  refine⟨rfl,sort1_size _ _,rfl,rfl,rfl,fun c hc hne=>sort1_other _ _ hc fun h=>hne (by rw [howned,h]),d'.toList.map Held.x,d1▸hperm.map _,?_,?_⟩
  ·rw [List.pairwise_map,List.pairwise_iff_getElem]
   intro i j hi hj hij
   have h1:=hso i j (Nat.zero_le _) hij (by simpa [hd's] using hj)
   rw [getElem!_pos d' i (by simpa using hi),getElem!_pos d' j (by simpa using hj)] at h1
   have h2:¬ cf d'[j].x d'[i].x < 0:=of_decide_eq_false h1
   simp only [Array.getElem_toList]
   omega
  ·have hl':(d'.toList.map Held.x).length=l.length:=by simp [hd's]
   refine⟨d'.toList.map Held.val,⟨?_,.inr ⟨gb,cap,_,hv▸?_,Nat.zero_le _,sort1_heap _ _ hblk,?_,hcm,by simp [putCells,hcs],?_⟩⟩,?_,?_,?_⟩
   ·simp
   ·simp [hd's]
   ·simp [hd's];exact hnc
   ·have:(d'.toList.map Held.x).length * 1=d'.size:=by simp
    rw [List.length_map,this]
    exact take_putCells1 _ _ _ (by rw [hd's,hcs];omega)
   ·intro j hj;rw [List.getElem_map];exact hes _
   ·intro v hv'
    obtain⟨z,_,rfl⟩:=List.mem_map.1 hv'
    exact hone z
   ·intro i' hi' j hj
    rw [List.length_map,hl'] at hi'
    have hz:i' < d'.size:=by omega
    simp only [List.getElem_map,Array.getElem_toList] at hj ⊢
    have hj0:j=0:=by have:=hes (d'[i'].x);omega
    subst hj0
    obtain⟨v,q1,q2⟩:=d'[i'].rep 0 (by simpa using hj)
    refine⟨v,?_,RepC.keep (sort1_size _ _) (fun b hb hx=>sort1_other _ _ hb fun h=>hx (h▸hXg)) (fun b _ h=>h) q2⟩
    rw [List.getElem?_map,Array.getElem?_toList,Nat.mul_one,Nat.add_zero,Array.getElem?_eq_getElem hz]
    rw [d'[i'].vs1] at q1
    simpa using q1
end
open Go Go.RowKit Go.Sort
theorem swoL:Go.Sort.SWO (ltOf ordL) where
 irrefl x:=by unfold ltOf;rw [ordL_self];rfl
 trans x y z h g:=decide_eq_true (ordL_trans (of_decide_eq_true h) (of_decide_eq_true g))
 ntrans x y z h g:=by
  have h:=of_decide_eq_false h
  have g:=of_decide_eq_false g
  refine decide_eq_false ?_
  have:=ordL_le_trans (a:=z) (b:=y) (c:=x) (by rw [ordL_anti];omega) (by rw [ordL_anti];omega)
  rw [ordL_anti] at this
  omega
theorem sortWays_c:SortC Tryz.prog 87 88 22 1 encW ordL:=fun l hl _ _ _ _ h1 h2 h3 =>
 sort_row1 (ρ:=Tryz.sortWays_ren) Tryz.sortWays encW (fun _=>rfl) ordL swoL 88 (fun a b=>compareInts_fnD true a b) 22 l hl h1 h2 h3
attribute [local irreducible] DW DS DL DQ Ev FnOk FnP thenD inBlockD DT
set_option maxHeartbeats 8000000 in
theorem equalI_fn (a b:List Int):Fn 90 [.d (.slice 1 (a.map encI)),.d (.slice 1 (b.map encI))] (fun r=>r = .d (.bool (decide (a=b)))):=by
 refine fnp_enter' _ Tryz.func90 rfl rfl (by kernel_rfl) ?_
 intro O w0 E0 β0
 have la:(a.map encI).length=a.length:=List.length_map _
 have lb:(b.map encI).length=b.length:=List.length_map _
 refine dw_len (t:=0) rfl (fun hk=>?_)
 by_cases hl:a.length=b.length
 ·repeat' (first|refine z0 ?_|apply ds_nil|apply dw_seq2|refine z16 ?_|apply dw_block|apply dw_skip|apply dw_ret|apply thenD_n|apply thenD_r|(refine z23 ?_ ?_ <;> intro hg)|fail)
  all_goals try (exfalso;omega)
  refine ds_loop (ι:=Nat) (fun i=>⟨0,[(0,.d (.slice 1 (a.map encI))),(1,.d (.slice 1 (b.map encI))),(12,.d (.int .i64 a.length)),(13,.d (.int .i64 i))],[]⟩)
   (fun i=>i≤a.length∧a.take i=b.take i) (fun i=>a.length - i) 0 ⟨Nat.zero_le _,rfl⟩ (ent_ren id ⟨rfl,rfl,by rw [← la];rfl,rfl,trivial⟩ trivial rfl rfl rfl rfl rfl rfl) ?_
  rintro i ⟨g1,g2⟩
  dsimp only at g1 g2 ⊢
  by_cases hi:i < a.length
  ·have hb:i < b.length:=by omega
   by_cases he:a[i]=b[i]
   ·repeat' (first|refine z0 ?_|apply ds_nil|refine z5 ?_|refine z10 ?_|apply dw_seq2|refine z16 ?_|refine z20 ?_|apply dw_block|apply dw_skip|apply dw_exit|apply dw_ret|apply thenD_n|apply thenD_e|apply thenD_r|apply inB_n|apply inB_r|refine z17 ?_|(refine z23 ?_ ?_ <;> intro hg)|fail)
    all_goals try (exfalso;omega)
    all_goals try (exfalso;exact hg he)
    exact⟨i + 1,⟨hi,by rw [List.take_succ_eq_append_getElem hi,List.take_succ_eq_append_getElem hb,g2,he]⟩,ent_ren id ⟨rfl,rfl,rfl,rfl,trivial⟩ trivial rfl rfl rfl rfl rfl rfl,by omega⟩
   ·have hne:a≠b:=fun h=>he (by subst h;rfl)
    rw [decide_eq_false hne]
    repeat' (first|refine z0 ?_|apply ds_nil|refine z5 ?_|refine z10 ?_|apply dw_seq2|refine z16 ?_|refine z20 ?_|apply dw_block|apply dw_skip|apply dw_exit|apply dw_ret|apply thenD_n|apply thenD_e|apply thenD_r|apply inB_n|apply inB_r|refine z17 ?_|(refine z23 ?_ ?_ <;> intro hg)|fail)
    all_goals try (exfalso;omega)
    all_goals exact⟨.inl rfl,_,rfl,rfl,rfl⟩
  ·rw [List.take_of_length_le (by omega),List.take_of_length_le (by omega)] at g2
   rw [decide_eq_true g2]
   repeat' (first|refine z0 ?_|apply ds_nil|refine z5 ?_|refine z10 ?_|apply dw_seq2|refine z16 ?_|refine z20 ?_|apply dw_block|apply dw_skip|apply dw_exit|apply dw_ret|apply thenD_n|apply thenD_e|apply thenD_r|apply inB_n|apply inB_r|refine z17 ?_|(refine z23 ?_ ?_ <;> intro hg)|fail)
   all_goals try (exfalso;omega)
   all_goals exact⟨.inl rfl,_,rfl,rfl,rfl⟩
 ·have hne:a≠b:=fun h=>hl (by rw [h])
  rw [decide_eq_false hne]
  repeat' (first|refine z0 ?_|apply ds_nil|apply dw_seq2|refine z16 ?_|apply dw_block|apply dw_skip|apply dw_ret|apply thenD_n|apply thenD_r|(refine z23 ?_ ?_ <;> intro hg)|fail)
  all_goals try (exfalso;omega)
  all_goals exact⟨.inl rfl,_,rfl,rfl,rfl⟩
set_option maxHeartbeats 8000000 in
theorem compactW_fn (l:List (List Int)) (hn:l.Nodup) (hl:l.length≤1000000):FnOk false Tryz.prog tab tab_ok 89 [.row 0,.fn 90 []] 0 1 [(0,.row 22 1 (l.map encW))] (fun _ r H=>r = .d (.slice 1 (l.map encW))∧H=[]):=by
 refine fn_enterF _ Tryz.func89 rfl rfl (by kernel_rfl) ?_
 intro O w0 E0 β0
 have ll:(l.map encW).length=l.length:=List.length_map _
 by_cases h2:l.length < 2
 ·repeat' (first|refine z0 ?_|apply ds_nil|apply dw_seq2|refine z16 ?_|apply dw_block|apply dw_skip|apply thenD_n|(refine z23 ?_ ?_ <;> intro hg)|fail)
  all_goals try (exfalso;omega)
  refine dw_ent (ent_seal 4 rfl rfl rfl) ?_
  repeat' (first|apply dw_ret|apply thenD_r)
  exact⟨.inl rfl,_,rfl,0,[],trivial,rfl,rfl,rfl,rfl,rfl,rfl⟩
 ·repeat' (first|refine z0 ?_|apply ds_nil|apply dw_seq2|refine z16 ?_|apply dw_block|apply dw_skip|apply thenD_n|(refine z23 ?_ ?_ <;> intro hg)|fail)
  all_goals try (exfalso;omega)
  refine ds_loop (ι:=Nat) (fun i=>⟨1,[(0,.row 0),(1,.fn 90 []),(5,.d (.int .i64 i))],[(0,.row 22 1 (l.map encW))]⟩)
   (fun i=>1≤i∧i≤l.length) (fun i=>l.length - i) 1 ⟨by omega,by omega⟩ (ent_ren id ⟨rfl,rfl,rfl,trivial⟩ ⟨rfl,trivial⟩ rfl rfl rfl rfl rfl rfl) ?_
  rintro i ⟨g0,g1⟩
  by_cases hi:i < l.length
  ·have hne:l[i]≠l[i - 1]'(by omega):=fun h=>by
    have:=(List.getElem_inj hn).1 h
    omega
   have hs:Fn 90 [.d (.slice 1 ((l[i]).map encI)),.d (.slice 1 ((l[((i:Int) - 1).toNat]'(by omega)).map encI))] (fun r=>r = .d (.bool false)):=by
    have e:((i:Int) - 1).toNat=i - 1:=by omega
    simp only [e]
    have h:=equalI_fn l[i] (l[i - 1]'(by omega))
    rw [decide_eq_false hne] at h
    exact h
   repeat' (first|refine z0 ?_|apply ds_nil|refine z5 ?_|refine z10 ?_|apply dw_seq2|refine z16 ?_|refine z20 ?_|apply dw_block|apply dw_skip|apply dw_exit|refine z19 ?_|apply thenD_n|apply thenD_e|apply inB_n|refine z17 ?_|(apply dt_callV;exact rfl;exact rfl;exact rfl;exact rfl;apply hs;exact rfl;(exact rfl);exact rfl;exact rfl;exact⟨_,rfl⟩;rintro _ rfl)|(refine z23 ?_ ?_ <;> intro hg)|fail)
   all_goals try (exfalso;omega)
   exact⟨i + 1,⟨by omega,by omega⟩,ent_ren id ⟨rfl,rfl,rfl,trivial⟩ ⟨rfl,trivial⟩ rfl rfl rfl rfl rfl rfl,by show l.length - (i + 1) < l.length - i;omega⟩
  ·repeat' (first|refine z0 ?_|apply ds_nil|refine z5 ?_|apply dw_seq2|refine z16 ?_|refine z20 ?_|apply dw_block|apply dw_skip|apply dw_exit|apply thenD_n|apply thenD_e|refine z17 ?_|(refine z23 ?_ ?_ <;> intro hg)|fail)
   all_goals try (exfalso;omega)
   refine dw_ent (ent_seal 4 rfl rfl rfl) ?_
   repeat' (apply dw_ret)
   exact⟨.inl rfl,_,rfl,0,[],trivial,rfl,rfl,rfl,rfl,rfl,rfl⟩
def minI (n y:Int):Int:=if y < n then y else n
def maxI (n y:Int):Int:=if n < y then y else n
def minL:List Int→Int
 | []=>0
 | x::l=>l.foldl minI x
def maxL:List Int→Int
 | []=>0
 | x::l=>l.foldl maxI x
def stepN (fold:Int) (st:Int × Int) (x:Int):Int × Int :=
 (if fold=1 then st.2 + 1 else if fold=2 then st.1 + x else if st.2 + 1=1∨(fold=3∧x < st.1)∨(fold=4∧st.1 < x) then x else st.1,st.2 + 1)
def foldN (fold:Int) (l:List Int):Int:=(l.foldl (stepN fold) (0,0)).1
def valP (fold:Int) (l:List Int):Int:=if fold=1 then l.length else if fold=3 then minL l else if fold=4 then maxL l else l.sum
def okP (fold:Int) (l:List Int):Bool:=if fold=1∨fold=3∨fold=4 then true else numB l.sum
theorem stepN_1:∀ (l:List Int) (n m:Int),l≠[]→(l.foldl (stepN 1) (n,m)).1=m + l.length
 | [x],n,m,_=>by simp [stepN]
 | x::y::l,n,m,_=>by
  rw [List.foldl_cons,show stepN 1 (n,m) x=(m + 1,m + 1) by simp [stepN],stepN_1 (y::l) _ _ (by simp)]
  simp only [List.length_cons];omega
theorem stepN_2:∀ (l:List Int) (n m:Int),(l.foldl (stepN 2) (n,m)).1=n + l.sum
 | [],n,m=>by simp
 | x::l,n,m=>by
  rw [List.foldl_cons,show stepN 2 (n,m) x=(n + x,m + 1) by simp [stepN],stepN_2 l,List.sum_cons];omega
theorem stepN_3:∀ (l:List Int) (n m:Int),1≤m→(l.foldl (stepN 3) (n,m)).1=l.foldl minI n
 | [],n,m,_=>rfl
 | x::l,n,m,hm=>by
  have:stepN 3 (n,m) x=(minI n x,m + 1):=by
   unfold stepN minI
   have:¬ (m + 1=1):=by omega
   simp [this]
  rw [List.foldl_cons,this,stepN_3 l _ _ (by omega),List.foldl_cons]
theorem stepN_4:∀ (l:List Int) (n m:Int),1≤m→(l.foldl (stepN 4) (n,m)).1=l.foldl maxI n
 | [],n,m,_=>rfl
 | x::l,n,m,hm=>by
  have:stepN 4 (n,m) x=(maxI n x,m + 1):=by
   unfold stepN maxI
   have:¬ (m + 1=1):=by omega
   simp [this]
  rw [List.foldl_cons,this,stepN_4 l _ _ (by omega),List.foldl_cons]
theorem minI_in {P:Int→Prop}:∀ (l:List Int) (n:Int),P n→(∀ x∈l,P x)→P (l.foldl minI n)
 | [],_,h,_=>h
 | x::l,n,h,hl=>by
  rw [List.foldl_cons]
  refine minI_in l _ ?_ fun y hy=>hl y (List.mem_cons_of_mem _ hy)
  unfold minI;split
  ·exact hl x (List.mem_cons_self ..)
  ·exact h
theorem maxI_in {P:Int→Prop}:∀ (l:List Int) (n:Int),P n→(∀ x∈l,P x)→P (l.foldl maxI n)
 | [],_,h,_=>h
 | x::l,n,h,hl=>by
  rw [List.foldl_cons]
  refine maxI_in l _ ?_ fun y hy=>hl y (List.mem_cons_of_mem _ hy)
  unfold maxI;split
  ·exact hl x (List.mem_cons_self ..)
  ·exact h
theorem numB_of {n:Int} (h:-1000000≤n∧n≤1000000):numB n=true:=by unfold numB inR;simp;omega
theorem fold_same {fold:Int} {l:List Int} (hf:fold=1∨fold=2∨fold=3∨fold=4) (hl:l≠[]) (hn:∀ x∈l,-1000000≤x∧x≤1000000) (hlen:l.length≤1000000) :
  foldN fold l=valP fold l∧numB (foldN fold l)=okP fold l:=by
 have key:foldN fold l=valP fold l:=by
  unfold foldN valP
  rcases hf with rfl|rfl|rfl|rfl
  ·rw [stepN_1 l _ _ hl];simp
  ·rw [stepN_2];simp
  ·obtain⟨x,l,rfl⟩:=List.exists_cons_of_ne_nil hl
   rw [List.foldl_cons,show stepN 3 (0,0) x=(x,1) by simp [stepN],stepN_3 _ _ _ (by omega)]
   simp [minL]
  ·obtain⟨x,l,rfl⟩:=List.exists_cons_of_ne_nil hl
   rw [List.foldl_cons,show stepN 4 (0,0) x=(x,1) by simp [stepN],stepN_4 _ _ _ (by omega)]
   simp [maxL]
 refine⟨key,?_⟩
 rw [key]
 unfold valP okP
 rcases hf with rfl|rfl|rfl|rfl
 ·simp only [if_true,true_or];exact numB_of (by omega)
 ·simp
 ·obtain⟨x,l,rfl⟩:=List.exists_cons_of_ne_nil hl
  simp only [show ¬ ((3:Int)=1) by omega,if_false,if_true,true_or,or_true]
  exact numB_of (minI_in (P:=fun z=>-1000000≤z∧z≤1000000) l x (hn x (List.mem_cons_self ..)) fun y hy=>hn y (List.mem_cons_of_mem _ hy))
 ·obtain⟨x,l,rfl⟩:=List.exists_cons_of_ne_nil hl
  simp only [show ¬ ((4:Int)=1) by omega,show ¬ ((4:Int)=3) by omega,if_false,if_true,or_true]
  exact numB_of (maxI_in (P:=fun z=>-1000000≤z∧z≤1000000) l x (hn x (List.mem_cons_self ..)) fun y hy=>hn y (List.mem_cons_of_mem _ hy))
abbrev Gr:=List Int × List Int
def grpL (ws:List (List Int × Int)) (p:List Int):List Int:=(ws.filter fun w=>decide (w.1=p)).map (·.2)
def addG (gs:List Gr) (w:List Int × Int):List Gr:=match gs[gs.findIdx fun g=>decide (g.1=w.1)]? with
 | some g=>gs.set (gs.findIdx fun g=>decide (g.1=w.1)) (g.1,g.2++[w.2])
 | none=>gs++[(w.1,[w.2])]
def groupsL (ws:List (List Int × Int)):List Gr:=ws.foldl addG []
structure InvG (gs:List Gr) (ws:List (List Int × Int)):Prop where
 uniq:∀ (j k:Nat) (g h:Gr),gs[j]? = some g→gs[k]? = some h→g.1=h.1→j=k
 vals:∀ g∈gs,g.2=grpL ws g.1
 here:∀ g∈gs,∃ w∈ws,w.1=g.1
 all:∀ w∈ws,∃ g∈gs,g.1=w.1
theorem grpL_snoc (ws:List (List Int × Int)) (w:List Int × Int) (p:List Int):grpL (ws++[w]) p=grpL ws p++if w.1=p then [w.2] else []:=by
 unfold grpL
 rw [List.filter_append,List.map_append]
 congr 1
 by_cases h:w.1=p
 ·simp [h]
 ·simp [h]
theorem grpL_none {ws:List (List Int × Int)} {p:List Int} (h:∀ w∈ws,w.1≠p):grpL ws p=[]:=by
 unfold grpL
 rw [List.filter_eq_nil_iff.2 fun w hw=>by simpa using h w hw];rfl
theorem addG_inv {gs:List Gr} {ws:List (List Int × Int)} {w:List Int × Int} (h:InvG gs ws):InvG (addG gs w) (ws++[w]):=by
 unfold addG
 cases hx:gs[gs.findIdx fun g=>decide (g.1=w.1)]? with
 | none =>
  have hn:∀ g∈gs,g.1≠w.1:=by
   intro g hg he
   have:=List.findIdx_lt_length_of_exists (xs:=gs) (p:=fun g=>decide (g.1=w.1)) ⟨g,hg,decide_eq_true he⟩
   rw [List.getElem?_eq_getElem this] at hx;cases hx
  refine⟨fun j k g g' hj hk he=>?_,fun g hg=>?_,fun g hg=>?_,fun x hx=>?_⟩
  ·rw [List.getElem?_append] at hj hk
   by_cases h1:j < gs.length <;> by_cases h2:k < gs.length
   ·rw [if_pos h1] at hj;rw [if_pos h2] at hk;exact h.uniq j k g g' hj hk he
   ·rw [if_pos h1] at hj;rw [if_neg h2] at hk
    have hg':g' = (w.1,[w.2]):=by
     by_cases h3:k - gs.length=0
     ·rw [h3] at hk;simpa using hk.symm
     ·rw [List.getElem?_eq_none (by simp;omega)] at hk;cases hk
    rw [hg'] at he
    exact absurd he (hn g (List.mem_of_getElem? hj))
   ·rw [if_neg h1] at hj;rw [if_pos h2] at hk
    have hg':g=(w.1,[w.2]):=by
     by_cases h3:j - gs.length=0
     ·rw [h3] at hj;simpa using hj.symm
     ·rw [List.getElem?_eq_none (by simp;omega)] at hj;cases hj
    rw [hg'] at he
    exact absurd he.symm (hn g' (List.mem_of_getElem? hk))
   ·rw [if_neg h1] at hj;rw [if_neg h2] at hk
    have h3:j - gs.length=0:=by
     apply Classical.byContradiction;intro h3
     rw [List.getElem?_eq_none (by simp;omega)] at hj;cases hj
    have h4:k - gs.length=0:=by
     apply Classical.byContradiction;intro h4
     rw [List.getElem?_eq_none (by simp;omega)] at hk;cases hk
    omega
  ·rw [grpL_snoc]
   rcases List.mem_append.1 hg with hg|hg
   ·rw [if_neg (Ne.symm (hn g hg)),List.append_nil];exact h.vals g hg
   ·rw [List.mem_singleton] at hg;subst hg
    rw [if_pos rfl,grpL_none fun x hx he=>?_];· rfl
    obtain⟨g,hg,hge⟩:=h.all x hx
    exact hn g hg (hge.trans he)
  ·rcases List.mem_append.1 hg with hg|hg
   ·obtain⟨x,h1,h2⟩:=h.here g hg;exact⟨x,List.mem_append_left _ h1,h2⟩
   ·rw [List.mem_singleton] at hg;subst hg;exact⟨w,List.mem_append_right _ (by simp),rfl⟩
  ·rcases List.mem_append.1 hx with hx|hx
   ·obtain⟨g,h1,h2⟩:=h.all x hx;exact⟨g,List.mem_append_left _ h1,h2⟩
   ·rw [List.mem_singleton] at hx;subst hx;exact⟨_,List.mem_append_right _ (List.mem_singleton.2 rfl),rfl⟩
 | some g0 =>
  obtain⟨hi,hg0⟩:=List.getElem?_eq_some_iff.1 hx
  have hk0:g0.1=w.1:=by
   have:=List.findIdx_getElem (xs:=gs) (p:=fun g=>decide (g.1=w.1)) (w:=hi)
   rw [hg0] at this
   exact of_decide_eq_true this
  simp only
  generalize gs.findIdx (fun g=>decide (g.1=w.1))=i at hx hi hg0
  have hget:∀ (j:Nat) (g:Gr),(gs.set i (g0.1,g0.2++[w.2]))[j]? = some g→∃ g',gs[j]? = some g'∧g.1=g'.1∧((j=i∧g=(g0.1,g0.2++[w.2]))∨(j≠i∧g=g')):=by
   intro j g hj
   by_cases hq:i=j
   ·subst hq
    rw [List.getElem?_set_self hi] at hj
    cases hj
    exact⟨g0,hx,rfl,.inl ⟨rfl,rfl⟩⟩
   ·rw [List.getElem?_set_ne hq] at hj
    exact⟨g,hj,rfl,.inr ⟨Ne.symm hq,rfl⟩⟩
  refine⟨fun j k g g' hj hk he=>?_,fun g hg=>?_,fun g hg=>?_,fun x hx'=>?_⟩
  ·obtain⟨a,a1,a2,_⟩:=hget j g hj
   obtain⟨b,b1,b2,_⟩:=hget k g' hk
   exact h.uniq j k a b a1 b1 (a2.symm.trans (he.trans b2))
  ·obtain⟨j,hj⟩:=List.getElem?_of_mem hg
   obtain⟨a,a1,a2,a3⟩:=hget j g hj
   rw [grpL_snoc]
   rcases a3 with ⟨rfl,rfl⟩|⟨a3,rfl⟩
   ·rw [if_pos hk0.symm]
    simp only
    rw [h.vals g0 (List.mem_of_getElem? hx)]
   ·rw [if_neg fun he=>a3 (h.uniq j i g g0 a1 hx (he.symm.trans hk0.symm)),List.append_nil]
    exact h.vals g (List.mem_of_getElem? a1)
  ·obtain⟨j,hj⟩:=List.getElem?_of_mem hg
   obtain⟨a,a1,a2,_⟩:=hget j g hj
   obtain⟨x,h1,h2⟩:=h.here a (List.mem_of_getElem? a1)
   exact⟨x,List.mem_append_left _ h1,h2.trans a2.symm⟩
  ·have hmem:∀ a∈gs,∃ g∈gs.set i (g0.1,g0.2++[w.2]),g.1=a.1:=by
    intro a ha
    obtain⟨j,hj⟩:=List.getElem?_of_mem ha
    by_cases hq:i=j
    ·subst hq
     rw [hx] at hj;cases hj
     exact⟨_,List.mem_of_getElem? (List.getElem?_set_self hi),rfl⟩
    ·exact⟨a,List.mem_of_getElem? ((List.getElem?_set_ne hq).trans hj),rfl⟩
   rcases List.mem_append.1 hx' with hx'|hx'
   ·obtain⟨a,h1,h2⟩:=h.all x hx'
    obtain⟨g,k1,k2⟩:=hmem a h1
    exact⟨g,k1,k2.trans h2⟩
   ·rw [List.mem_singleton] at hx';subst hx'
    obtain⟨g,k1,k2⟩:=hmem g0 (List.mem_of_getElem? hx)
    exact⟨g,k1,k2.trans hk0⟩
theorem groups_inv':∀ (ws vs:List (List Int × Int)) (gs:List Gr),InvG gs vs→InvG (ws.foldl addG gs) (vs++ws)
 | [],vs,gs,h=>by rw [List.append_nil];exact h
 | w::ws,vs,gs,h=>by
  have:=groups_inv' ws (vs++[w]) (addG gs w) (addG_inv h)
  rw [List.append_assoc] at this
  exact this
theorem groups_inv (ws:List (List Int × Int)):InvG (groupsL ws) ws:=by
 have:=groups_inv' ws [] [] ⟨fun _ _ _ _ h=>by simp at h,fun _ h=>by simp at h,fun _ h=>by simp at h,fun _ h=>by simp at h⟩
 rw [List.nil_append] at this
 exact this
def aW (r:Rul) (w:List Int):List Int:=r.terms.map (vA w)
def pW (r:Rul) (w:List Int):List Int × Int:=((aW r w).take (r.terms.length - 1),(aW r w).getD (r.terms.length - 1) 0)
def headsD (r:Rul) (ways:List (List Int)):List Fct:=if r.fold=0 then ways.map fun w=>⟨r.pred,aW r w⟩
 else ways.filterMap fun w=>if numB (foldN r.fold (grpL (ways.map (pW r)) (pW r w).1)) then some ⟨r.pred,(pW r w).1++[foldN r.fold (grpL (ways.map (pW r)) (pW r w).1)]⟩ else none
def headsP (r:Rul) (ways:List (List Int)):List Fct:=if r.fold=0 then ways.map fun w=>⟨r.pred,aW r w⟩
 else (groupsL (ways.map (pW r))).filterMap fun g=>if okP r.fold g.2 then some ⟨r.pred,g.1++[valP r.fold g.2]⟩ else none
theorem heads_mem {r:Rul} {ways:List (List Int)} (hf:0≤r.fold∧r.fold≤4) (hn:∀ w∈ways,-1000000≤(pW r w).2∧(pW r w).2≤1000000) (hlen:ways.length≤1000000):∀ x,x∈headsP r ways↔x∈headsD r ways:=by
 intro x
 unfold headsP headsD
 by_cases h0:r.fold=0
 ·rw [if_pos h0,if_pos h0]
 ·rw [if_neg h0,if_neg h0]
  have hI:=groups_inv (ways.map (pW r))
  have hfs:∀ p,(∃ w∈ways.map (pW r),w.1=p)→foldN r.fold (grpL (ways.map (pW r)) p)=valP r.fold (grpL (ways.map (pW r)) p)∧numB (foldN r.fold (grpL (ways.map (pW r)) p))=okP r.fold (grpL (ways.map (pW r)) p):=by
   rintro p ⟨w,hw,rfl⟩
   refine fold_same (by omega) ?_ ?_ ?_
   ·unfold grpL
    intro hc
    have:w.2∈((ways.map (pW r)).filter fun z=>decide (z.1=w.1)).map (·.2):=List.mem_map.2 ⟨w,List.mem_filter.2 ⟨hw,by simp⟩,rfl⟩
    rw [hc] at this;simp at this
   ·intro y hy
    obtain⟨z,hz,rfl⟩:=List.mem_map.1 hy
    obtain⟨u,hu,rfl⟩:=List.mem_map.1 (List.mem_filter.1 hz).1
    exact hn u hu
   ·unfold grpL
    rw [List.length_map]
    refine Nat.le_trans (List.length_filter_le _ _) ?_
    rw [List.length_map];exact hlen
  rw [List.mem_filterMap,List.mem_filterMap]
  constructor
  ·rintro⟨g,hg,hx⟩
   obtain⟨w,hw,hwg⟩:=hI.here g hg
   obtain⟨u,hu,rfl⟩:=List.mem_map.1 hw
   obtain⟨f1,f2⟩:=hfs g.1 ⟨_,hw,hwg⟩
   refine⟨u,hu,?_⟩
   rw [hwg,f2,f1,← hI.vals g hg];exact hx
  ·rintro⟨u,hu,hx⟩
   obtain⟨g,hg,hwg⟩:=hI.all (pW r u) (List.mem_map_of_mem hu)
   obtain⟨f1,f2⟩:=hfs g.1 ⟨_,List.mem_map_of_mem hu,hwg.symm⟩
   refine⟨g,hg,?_⟩
   rw [hI.vals g hg,← f1,← f2,hwg];exact hx
theorem heads_set {r:Rul} {ways:List (List Int)} (hf:0≤r.fold∧r.fold≤4) (hn:∀ w∈ways,-1000000≤(pW r w).2∧(pW r w).2≤1000000) (hlen:ways.length≤1000000):setF' (headsP r ways)=setF' (headsD r ways) :=
 strict_ext (setF_spec _).1 (setF_spec _).1 fun x=>by rw [(setF_spec _).2,(setF_spec _).2,heads_mem hf hn hlen]
open Go Go.RowKit
def encG (g:Gr):List D:=[.ptr [.slice 1 (g.1.map encI),.slice 1 (g.2.map encI)]]
def elG (g:Gr):SV:=.d (.ptr [.slice 1 (g.1.map encI),.slice 1 (g.2.map encI)])
theorem ptr_pd {X e w} {ds:List D} {v:Value} (h:RepC X w v (.ptr ds)):Rel X e w (.pd ds) v:=by
 cases h with
 | ptr c hX hb hcell hrep=>exact⟨_,_,rfl,hb,hX,fun j hj=>⟨c j,hcell j hj,hrep j hj⟩⟩
theorem ent_pd {Γ:Ctx} {k:Nat} {L:Sl} {H:Hp} (t:Nat) {ds:List D} (hL:L.get t = .d (.ptr ds)):Ent Γ k L H k ((t,.pd ds)::L) H:=by
 intro e a w m
 refine⟨e,⟨m.toHeap,m.defers,m.len,fun t'=>?_⟩⟩
 rw [Sl.get_cons]
 split
 ·rename_i ht
  subst ht
  have hs:=m.slot t
  rw [hL] at hs
  exact ptr_pd hs
 ·exact m.slot t'
set_option maxHeartbeats 8000000 in
theorem made1_fn (a:List Int) (last:Nat) (ha:last≤a.length) (g:Gr):Fn 95 ([elG g]++[.pd [.slice 1 (a.map encI)],.pd [.int .i64 last]]) (fun r=>r = .d (.bool (decide (g.1=a.take last)))):=by
 refine fnp_enter' _ Tryz.func95 rfl rfl (by kernel_rfl) ?_
 intro O w0 E0 β0
 have la:(a.map encI).length=a.length:=List.length_map _
 have w1:=equalI_fn g.1 (a.take last)
 refine dw_ent (ent_pd 0 rfl) ?_
 repeat' (first|refine z0 ?_|apply ds_nil|refine z5 ?_|refine z10 ?_|apply dw_seq2|refine z16 ?_|refine z20 ?_|apply dw_ret|apply thenD_n|refine z22 ?_ (hc:=by apply w1)|fail)
 exact ret_b rfl rfl
set_option maxHeartbeats 8000000 in
theorem indexG_fn {f:FuncId} {caps:List SV} (p:Gr→Bool) (l:List (Gr)) (hcap:SV.lowL 0 caps=true) (hp:∀ x∈l,Fn f (elG x::caps) (fun r=>r = .d (.bool (p x)))):Fn 94 [.d (.slice 1 (l.map encG)),.fn f caps] (fun r=>r = .d (.int .i64 (idxF p l))):=by
 refine fnp_enter' _ Tryz.func94 rfl rfl (by kernel_rfl) ?_
 intro O w0 E0 β0
 refine dw_len_map (t:=0) rfl fun hb=>?_
 repeat' (first|refine z0 ?_|apply ds_nil|apply dw_seq2|refine z16 ?_|apply dw_block|apply thenD_n)
 refine ds_loop (ι:=Nat) (fun i=>⟨0,[(0,.d (.slice 1 (l.map encG))),(1,.fn f caps),(7,.d (.int .i64 l.length)),(8,.d (.int .i64 i))],[]⟩)
  (fun i=>i≤l.length∧∀ j (hj:j < l.length),j < i→p l[j]=false) (fun i=>l.length - i) 0 ⟨Nat.zero_le _,fun j _ h=>absurd h (Nat.not_lt_zero j)⟩
  (ent_ren id ⟨rfl,congrArg (SV.fn f) (SV.renL_id caps).symm,by simp;rfl,rfl,trivial⟩ trivial (by simp [Sl.low,SV.low,hcap]) rfl rfl rfl rfl rfl) ?_
 rintro i ⟨h1,h2⟩
 repeat' (first|refine z0 ?_|apply ds_nil|apply dw_seq2|refine z16 ?_|apply thenD_n)
 refine dw_condP rfl (fun h=>?_) (fun h=>?_)
 ·have hi:i < l.length:=by omega
  have hpx:=hp l[i] (List.getElem_mem hi)
  repeat' (first|refine z0 ?_|apply ds_nil|apply dw_seq2|refine z16 ?_|apply dw_block|apply dw_skip|apply thenD_n|(apply ds_callV;exact rfl;exact rfl;exact rfl;exact rfl;apply hpx;exact rfl;(assumption);exact rfl;rintro _ rfl))
  refine dw_cond rfl (fun hb=>?_) (fun hb=>?_)
  ·repeat' (first|refine z0 ?_|apply ds_nil|apply dw_seq2|refine z16 ?_|apply dw_ret|apply thenD_n|apply thenD_r|apply inB_r)
   exact ret_i rfl (idxF_hit h2 hi hb).symm
  ·repeat' (first|refine z0 ?_|apply ds_nil|refine z16 ?_|apply dw_skip|apply thenD_n|apply inB_n)
   exact⟨i + 1,⟨hi,none_step h2 hi hb⟩,ent_ren id ⟨rfl,congrArg (SV.fn f) (SV.renL_id caps).symm,rfl,rfl,trivial⟩ trivial (by simp [Sl.low,SV.low,hcap]) rfl rfl rfl rfl rfl,by omega⟩
 ·repeat' (first|refine z0 ?_|apply ds_nil|apply dw_seq2|refine z16 ?_|apply dw_exit|apply dw_ret|apply thenD_n|apply thenD_e|refine z17 ?_|fail)
  exact ret_i rfl (idxF_none fun j hj=>h2 j hj (by omega)).symm
theorem numE_set {e:RE} (h:numE e) {v:Nat} {n:Int} (hn:numB n=true):numE (e.set v (some n)):=by
 intro u x hx
 by_cases hq:v=u
 ·subst hq
  by_cases hl:v < e.length
  ·rw [List.getElem?_set_self hl] at hx
   simp at hx;subst hx
   exact numB_iff.1 hn
  ·rw [List.getElem?_eq_none (by rw [List.length_set];omega)] at hx;cases hx
 ·rw [List.getElem?_set_ne hq] at hx
  exact h u x hx
theorem recL_num {S:List Fct} {e e':RE} {l:Ltl} (hok:okL S e.length l) (hn:numE e) (h:recL e l=some e'):numE e':=by
 unfold recL at h
 split at h
 ·rename_i hc
  split at h
  ·rename_i hb
   obtain⟨t1,t2,t3,hT⟩:=drop2 (hok.calc3 hc.1)
   rw [hT] at h
   simp only [List.drop_succ_cons,List.drop_zero,List.foldl_cons,List.foldl_nil,Option.some.injEq] at h
   subst h
   exact numE_set hn hb
  ·cases h
 ·simp only [Option.some.injEq] at h;subst h;exact hn
theorem recP_num {S:List Fct}:∀ {body:List Ltl} {e e':RE},(∀ l∈body,okL S e.length l)→numE e→recP body e=some e'→numE e'
 | [],e,e',_,hn,h=>by simp only [recP,List.foldlM_nil] at h;cases h;exact hn
 | l::body,e,e',hok,hn,h=>by
  simp only [recP,List.foldlM_cons] at h
  cases h1:recL e l with
  | none=>rw [h1] at h;cases h
  | some e1 =>
   rw [h1] at h
   have g1:=(recL_some (hok l (List.mem_cons_self ..)) h1).1
   exact recP_num (body:=body) (e:=e1) (fun x hx=>by rw [g1];exact hok x (List.mem_cons_of_mem _ hx)) (recL_num (hok l (List.mem_cons_self ..)) hn h1) h
theorem recN_num' {S:List Fct} {body:List Ltl}:∀ {n:Nat} {e e':RE},(∀ l∈body,okL S e.length l)→numE e→recN body n e=some e'→numE e'
 | 0,e,e',_,hn,h=>by simp only [recN,Option.some.injEq] at h;subst h;exact hn
 | n + 1,e,e',hok,hn,h=>by
  rw [recN,Option.bind_eq_some_iff] at h
  obtain⟨e1,h1,h2⟩:=h
  have g1:=(recP_some hok h1).1
  exact recN_num' (fun x hx=>by rw [g1];exact hok x hx) (recP_num hok hn h1) h2
theorem recN_num {S:List Fct} {body:List Ltl} {n:Nat} {e e':RE} (hok:okB S e.length body) (hn:numE e) (h:recN body n e=some e'):numE e':=recN_num' hok.lit hn h
def manyW (S:List Fct) (r:Rul):Bool:=decide ((waysL S r.vars.toNat r.body).length≤2000)
def rawW (S:List Fct) (r:Rul):List (List Int):=if manyW S r then waysL S r.vars.toNat r.body else []
structure RulS (S:List Fct) (r:Rul):Prop where
 ok:okB S r.vars.toNat r.body
 bd:Bd r.body (List.replicate r.vars.toNat false)
 vars:0≤r.vars∧r.vars≤8
set_option maxHeartbeats 8000000 in
theorem raw_fn (S:List Fct) (r:Rul) (hS:Strict S) (hS2:S.length≤4398046511104) (hr:RulS S r):Fn 47 [elRul r,.d (.slice 2 (S.map encFct))] (fun res=>res = .tup [.d (.slice 1 ((rawW S r).map encW)),.d (.bool (manyW S r))]):=by
 refine fnp_enter' _ Tryz.func47 rfl rfl (by kernel_rfl) ?_
 intro O w0 E0 β0
 have hv:=hr.vars
 have hnd:S.Nodup:=hS.imp fun h he=>by subst he;exact lt_irrefl h
 obtain⟨p1,p2,p3⟩:=ways_perm hnd hr.ok.lit hr.bd
 have w:=find_fn r S hS hS2 r.body.length r.body rfl (e0 r.vars.toNat) [] (by rw [show (e0 r.vars.toNat).length=r.vars.toNat from List.length_replicate];exact hr.ok) (fun v x hx=>by
  unfold e0 at hx;rw [List.getElem?_replicate] at hx;split at hx <;> simp at hx) (by rw [hasE_e0];exact hr.bd) (by simp)
 have hlen:(waysL S r.vars.toNat r.body).length=(findE S r.body.length r.body (e0 r.vars.toNat)).length:=((waysL_perm S r.vars.toNat r.body).trans p1.symm).length_eq
 have hnodup:=(p1.nodup_iff).2 p2
 have hperm:=p1
 clear p1 p2 p3
 have hfew:fewW (findE S r.body.length r.body (e0 r.vars.toNat)) []=manyW S r:=by unfold fewW manyW;rw [hlen];simp
 rw [hfew] at w
 have hput:manyW S r=true→putW (findE S r.body.length r.body (e0 r.vars.toNat)) []=findE S r.body.length r.body (e0 r.vars.toNat):=fun h=>by
  unfold manyW at h
  have:=of_decide_eq_true h
  unfold putW
  rw [List.nil_append,List.take_of_length_le (by omega)]
 generalize findE S r.body.length r.body (e0 r.vars.toNat)=fw at *
 generalize putW fw []=pw at *
 repeat' (first|refine z0 ?_|apply ds_nil|refine z5 ?_|apply dw_seq2|refine z16 ?_|refine z20 ?_|apply thenD_n|refine z1 ?_|fail)
 all_goals try (exfalso;omega)
 refine dt_new rfl rfl rfl ⟨rfl,hv.1,?_,?_⟩ rfl rfl rfl rfl rfl ?_
 ·show 8 * r.vars.toNat≤_;omega
 ·unfold maxLen;omega
 repeat' refine z5 ?_
 refine dt_new rfl rfl rfl ⟨rfl,hv.1,?_,?_⟩ rfl rfl rfl rfl rfl ?_
 ·show 1 * r.vars.toNat≤_;omega
 ·unfold maxLen;omega
 repeat' ((fail_if_success (apply dw_stopS 2));(first|refine z5 ?_|refine z7 ?_|refine z11 ?_|apply dw_seq2|apply thenD_n))
 refine dw_ent (ent_cellrow 10 9 22 1 rfl rfl rfl) ?_
 refine dw_ent (ent_ren (k':=5) (L':=[(2,.loc 4 0),(6,.loc 0 0)]) (H':=(4,.blk 36 [.d (.int .i64 r.pred),.d (.slice 2 (r.terms.map encTrm)),.d (.int .i64 r.fold),.d (.slice 4 (r.body.map encLtl)),.d (.int .i64 r.vars)])::pfH r S (e0 r.vars.toNat) []) (fun j=>match j with|0=>10|1=>5|2=>8|3=>12|4=>0|j=>j)
  ⟨rfl,rfl,trivial⟩ ⟨rfl,rfl,by rw [outE_e0,List.map_replicate];rfl,by rw [hasE_e0,List.map_replicate];rfl,rfl,trivial⟩ rfl rfl rfl rfl rfl rfl) ?_
 repeat' (first|refine z0 ?_|apply dw_seq2|refine z16 ?_|fail)
 (refine ds_callF id (w) rfl rfl rfl rfl ⟨rfl,rfl,rfl,rfl,trivial⟩ rfl rfl rfl rfl rfl rfl ?_ ?_)
 ·rintro k2 res H2 ⟨rfl,rfl,rfl⟩;exact⟨rfl,rfl⟩
 rintro k2 res H2 ⟨rfl,rfl,rfl⟩
 change DS _ _ _ _ _ _ _ _
 clear w
 unfold rawW
 cases hm:manyW S r with
 | false =>
  rw [if_neg (by simp)]
  repeat' (first|refine z0 ?_|apply ds_nil|apply dw_seq2|refine z16 ?_|refine z18 ?_|apply thenD_n)
  all_goals try (exfalso;omega)
  refine dw_ent (ent_nild 4 1 rfl) ?_
  repeat' (first|apply dw_ret|apply thenD_r)
  exact⟨.inl rfl,_,rfl,rfl,rfl⟩
 | true =>
  have hp:=hput hm
  have hl2:fw.length≤2000:=by rw [← hlen];unfold manyW at hm;exact of_decide_eq_true hm
  rw [if_pos rfl]
  subst hp
  repeat' (first|refine z0 ?_|apply ds_nil|apply dw_seq2|refine z16 ?_|apply dw_skip|refine z19 ?_|apply thenD_n)
  all_goals try (exfalso;omega)
  refine ds_sort sortWays_c pw (by kernel_rfl) rfl rfl rfl rfl rfl rfl (by omega) ?_
  intro l' h6 h7
  have hsort:SortW l':=h7.imp fun {a b} h=>by rw [ordL_anti];omega
  have hl':l' = waysL S r.vars.toNat r.body:=waysL_eq hsort (h6.trans hperm)
  have hnd':l'.Nodup:=h6.nodup_iff.2 hnodup
  have w2:=compactW_fn l' hnd' (by rw [h6.length_eq];omega)
  rw [← hl']
  repeat' (first|refine z0 ?_|apply ds_nil|apply dw_seq2|refine z16 ?_|apply thenD_n)
  all_goals try (exfalso;omega)
  refine ds_callF (fun _=>8) w2 rfl rfl rfl rfl ⟨rfl,trivial⟩ rfl rfl rfl rfl rfl rfl ?_ ?_
  ·rintro k2 res H2 ⟨rfl,rfl⟩;exact⟨rfl,rfl⟩
  rintro k2 res H2 ⟨rfl,rfl⟩
  change DS _ _ _ _ _ _ _ _
  repeat' (first|refine z0 ?_|apply ds_nil|apply dw_ret|apply thenD_n)
  exact⟨.inl rfl,_,rfl,rfl,rfl⟩



end Go.Proofs.YtapciiffpnociacGreat
