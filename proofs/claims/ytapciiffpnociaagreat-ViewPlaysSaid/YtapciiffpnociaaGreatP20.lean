/- Several texts in one: RuW GxSr1 RuI RuJ RuF ScoG ScoH TokL ScoI RuL. Condition: none. -/
import Derived.Test.YtapciiffpnociaaGreatP19
import Derived.Test.YtapciiffpnociaaGreatP18
import Derived.Test.YtapciiffpnociaaGreatP11
import Derived.Test.YtapciiffpnociaaGreatP10
import Derived.Test.YtapciiffpnociaaGreatP17
namespace Go.Proofs.YtapciiffpnociaaGreat
open Go Go.RowKit
attribute [local irreducible] DW DS DL DQ Ev FnOk FnP em b9 DT
set_option maxHeartbeats 8000000 in
theorem cloneIR_fn (l:List Int) (hl:l.length≤17592186044416):FnOk false Tryz.prog tab cn 111 [.row 0] 1 1 [(0,.row 3 1 (l.map bi))] (fun _ r H=>r = .d (.slice 1 (l.map bi))∧H=[(0,.row 3 1 (l.map bi))]):=by
 refine co _ Tryz.func111 rfl rfl (by kernel_rfl) ?_
 intro O w0 E0 β0
 have la:(l.map bi).length=l.length:=List.length_map _
 repeat' (first|refine z0 ?_|apply ag|apply ae|refine z16 ?_|apply aa)
 refine ds_eqnilR rfl rfl rfl rfl rfl rfl (fun h=>?_) ?_
 ·have h0:l=[]:=List.map_eq_nil_iff.1 h
  subst h0
  repeat' (first|refine z0 ?_|apply ag|apply ae|refine z16 ?_|refine z18 ?_|apply aa)
  refine ba (cr 2 1 rfl) ?_
  repeat' (first|apply aj|apply av)
  exact⟨.inl rfl,_,rfl,id,1,_,[(0,.row 3 1 [])],rfl,⟨rfl,trivial⟩,rfl,rfl,rfl,rfl,rfl,rfl,rfl,rfl⟩
 ·repeat' (first|(apply ds_bs0;exact rfl;exact rfl;exact rfl;exact rfl;exact rfl;exact rfl;exact rfl;exact rfl)|(first|refine z0 ?_|apply ag|apply ae|refine z16 ?_|apply ai|refine z19 ?_|apply aa))
  refine ds_append_rowR 0 rfl rfl rfl rfl rfl rfl rfl rfl rfl rfl rfl ?_ ?_ rfl ?_
  ·show (0 + (l.map bi).length) * 8≤_
   omega
  ·show 0 + (l.map bi).length≤_
   unfold maxLen
   omega
  repeat' (first|refine z0 ?_|apply ag|apply aa)
  refine ba (dp 2 rfl rfl rfl) ?_
  repeat' (apply aj)
  exact⟨.inl rfl,_,rfl,id,1,_,[(0,.row 3 1 (l.map bi))],rfl,⟨rfl,trivial⟩,rfl,rfl,rfl,rfl,rfl,rfl,rfl,rfl⟩
theorem putW_app {a b out:List (List Int)} (h:fewW a out=true):lz (a++b) out=lz b (lz a out)∧fewW (a++b) out=fewW b (lz a out)∧(lz a out).length≤2000:=by
 have h:=of_decide_eq_true h
 have hp:lz a out=out++a:=by unfold lz;exact List.take_of_length_le (by rw [List.length_append];omega)
 rw [hp]
 refine⟨by unfold lz;rw [List.append_assoc],?_,by rw [List.length_append];exact h⟩
 unfold fewW
 rw [List.length_append,List.length_append]
 exact decide_eq_decide.2 (by omega)
theorem putW_many {a b out:List (List Int)} (h:fewW a out=false):lz (a++b) out=lz a out∧fewW (a++b) out=false:=by
 have h:=of_decide_eq_false h
 refine⟨?_,decide_eq_false (by rw [List.length_append];omega)⟩
 unfold lz
 rw [← List.append_assoc,List.take_append_of_le_length (by rw [List.length_append];omega)]
theorem matchE_num:∀ {ts:List Trm} {ns:List Int} {e e':RE},numE e→(∀ n∈ns,-1000000≤n∧n≤1000000)→di e ts ns=some e'→numE e'
 | [],_,e,e',hn,_,h=>by simp only [di,Option.some.injEq] at h;subst h;exact hn
 | _::_,[],e,e',hn,_,h=>by simp only [di,Option.some.injEq] at h;subst h;exact hn
 | t::ts,n::ns,e,e',hn,hns,h=>by
  rw [di] at h
  cases hv:vOf e t with
  | some x =>
   rw [hv] at h
   simp only at h
   split at h
   ·exact matchE_num hn (fun m hm=>hns m (List.mem_cons_of_mem _ hm)) h
   ·cases h
  | none =>
   rw [hv] at h
   simp only at h
   refine matchE_num (fun v x hx=>?_) (fun m hm=>hns m (List.mem_cons_of_mem _ hm)) h
   by_cases hq:t.var.toNat=v
   ·subst hq
    by_cases hl:t.var.toNat < e.length
    ·rw [List.getElem?_set_self hl] at hx
     simp at hx;subst hx
     exact hns n (List.mem_cons_self ..)
    ·rw [List.getElem?_eq_none (by rw [List.length_set];omega)] at hx;cases hx
   ·rw [List.getElem?_set_ne hq] at hx
    exact hn v x hx
def facW (W:RE→List (List Int)) (e:RE) (l:Ltl) (x:Fct):List (List Int):=if x.pred=l.pred then matW W (di e l.terms x.args) else []
theorem litW_yes' {S:List Fct} {W:RE→List (List Int)} {l:Ltl} {e:RE} (h:l.kind=1):litW S W l e=S.flatMap (facW W e l):=by
 unfold litW
 rw [if_pos h]
 rfl
def FindOk (r:Rul) (S:List Fct) (left:List Ltl):Prop:=∀ (e:RE) (out:List (List Int)),okB S e.length left→numE e→Bd left (da e)→out.length≤2000 →
 FnOk false Tryz.prog tab cn 152 [.loc 0 0,.d (.slice 4 (left.map bt))] 3 4 (pfH r S e out)
  (fun k2 res H=>k2=4∧res = .d (.bool (fewW (gz S left.length left e) out))∧H=pfH r S e (lz (gz S left.length left e) out))
set_option maxHeartbeats 8000000 in
theorem find1_fn (r:Rul) (S:List Fct) (left:List Ltl) (hf:FindOk r S left) (e:RE) (out:List (List Int)) (h1:okB S e.length left) (h2:numE e) (h3:Bd left (da e)) (h4:out.length≤2000) :
  FnOk false Tryz.prog tab cn 167 [.loc 3 0,.loc 4 0] 5 6 (goH r S left e out) (fun k2 res H=>k2=6∧res = .d (.bool (fewW (gz S left.length left e) out))∧H=goH r S left e (lz (gz S left.length left e) out)):=by
 refine co _ Tryz.func167 rfl rfl (by kernel_rfl) ?_
 intro O w0 E0 β0
 have w:=hf e out h1 h2 h3 h4
 clear hf
 generalize fewW (gz S left.length left e) out=bb at w ⊢
 generalize lz (gz S left.length left e) out=o2 at w ⊢
 repeat' (first|refine z0 ?_|apply ag|apply ae|refine z16 ?_|apply aa)
 refine b8 (fun j=>match j with|3=>5|j=>j) w rfl rfl rfl rfl ⟨rfl,rfl,rfl,rfl,trivial⟩ rfl rfl rfl rfl rfl rfl ?_ ?_
 ·rintro k2 res H2 ⟨rfl,rfl,rfl⟩;exact⟨rfl,rfl⟩
 rintro k2 res H2 ⟨rfl,rfl,rfl⟩
 change DS _ _ _ _ _ _ _ _
 repeat' (first|refine z0 ?_|apply ag|apply aj|apply aa)
 exact⟨.inl rfl,_,rfl,fun j=>match j with|5=>9|j=>j,6,_,goH r S left e o2,rfl,⟨rfl,rfl,rfl,rfl,rfl,rfl,trivial⟩,rfl,rfl,rfl,rfl,rfl,rfl,rfl,rfl,rfl⟩
set_option maxHeartbeats 8000000 in
theorem find_nil (r:Rul) (S:List Fct):FindOk r S []:=by
 intro e out h1 _ _ h4
 refine co _ Tryz.func152 rfl rfl (by kernel_rfl) ?_
 intro O w0 E0 β0
 have he:=h1.vle
 have w:=cloneIR_fn (cx e) (by rw [j9];omega)
 have hfe:gz S 0 [] e=[cx e]:=rfl
 rw [show ([]:List Ltl).length=0 from rfl,hfe]
 repeat' ((fail_if_success (apply bz 2));(first|refine z0 ?_|apply ag|apply ae|refine z16 ?_|refine z18 ?_|apply aa|refine z1 ?_|fail))
 refine jq 12 (by kernel_rfl) (by kernel_rfl) (by kernel_rfl) rfl rfl rfl ?_
 repeat' refine z5 ?_
 refine dt_callR (fun j=>match j with|0=>1|j=>j) w (by rintro _ rfl;exact⟨rfl,rfl⟩) ⟨_,rfl⟩ rfl rfl rfl rfl ⟨rfl,trivial⟩ rfl rfl rfl rfl rfl rfl rfl rfl rfl ?_
 rintro _ rfl
 have lo:(out.map jp).length=out.length:=List.length_map _
 repeat' (first|refine z0 ?_|apply ag|refine z5 ?_|refine z9 ?_|refine z10 ?_|refine z11 ?_|apply ae|refine z20 ?_|apply aj|apply aa|apply av|refine z3 ?_|fail)
 have hp:lz [cx e] out=out++[cx e]:=by unfold lz;exact List.take_of_length_le (by simp only [List.length_append,List.length_singleton];omega)
 rw [hp]
 have hfew:decide (((((out.map jp++[[D.slice 1 ((cx e).map bi)]]).length:Nat):Int))≤2000)=fewW [cx e] out:=by
  unfold fewW
  simp only [List.length_append,List.length_singleton,lo]
  exact decide_eq_decide.2 (by omega)
 exact⟨.inl rfl,_,rfl,fun j=>match j with|3=>16|j=>j,4,.d (.bool _),pfH r S e (out++[cx e]),rfl,⟨rfl,rfl,rfl,by rw [List.map_append];rfl,trivial⟩,rfl,rfl,rfl,rfl,rfl,rfl,rfl,congrArg (fun b=>SV.d (.bool b)) hfew,rfl⟩
set_option maxHeartbeats 8000000 in
theorem find_step (r:Rul) (S:List Fct) (hS:Strict S) (hS2:S.length≤4398046511104) (left:List Ltl) (hne:left≠[]) (ih:∀ i (_:i < left.length),FindOk r S (left.eraseIdx i)):FindOk r S left:=by
 intro e out h1 h2 h3 h4
 refine co _ Tryz.func152 rfl rfl (by kernel_rfl) ?_
 intro O w0 E0 β0
 have ll:(left.map bt).length=left.length:=List.length_map _
 have hl4:=h1.len
 have hpos:0 < left.length:=List.length_pos_iff.2 hne
 have hnx:=next_lt hne h1.lit h3
 have hnr:=next_is hnx
 have w1:=next_fn r S out e left h1.lit (by omega) hnx h1.tlen
 have hB':∀ e',leB (da e) (da e')→((∀ t∈dz left[eu e left],isT (da e') t=true)∨∀ ds,cy ds left[eu e left]=false)→Bd (left.eraseIdx (eu e left)) (da e'):=fun e' k1 k2=>Bd_rest hnx h3 k1 k2
 have hok':∀ e':RE,e'.length=e.length→okB S e'.length (left.eraseIdx (eu e left)):=fun e' k1=>by
  have hsub:∀ l∈left.eraseIdx (eu e left),l∈left:=fun l hl=>(mem_erase hnx l).2 (.inr hl)
  rw [k1]
  exact⟨fun l hl=>h1.lit l (hsub l hl),fun l hl=>h1.op l (hsub l hl),fun l hl=>h1.nums l (hsub l hl),h1.facts,by rw [List.length_eraseIdx];split <;> omega,h1.vle,fun l hl=>h1.tlen l (hsub l hl)⟩
 have hfe:gz S left.length left e=litW S (gz S (left.length - 1) (left.eraseIdx (eu e left))) left[eu e left] e:=by
  obtain⟨l0,ls,rfl⟩:=List.exists_cons_of_ne_nil hne
  rw [List.length_cons,gz,List.getElem?_eq_getElem hnx,Nat.add_sub_cancel]
 have hel:(left.eraseIdx (eu e left)).length=left.length - 1:=by rw [List.length_eraseIdx,if_pos hnx]
 have ih':=ih _ hnx
 have hlm:=List.getElem_mem hnx
 have hlo:=h1.lit _ hlm
 have hlop:=h1.op _ hlm
 have hlnum:=h1.nums _ hlm
 have hl3:=h1.tlen _ hlm
 rw [hfe,← hel]
 clear ih hfe h3
 have hc:Fn 166 [.d (.slice 1 [[.slice 4 ((left.take (eu e left)).map bt)],[.slice 4 ((left.drop (eu e left + 1)).map bt)]])] (fun r=>r = .d (.slice 4 ((left.eraseIdx (eu e left)).map bt))):=by
  have h:=concatLtl_fn [left.take (eu e left),left.drop (eu e left + 1)] (by simp only [List.map_cons,List.map_nil,List.sum_cons,List.sum_nil,List.length_take,List.length_drop];omega) (by simp)
  rw [show [left.take (eu e left),left.drop (eu e left + 1)].flatten=left.eraseIdx (eu e left) by rw [List.eraseIdx_eq_take_drop_succ];simp] at h
  exact h
 repeat' (first|refine z0 ?_|apply ag|refine z5 ?_|apply ae|refine z16 ?_|refine z20 ?_|apply ai|apply aa|refine z1 ?_|(refine z23 ?_ ?_ <;> intro hg)|fail)
 all_goals try (exfalso;omega)
 (refine b8 id (w1) rfl rfl rfl rfl ⟨rfl,rfl,rfl,rfl,trivial⟩ rfl rfl rfl rfl rfl rfl ?_ ?_)
 ·rintro k2 res H2 ⟨rfl,rfl⟩;exact⟨rfl,rfl⟩
 rintro k2 res H2 ⟨rfl,rfl⟩
 change DS _ _ _ _ _ _ _ _
 clear w1
 generalize eu e left=j at *
 repeat' ((fail_if_success (apply mf 8));(first|refine z0 ?_|apply ag|refine z5 ?_|refine z6 ?_|refine z7 ?_|refine z11 ?_|apply ae|refine z16 ?_|refine z20 ?_|apply aa|refine z22 ?_ (hc:=by apply hc)|refine z1 ?_|refine z3 ?_|fail))
 all_goals try (exfalso;omega)
 refine ba (ap (k':=7) (L':=[(2,.loc 3 0),(6,.loc 6 0),(8,.fn 167 [.loc 3 0,.loc 4 0])]) (H':=(6,litB left[j])::goH r S (left.eraseIdx j) e out) (fun z=>match z with|3=>4|4=>15|5=>3|6=>5|z=>z) ⟨rfl,rfl,rfl,trivial⟩ ⟨rfl,rfl,rfl,rfl,rfl,rfl,rfl,trivial⟩ rfl rfl rfl rfl rfl rfl) ?_
 clear hc ll hlm
 generalize left[j]=l at *
 generalize left.eraseIdx j=rest at *
 have hthen:∀ (ts:List Trm) (ns:List Int) (o:List (List Int)),o.length≤2000→ts.length=ns.length→(∀ t∈ts,okT e.length t)→(∀ n∈ns,-1000000≤n∧n≤1000000)→dz l=ts→∀ e',di e ts ns=some e' →
   FnOk false Tryz.prog tab cn 167 [.loc 3 0,.loc 4 0] 5 6 (goH r S rest e' o) (fun k2 res H=>k2=6∧res = .d (.bool (fewW (gz S rest.length rest e') o))∧H=goH r S rest e' (lz (gz S rest.length rest e') o)):=by
  intro ts ns o q1 q2 q3 q4 q5 e' q6
  obtain⟨m1,_,m3⟩:=fk q2 q3 q6
  exact find1_fn r S rest ih' e' o (hok' e' m1) (matchE_num h2 q4 q6) (hB' e' (by rw [m3];exact j7 _ _) (.inl (by rw [q5,m3];exact lk (by rw [ew];exact q3)))) q1
 have hthen0:l.kind≠1→l.kind≠4→FnOk false Tryz.prog tab cn 167 [.loc 3 0,.loc 4 0] 5 6 (goH r S rest e out) (fun k2 res H=>k2=6∧res = .d (.bool (fewW (gz S rest.length rest e) out))∧H=goH r S rest e (lz (gz S rest.length rest e) out)):=fun n1 n4 =>
  find1_fn r S rest ih' e out (hok' e rfl) h2 (hB' e (leB.refl _) (.inr fun ds=>by unfold cy;rw [decide_eq_false n1,decide_eq_false n4];rfl)) h4
 have hfacts:=h1.facts
 have hfl:=hlo.facts
 have hT:=hlo.terms
 have hc3:=hlo.calc3
 have ht2:=hlo.test2
 have hkind:=hlo.kind
 have hvle:=h1.vle
 clear ih' hB' hok' hlo h1 hel hnx hpos
 generalize gz S rest.length rest=W at hthen hthen0 ⊢
 by_cases hk1:l.kind=1
 ·rw [litW_yes' hk1]
  have lS:(S.map a6).length=S.length:=List.length_map _
  repeat' (first|refine z0 ?_|apply ag|refine z5 ?_|apply ae|refine z16 ?_|refine z20 ?_|apply ah|apply ai|apply aa|apply bg|(refine z23 ?_ ?_ <;> intro hg)|fail)
  all_goals try (exfalso;omega)
  refine bh (ι:=Nat) (fun i=>⟨7,[(2,.loc 3 0),(6,.loc 6 0),(8,.fn 167 [.loc 3 0,.loc 4 0]),(68,.d (.slice 2 (S.map a6))),(69,.d (.int .i64 S.length)),(70,.d (.int .i64 i))],(6,litB l)::goH r S rest e (lz ((S.take i).flatMap (facW W e l)) out)⟩)
   (fun i=>i≤S.length∧fewW ((S.take i).flatMap (facW W e l)) out=true) (fun i=>S.length - i) 0 ⟨Nat.zero_le _,fewW_nil h4⟩ (ap id ⟨rfl,rfl,rfl,rfl,by rw [← lS];rfl,rfl,trivial⟩ ⟨rfl,rfl,rfl,rfl,rfl,rfl,by rw [show (S.take 0).flatMap (facW W e l)=[] from rfl,putW_nil h4];rfl,trivial⟩ rfl rfl rfl rfl rfl rfl) ?_
  rintro i ⟨g1,g2⟩
  dsimp only at g1 g2 ⊢
  by_cases hi:i < S.length
  ·have hx:=List.getElem_mem hi
   have hst:(S.take (i + 1)).flatMap (facW W e l)=(S.take i).flatMap (facW W e l)++facW W e l S[i]:=by rw [List.take_succ_eq_append_getElem hi,List.flatMap_append];simp
   obtain⟨p1,p2,p3⟩:=putW_app (b:=facW W e l S[i]) g2
   have hwh:S.flatMap (facW W e l)=(S.take (i + 1)).flatMap (facW W e l)++(S.drop (i + 1)).flatMap (facW W e l):=by rw [← List.flatMap_append,List.take_append_drop]
   have hfx:=hfacts _ hx
   have hfa:=hfl hk1 _ hx
   rw [← hst] at p1 p2
   generalize lz ((S.take i).flatMap (facW W e l)) out=o at p1 p2 p3 ⊢
   have w:=match_fnR r S rest o e l.terms S[i].args W
   by_cases hp:S[i].pred=l.pred
   ·have hfw:facW W e l S[i]=matW W (di e l.terms S[i].args):=by unfold facW;rw [if_pos hp]
    have w:=w (hfa hp).symm (by omega) hT p3 (hthen l.terms S[i].args o p3 (hfa hp).symm hT hfx (by unfold dz;rw [if_pos hk1]))
    rw [← hfw,← p1,← p2] at w
    repeat' (first|refine z0 ?_|refine z12 ?_|apply ag|apply ae|refine z16 ?_|apply ah|apply ai|apply au|apply aj|refine z19 ?_|apply aa|apply aq|apply av|apply bg|apply br|refine z17 ?_|refine z1 ?_|refine z3 ?_|(refine z23 ?_ ?_ <;> intro hg)|((fail_if_success (apply bk;exact rfl));apply bl;exact rfl;exact rfl;exact rfl;all_goals intro hg))
    all_goals try (exfalso;omega)
    (refine b8 id (w) rfl rfl rfl rfl ⟨rfl,rfl,rfl,rfl,rfl,rfl,trivial⟩ rfl rfl rfl rfl rfl rfl ?_ ?_)
    ·rintro k2 res H2 ⟨rfl,rfl,rfl⟩;exact⟨rfl,rfl⟩
    rintro k2 res H2 ⟨rfl,rfl,rfl⟩
    change DS _ _ _ _ _ _ _ _
    cases hb:fewW ((S.take (i + 1)).flatMap (facW W e l)) out with
    | true =>
     repeat' (first|refine z0 ?_|apply ag|refine z16 ?_|apply ai|refine z19 ?_|apply aa|apply bg)
     all_goals try (exfalso;omega)
     exact⟨i + 1,⟨hi,hb⟩,ap (fun j=>match j with|5=>13|j=>j) ⟨rfl,rfl,rfl,rfl,rfl,rfl,trivial⟩ ⟨rfl,rfl,rfl,rfl,rfl,rfl,rfl,trivial⟩ rfl rfl rfl rfl rfl rfl,by omega⟩
    | false =>
     obtain⟨q1,q2⟩:=putW_many (b:=(S.drop (i + 1)).flatMap (facW W e l)) hb
     rw [← hwh] at q1 q2
     rw [q1,q2]
     repeat' (first|refine z0 ?_|apply ag|apply ae|refine z16 ?_|apply aj|refine z18 ?_|apply aa|apply av|apply br)
     all_goals try (exfalso;omega)
     exact⟨.inl rfl,_,rfl,fun j=>match j with|3=>13|j=>j,4,_,pfH r S e _,rfl,⟨rfl,rfl,rfl,rfl,trivial⟩,rfl,rfl,rfl,rfl,rfl,rfl,rfl,rfl,rfl⟩
   ·have hfw:facW W e l S[i]=[]:=by unfold facW;rw [if_neg hp]
    rw [hfw] at p1 p2
    rw [putW_nil p3] at p1
    rw [fewW_nil p3] at p2
    repeat' (first|refine z0 ?_|refine z12 ?_|apply ag|apply ae|refine z16 ?_|apply ah|apply ai|apply au|apply aj|refine z19 ?_|apply aa|apply aq|apply av|apply bg|apply br|refine z17 ?_|refine z1 ?_|refine z3 ?_|(refine z23 ?_ ?_ <;> intro hg)|((fail_if_success (apply bk;exact rfl));apply bl;exact rfl;exact rfl;exact rfl;all_goals intro hg))
    all_goals try (exfalso;omega)
    exact⟨i + 1,⟨hi,p2⟩,ap id ⟨rfl,rfl,rfl,rfl,rfl,rfl,trivial⟩ ⟨rfl,rfl,rfl,rfl,rfl,rfl,by rw [p1];rfl,trivial⟩ rfl rfl rfl rfl rfl rfl,by omega⟩
  ·rw [List.take_of_length_le (by omega)] at g2 ⊢
   rw [g2]
   repeat' (first|refine z0 ?_|refine z12 ?_|apply ag|apply ae|refine z16 ?_|apply ah|apply ai|apply au|apply aj|refine z19 ?_|apply aa|apply aq|apply av|apply bg|apply br|refine z17 ?_|refine z1 ?_|refine z3 ?_|(refine z23 ?_ ?_ <;> intro hg)|((fail_if_success (apply bk;exact rfl));apply bl;exact rfl;exact rfl;exact rfl;all_goals intro hg))
   all_goals try (exfalso;omega)
   exact⟨.inl rfl,_,rfl,fun j=>match j with|3=>5|j=>j,4,_,pfH r S e _,rfl,⟨rfl,rfl,rfl,rfl,trivial⟩,rfl,rfl,rfl,rfl,rfl,rfl,rfl,rfl,rfl⟩
 ·have hrd:rdyL e l=true:=hnr.resolve_right hk1
  by_cases hk4:l.kind=4
  ·have h3:=hc3 hk4
   have hnum:∀ t∈l.terms,-1000000≤vA (cx e) t∧vA (cx e) t≤1000000:=fun t ht=>vA_num h2 (hlnum t ht)
   have hall:(l.terms.take 2).all (fun t=>(vOf e t).isSome)=true:=by
    unfold rdyL needT at hrd;rw [if_pos hk4] at hrd;exact hrd
   have hlW:litW S W l e=if numB (ju l (cx e)) then matW W (di e (l.terms.drop 2) [ju l (cx e)]) else []:=by
    unfold litW;rw [if_neg hk1,if_pos hk4];rfl
   have w:=values_fn r S out e (l.terms.take 2) (fun t ht=>hT t (List.mem_of_mem_take ht)) (by rw [List.length_take];omega)
   rw [hall,if_pos rfl] at w
   have hthen4:=hthen (l.terms.drop 2) [ju l (cx e)] out h4 (by rw [List.length_drop,h3];rfl) (fun t ht=>hT t (List.mem_of_mem_drop ht))
   have hlt:dz l=l.terms.drop 2:=by unfold dz;rw [if_neg hk1]
   have wm:=fun hn:numB (ju l (cx e))=true=>match_fnR r S rest out e (l.terms.drop 2) [ju l (cx e)] W (by rw [List.length_drop,h3];rfl) (by rw [List.length_drop];omega) (fun t ht=>hT t (List.mem_of_mem_drop ht)) h4
    (hthen4 (by intro n hn';rw [List.mem_singleton] at hn';subst hn';exact numB_iff.1 hn) hlt)
   have hcl:ju l (cx e)=calcE l.op ((l.terms.map (vA (cx e))).getD 0 0) ((l.terms.map (vA (cx e))).getD 1 0):=rfl
   rw [hcl] at hlW wm
   clear hthen4 hthen hthen0 hcl hlt hall hrd hnr
   obtain⟨kind,op,pred,terms⟩:=l
   dsimp only at h3 hk4 hk1 hnum w wm hlW hT
   match terms,h3 with
   | [t1,t2,t3],_ =>
    simp only [List.map_cons,List.map_nil,List.getD_cons_zero,List.getD_cons_succ,List.take_succ_cons,List.take_zero,List.drop_succ_cons,List.drop_zero] at w wm hlW
    have n1:=hnum t1 (by simp)
    have n2:=hnum t2 (by simp)
    clear hnum
    generalize vA (cx e) t1=x at *
    generalize vA (cx e) t2=y at *
    have w4:=calc_fn op x y n1 n2
    have w5:=snumber_fn (calcE op x y)
    repeat' (first|refine z0 ?_|apply ag|refine z5 ?_|apply ae|refine z16 ?_|refine z20 ?_|apply ah|apply ai|apply aa|apply bg|(refine z23 ?_ ?_ <;> intro hg)|fail)
    all_goals try (exfalso;first|omega|exact hk1 hg|exact hg hk4|exact hk4 hg|exact hk3 hg|exact hg hk3)
    refine dt_callR (fun j=>match j with|3=>5|j=>j) w (by rintro _ rfl;exact⟨rfl,rfl⟩) ⟨_,rfl⟩ rfl rfl rfl rfl ⟨rfl,rfl,rfl,rfl,trivial⟩ rfl rfl rfl rfl rfl rfl rfl rfl rfl ?_
    rintro _ rfl
    clear w
    repeat' ((fail_if_success (apply bz 20));(first|refine z5 ?_|refine z10 ?_|apply ae|refine z20 ?_|apply aa|refine z22 ?_ (hc:=by apply w4)|fail))
    all_goals try (exfalso;first|omega|exact hk1 hg|exact hg hk4|exact hk4 hg|exact hk3 hg|exact hg hk3)
    cases hn:numB (calcE op x y) with
    | false =>
     rw [hn] at hlW w5
     rw [hlW,if_neg (by simp),fewW_nil h4,putW_nil h4]
     repeat' (first|refine z5 ?_|refine z14 ?_|refine z10 ?_|refine z20 ?_|apply aj|apply aa|apply av|apply br|refine z22 ?_ (hc:=by apply w5)|fail)
     all_goals try (exfalso;first|omega|exact hk1 hg|exact hg hk4|exact hk4 hg|exact hk3 hg|exact hg hk3)
     exact⟨.inl rfl,_,rfl,fun j=>match j with|3=>5|j=>j,4,_,pfH r S e out,rfl,⟨rfl,rfl,rfl,rfl,trivial⟩,rfl,rfl,rfl,rfl,rfl,rfl,rfl,rfl,rfl⟩
    | true =>
     have wm:=wm hn
     rw [hn] at hlW w5
     rw [hlW,if_pos rfl]
     refine jq 11 (by kernel_rfl) (by kernel_rfl) (by kernel_rfl) rfl rfl rfl ?_
     repeat' (first|refine z5 ?_|refine z10 ?_|refine z22 ?_ (hc:=by apply w5)|fail)
     all_goals try (exfalso;first|omega|exact hk1 hg|exact hg hk4|exact hk4 hg|exact hk3 hg|exact hg hk3)
     (refine b8 id (wm) rfl rfl rfl rfl ⟨rfl,rfl,rfl,rfl,rfl,rfl,trivial⟩ rfl rfl rfl rfl rfl rfl ?_ ?_)
     ·rintro k2 res H2 ⟨rfl,rfl,rfl⟩;exact⟨rfl,rfl⟩
     rintro k2 res H2 ⟨rfl,rfl,rfl⟩
     change DS _ _ _ _ _ _ _ _
     repeat' (first|refine z0 ?_|apply ag|apply aj|apply aa|apply av|apply br)
     exact⟨.inl rfl,_,rfl,fun j=>match j with|3=>12|j=>j,4,_,pfH r S e _,rfl,⟨rfl,rfl,rfl,rfl,trivial⟩,rfl,rfl,rfl,rfl,rfl,rfl,rfl,rfl,rfl⟩
  ·have hlW:litW S W l e=if holdE S l (cx e) then W e else []:=by unfold litW;rw [if_neg hk1,if_neg hk4]
   have hth:=hthen0 hk1 hk4
   clear hthen0
   have hall:l.terms.all (fun t=>(vOf e t).isSome)=true:=by
    unfold rdyL needT at hrd;rw [if_neg hk4] at hrd;exact hrd
   have w:=values_fn r S out e l.terms hT (by omega)
   rw [hall,if_pos rfl] at w
   clear hthen hall hrd hnr
   by_cases hk3:l.kind=3
   ·have h2':=ht2 hk3
    obtain⟨kind,op,pred,terms⟩:=l
    dsimp only at h2' hk3 hk4 hk1 w hlW hT
    match terms,h2' with
    | [t1,t2],_ =>
     have hh:holdE S ⟨kind,op,pred,[t1,t2]⟩ (cx e)=testE op (vA (cx e) t1) (vA (cx e) t2):=by subst hk3;rfl
     rw [hh] at hlW
     simp only [List.map_cons,List.map_nil] at w
     generalize vA (cx e) t1=x at *
     generalize vA (cx e) t2=y at *
     have w4:=test_fn op x y
     repeat' (first|refine z0 ?_|apply ag|refine z5 ?_|apply ae|refine z16 ?_|refine z20 ?_|apply ah|apply ai|apply aa|apply bg|(refine z23 ?_ ?_ <;> intro hg)|fail)
     all_goals try (exfalso;first|omega|exact hk1 hg|exact hg hk4|exact hk4 hg|exact hk3 hg|exact hg hk3)
     refine b8 (fun j=>match j with|3=>5|j=>j) w rfl rfl rfl rfl ⟨rfl,rfl,rfl,rfl,trivial⟩ rfl rfl rfl rfl rfl rfl ?_ ?_
     ·rintro k2 res H2 ⟨rfl,rfl⟩;exact⟨rfl,rfl⟩
     rintro k2 res H2 ⟨rfl,rfl⟩
     change DS _ _ _ _ _ _ _ _
     cases hb:testE op x y with
     | false =>
      rw [hb] at hlW w4
      rw [hlW,if_neg (by simp),fewW_nil h4,putW_nil h4]
      repeat' (first|refine z0 ?_|refine z12 ?_|apply ag|refine z5 ?_|refine z10 ?_|apply ae|refine z16 ?_|refine z20 ?_|apply aj|apply aa|refine z22 ?_ (hc:=by apply w4)|(refine z23 ?_ ?_ <;> intro hg)|fail)
      all_goals try (exfalso;first|omega|exact hk1 hg|exact hg hk4|exact hk4 hg|exact hk3 hg|exact hg hk3)
      exact⟨.inl rfl,_,rfl,fun j=>match j with|3=>5|j=>j,4,_,pfH r S e out,rfl,⟨rfl,rfl,rfl,rfl,trivial⟩,rfl,rfl,rfl,rfl,rfl,rfl,rfl,rfl,rfl⟩
     | true =>
      rw [hb] at hlW w4
      rw [hlW,if_pos rfl]
      repeat' (first|refine z0 ?_|apply ag|refine z5 ?_|refine z10 ?_|apply ae|refine z16 ?_|refine z20 ?_|apply aa|refine z22 ?_ (hc:=by apply w4)|(refine z23 ?_ ?_ <;> intro hg)|fail)
      all_goals try (exfalso;first|omega|exact hk1 hg|exact hg hk4|exact hk4 hg|exact hk3 hg|exact hg hk3)
      (refine ds_callVF id (hth) rfl rfl rfl rfl rfl rfl ⟨rfl,rfl,rfl,rfl,rfl,rfl,trivial⟩ rfl rfl rfl rfl rfl rfl ?_ ?_)
      ·rintro k2 res H2 ⟨rfl,rfl,rfl⟩;exact⟨rfl,rfl⟩
      rintro k2 res H2 ⟨rfl,rfl,rfl⟩
      change DS _ _ _ _ _ _ _ _
      repeat' (first|refine z0 ?_|apply ag|apply aj|apply aa)
      exact⟨.inl rfl,_,rfl,fun j=>match j with|3=>12|j=>j,4,_,pfH r S e _,rfl,⟨rfl,rfl,rfl,rfl,trivial⟩,rfl,rfl,rfl,rfl,rfl,rfl,rfl,rfl,rfl⟩
   ·have hk2:l.kind=2:=by omega
    have hh:holdE S l (cx e) = !hasF S ⟨l.pred,l.terms.map (vA (cx e))⟩:=by unfold holdE;rw [if_neg hk1,if_pos hk2]
    rw [hh] at hlW
    have w4:=in_fn S ⟨l.pred,l.terms.map (vA (cx e))⟩ hS2 hS
    repeat' (first|refine z0 ?_|apply ag|refine z5 ?_|apply ae|refine z16 ?_|refine z20 ?_|apply ah|apply ai|apply aa|apply bg|(refine z23 ?_ ?_ <;> intro hg)|fail)
    all_goals try (exfalso;first|omega|exact hk1 hg|exact hg hk4|exact hk4 hg|exact hk3 hg|exact hg hk3)
    refine b8 (fun j=>match j with|3=>5|j=>j) w rfl rfl rfl rfl ⟨rfl,rfl,rfl,rfl,trivial⟩ rfl rfl rfl rfl rfl rfl ?_ ?_
    ·rintro k2 res H2 ⟨rfl,rfl⟩;exact⟨rfl,rfl⟩
    rintro k2 res H2 ⟨rfl,rfl⟩
    change DS _ _ _ _ _ _ _ _
    cases hb:hasF S ⟨l.pred,l.terms.map (vA (cx e))⟩ with
    | true =>
     rw [hb] at hlW w4
     rw [hlW,if_neg (by simp),fewW_nil h4,putW_nil h4]
     repeat' (first|refine z0 ?_|refine z12 ?_|apply ag|refine z5 ?_|refine z10 ?_|apply ae|refine z16 ?_|refine z20 ?_|apply aj|apply aa|refine z22 ?_ (hc:=by apply w4)|(refine z23 ?_ ?_ <;> intro hg)|fail)
     all_goals try (exfalso;first|omega|exact hk1 hg|exact hg hk4|exact hk4 hg|exact hk3 hg|exact hg hk3)
     exact⟨.inl rfl,_,rfl,fun j=>match j with|3=>5|j=>j,4,_,pfH r S e out,rfl,⟨rfl,rfl,rfl,rfl,trivial⟩,rfl,rfl,rfl,rfl,rfl,rfl,rfl,rfl,rfl⟩
    | false =>
     rw [hb] at hlW w4
     rw [hlW,if_pos (by simp)]
     repeat' (first|refine z0 ?_|apply ag|refine z5 ?_|refine z10 ?_|apply ae|refine z16 ?_|refine z20 ?_|apply aa|refine z22 ?_ (hc:=by apply w4)|(refine z23 ?_ ?_ <;> intro hg)|fail)
     all_goals try (exfalso;first|omega|exact hk1 hg|exact hg hk4|exact hk4 hg|exact hk3 hg|exact hg hk3)
     (refine ds_callVF id (hth) rfl rfl rfl rfl rfl rfl ⟨rfl,rfl,rfl,rfl,rfl,rfl,trivial⟩ rfl rfl rfl rfl rfl rfl ?_ ?_)
     ·rintro k2 res H2 ⟨rfl,rfl,rfl⟩;exact⟨rfl,rfl⟩
     rintro k2 res H2 ⟨rfl,rfl,rfl⟩
     change DS _ _ _ _ _ _ _ _
     repeat' (first|refine z0 ?_|apply ag|apply aj|apply aa)
     exact⟨.inl rfl,_,rfl,fun j=>match j with|3=>12|j=>j,4,_,pfH r S e _,rfl,⟨rfl,rfl,rfl,rfl,trivial⟩,rfl,rfl,rfl,rfl,rfl,rfl,rfl,rfl,rfl⟩
theorem find_fn (r:Rul) (S:List Fct) (hS:Strict S) (hS2:S.length≤4398046511104):∀ (n:Nat) (left:List Ltl),left.length=n→FindOk r S left
 | 0,left,h=>by rw [List.eq_nil_of_length_eq_zero h];exact find_nil r S
 | n + 1,left,h=>find_step r S hS hS2 left (fun h0=>by rw [h0] at h;cases h) fun i hi=>find_fn r S hS hS2 n _ (by rw [List.length_eraseIdx,if_pos hi];omega)
end Go.Proofs.YtapciiffpnociaaGreat
namespace Go.Proofs.YtapciiffpnociaaGreat
open Go Go.RowKit Go.Sort Go.Shelf
section
variable {β : Type}
def Held.val {X:Nat→Prop} {w:World} {enc:β→List D} (h:Held X w 1 enc):Value:=h.vs.headD undef
theorem Held.vs1 {X:Nat→Prop} {w:World} {enc:β→List D} (h:Held X w 1 enc):h.vs=[h.val]:=by
 have:=h.len
 unfold Held.val
 match hv:h.vs,this with
 | [v],_=>rfl
theorem sort1_heap {α:Type} [Inhabited α] {w:World} {g n:Nat} {os:Array Obj} {cur:Array Value} {e:TypeId} {fr:Nat × Nat} (enc:α→Value) (d:Array α) (hb:w.heap[g]? = some (.cells cur e fr)) :
  (sortWorld enc w g 0 n d os).heap[g]? = some (.cells (putCells enc 0 d cur) e fr):=by
 have hg:g < w.heap.size:=(Array.getElem?_eq_some_iff.1 hb).1
 unfold sortWorld
 rw [heap_grow_old _ _ (by simpa using hg)]
 simp [putRow,mapBlock,Sort.ahead,Array.getElem?_modify,hb,onCells]
theorem sort1_other {α:Type} [Inhabited α] {w:World} {g n:Nat} {os:Array Obj} (enc:α→Value) (d:Array α) {b:Nat} (hb:b < w.heap.size) (hne:b≠g) :
  (sortWorld enc w g 0 n d os).heap[b]? = w.heap[b]?:=by
 unfold sortWorld
 rw [heap_grow_old _ _ (by simpa using hb)]
 have:g≠b:=fun h=>hne h.symm
 simp [putRow,mapBlock,Sort.ahead,Array.getElem?_modify,this]
theorem sort1_size {α:Type} [Inhabited α] {w:World} {g n:Nat} {os:Array Obj} (enc:α→Value) (d:Array α):w.heap.size≤(sortWorld enc w g 0 n d os).heap.size:=by
 unfold sortWorld
 simp
theorem take_putCells1 {α:Type} [Inhabited α] (enc:α→Value) (cur:Array Value) (d:Array α) (h:d.size≤cur.size):(putCells enc 0 d cur).toList.take d.size=d.toList.map enc:=by
 apply List.ext_getElem?
 intro j
 by_cases hj:j < d.size
 ·rw [List.getElem?_take_of_lt hj,Array.getElem?_toList,List.getElem?_map,Array.getElem?_toList,Array.getElem?_eq_getElem hj]
  simp [putCells,hj,show j < cur.size by omega]
 ·rw [List.getElem?_take_eq_none (by omega),List.getElem?_eq_none (by simp;omega)]
variable {P : Program} {τ : List (Nat × TI)} {τok : d7 P τ} {ρ : Ren}
theorem sort_row1 (L:SlLaysF.n6 P ρ) (enc:β→List D) (hes:∀ x,(enc x).length=1) (cf:β→β→Int) (hO:SWO (ltOf cf)) (g:Nat)
  (hc:∀ a b,FnP true P τ τok g ((enc a++enc b).map .d) (fun r=>r = .d (.int .i64 (cf a b)))) (te:TypeId) (l:List β) (hl:l.length < 4611686018427387904)
  {X:Nat→Prop} {e:Env} {w:World} {i:Nat} (hXo:∀ c,HB.owned e (i,.row te 1 (l.map enc))=some c→X c) (hXl:∀ b,X b→b < w.heap.size) (hrow:HRel X e w (i,.row te 1 (l.map enc))) :
  Calls P (ρ.f 6) #[e.η i,.func (.func g) #[] #[]] w fun en w'=>en = .returned (.tuple #[])∧w.heap.size≤w'.heap.size∧w'.os=w.os∧w'.tape=w.tape∧w'.output=w.output ∧
   (∀ c,c < w.heap.size→HB.owned e (i,.row te 1 (l.map enc))≠some c→w'.heap[c]? = w.heap[c]?)∧∃ l':List β,l'.Perm l∧l'.Pairwise (fun a b=>cf b a ≥ 0)∧HRel X e w' (i,.row te 1 (l'.map enc)):=by
 obtain⟨us,hown,hlen,hone2,hrep⟩:=hrow
 by_cases hne:l=[]
 ·subst hne
  obtain⟨p,cap,hv⟩:∃ p cap,e.η i = .slice p 0 cap:=by
   rcases hown.2 with ⟨hv,_⟩|⟨gb,cap,cur,hv,_⟩
   ·exact⟨_,_,hv⟩
   ·exact⟨_,_,hv⟩
  rw [hv]
  refine (AnyF.slices_SortFunc_none { L with } p cap _ w).mono ?_
  rintro en w' ⟨rfl,rfl⟩
  exact⟨rfl,Nat.le_refl _,rfl,rfl,rfl,fun _ _ _=>rfl,[],.refl _,.nil,us,hown,hlen,hone2,hrep⟩
 ·have hpos:0 < l.length:=List.length_pos_iff.2 hne
  have lm:(l.map enc).length=l.length:=List.length_map _
  obtain⟨hul,hcase⟩:=hown
  rw [lm] at hul hcase
  rcases hcase with ⟨_,h⟩|⟨gb,cap,cur,hv,_,hblk,hnc,hcm,hcs,htk⟩
  ·omega
  have hgb:gb < w.heap.size:=(Array.getElem?_eq_some_iff.1 hblk).1
  have howned:∀ (m:List (List D)),HB.owned e (i,.row te 1 m)=some gb:=fun m=>by simp [HB.owned,hv,Value.ownBlock]
  have hXg:X gb:=hXo gb (howned _)
  obtain⟨d,d1,d2⟩:=held_of (X:=X) (w:=w) (enc:=enc) hes l us hul hone2 (fun i hi j hj=>by
   obtain⟨v,q1,q2⟩:=hrep i (by rw [lm];exact hi) j (by simpa using hj)
   exact⟨v,q1,by simpa using q2⟩)
  have hdl:d.length=l.length:=by rw [← d1,List.length_map]
  haveI:Inhabited (Held X w 1 enc):=⟨d[0]'(by omega)⟩
  have hflat:∀ (q:List (Held X w 1 enc)),(q.map Held.vs).flatten=q.map Held.val:=by
   intro q
   induction q with
   | nil=>rfl
   | cons x q ih=>rw [List.map_cons,List.flatten_cons,ih,x.vs1];rfl
  have hF:d.map Held.val=us:=by rw [← hflat,d2]
  have hHold:Holds (Held.val (X:=X) (w:=w) (enc:=enc)) w gb 0 d.toArray:=by
   intro t ht
   have ht':t < l.length:=by simpa [hdl] using ht
   have hc1:cur[t]? = us[t]?:=by
    rw [← htk,List.getElem?_take,if_pos (by omega),Array.getElem?_toList]
   refine⟨?_,by simp [World.frozen?,hblk]⟩
   simp only [World.cell?,hblk,Nat.zero_add]
   simp only [Option.isSome_none,Bool.false_eq_true,if_false]
   rw [hc1,← hF,List.getElem?_map,getElem!_pos _ t ht]
   have:d[t]? = some d[t]:=List.getElem?_eq_getElem (by omega)
   rw [this]
   simp
  have hcmp:CmpLays1 P g #[] (Held.val (X:=X) (w:=w) (enc:=enc)) (fun x y=>cf x.x y.x) gb 0 d.toArray.size w:=by
   intro m os dk hdk x y
   generalize hW:sortWorld Held.val w gb 0 m dk os=W
   have hWs:w.heap.size≤W.heap.size:=hW▸sort1_size _ _
   have hWb:∀ b,b < w.heap.size→¬ X b→W.heap[b]? = w.heap[b]?:=fun b hb hx=>hW▸sort1_other _ _ hb fun h=>hx (h▸hXg)
   have hXW:∀ b,X b→b < W.heap.size:=fun b hb=>Nat.lt_of_lt_of_le (hXl b hb) hWs
   have hel:∀ z:Held X w 1 enc,RelL X e W ((enc z.x).map .d) [z.val]:=fun z=>by
    have:=relL_d (X:=X) (e:=e) (w:=W) (enc z.x) z.vs (by rw [z.len,hes]) fun j hj=>by
     obtain⟨v,q1,q2⟩:=z.rep j hj
     exact⟨v,q1,RepC.keep hWs hWb (fun _ _ h=>h) q2⟩
    rw [z.vs1] at this
    exact this
   have hk:=(hc x.x y.x).2 X (e.ren id 0) W [x.val,y.val] ⟨fun _=>Iff.rfl,by simp,by simp,by simp [aw],by simp [aw],rfl,rfl,rfl,fun _=>Nat.le_refl _,Nat.le_refl _,fun _ _ _=>rfl,fun b hb=>⟨hXW b hb,by simp [aw]⟩,fun j hj=>absurd hj (Nat.not_lt_zero j),fun j hj=>absurd hj (Nat.not_lt_zero j)⟩ ?_
   ·refine hk.mono ?_
    rintro en w' ⟨k',r,H',e',v,⟨rfl,hlr,rfl⟩,rfl,hH2,hrel⟩
    refine⟨?_,grown_eq hH2.os hH2.tape hH2.output (hH2.drawn rfl) hH2.size fun b hb=>hH2.block b hb (by simp [aw])⟩
    cases hrel
    rfl
   ·have hXX:∀ b,Ctx.X ⟨P,τ,τok,X,W,fun b=>b∈aw (e.ren id 0) [],0,0,(e.ren id 0).an,none,dm,true,true⟩ (e.ren id 0) [] b↔X b:=fun b=>by unfold Ctx.X;simp [aw]
    refine RelL.keep (Nat.le_refl _) (fun _ _ _=>rfl) (fun b _ h=>(hXX b).1 h) _ _ (X:=X) (w:=W) ?_
    rw [List.map_append]
    exact RelL.append _ _ _ _ (RelL.env _ _ (lowL_d _) (hel x)) (RelL.env _ _ (lowL_d _) (hel y))
  have hOα:SWO (ltOf fun x y:Held X w 1 enc=>cf x.x y.x):=⟨fun x=>hO.irrefl x.x,fun x y z=>hO.trans x.x y.x z.x,fun x y z=>hO.ntrans x.x y.x z.x⟩
  have eg:∀ args w,(callFunc g args).run P w = .ok (.enter g args) w:=run_call ((if h:l.length=0 then by omega else (hc (l[0]'hpos) (l[0]'hpos)).1))
  have hone:OneCell (Held.val (X:=X) (w:=w) (enc:=enc)):=fun x=>x.one _ (by rw [x.vs1];simp)
  have hs:=Any.slices_SortFunc L (Held.val (X:=X) (w:=w) (enc:=enc)) hone (fun x y=>cf x.x y.x) hOα g #[] gb 0 cap d.toArray w eg hcmp hHold hgb (by simpa [hdl] using hl)
  have hsz:d.toArray.size=l.length:=by simpa using hdl
  rw [hsz] at hs
  rw [hv]
  refine hs.mono ?_
  rintro en w' ⟨rfl,d',m,os,hp,hso,rfl⟩
  have hd's:d'.size=l.length:=hp.1.trans hsz
  have hperm:d'.toList.Perm d:=by
   have:=hp.2.2
   rwa [show d'.extract 0 l.length=d' by rw [← hd's];simp,show d.toArray.extract 0 l.length=d.toArray by rw [← hsz];simp] at this
  refine⟨rfl,sort1_size _ _,rfl,rfl,rfl,fun c hc hne=>sort1_other _ _ hc fun h=>hne (by rw [howned,h]),d'.toList.map Held.x,d1▸hperm.map _,?_,?_⟩
  ·rw [List.pairwise_map,List.pairwise_iff_getElem]
   intro i j hi hj hij
   have h1:=hso i j (Nat.zero_le _) hij (by simpa [hd's] using hj)
   rw [getElem!_pos d' i (by simpa using hi),getElem!_pos d' j (by simpa using hj)] at h1
   have h2:¬ cf d'[j].x d'[i].x < 0:=of_decide_eq_false h1
   simp only [Array.getElem_toList]
   omega
  ·have hl':(d'.toList.map Held.x).length=l.length:=by simp [hd's]
   refine⟨d'.toList.map Held.val,⟨?_,.inr ⟨gb,cap,_,hv▸?_,Nat.zero_le _,sort1_heap _ _ hblk,?_,hcm,by simp [putCells,hcs],?_⟩⟩,?_,?_,?_⟩
   ·simp
   ·simp [hd's]
   ·simp [hd's];exact hnc
   ·have:(d'.toList.map Held.x).length * 1=d'.size:=by simp
    rw [List.length_map,this]
    exact take_putCells1 _ _ _ (by rw [hd's,hcs];omega)
   ·intro j hj;rw [List.getElem_map];exact hes _
   ·intro v hv'
    obtain⟨z,_,rfl⟩:=List.mem_map.1 hv'
    exact hone z
   ·intro i' hi' j hj
    rw [List.length_map,hl'] at hi'
    have hz:i' < d'.size:=by omega
    simp only [List.getElem_map,Array.getElem_toList] at hj ⊢
    have hj0:j=0:=by have:=hes (d'[i'].x);omega
    subst hj0
    obtain⟨v,q1,q2⟩:=d'[i'].rep 0 (by simpa using hj)
    refine⟨v,?_,RepC.keep (sort1_size _ _) (fun b hb hx=>sort1_other _ _ hb fun h=>hx (h▸hXg)) (fun b _ h=>h) q2⟩
    rw [List.getElem?_map,Array.getElem?_toList,Nat.mul_one,Nat.add_zero,Array.getElem?_eq_getElem hz]
    rw [d'[i'].vs1] at q1
    simpa using q1
end
open Go Go.RowKit Go.Sort
theorem swoL:Go.Sort.SWO (ltOf ep) where
 irrefl x:=by unfold ltOf;rw [ordL_self];rfl
 trans x y z h g:=decide_eq_true (ordL_trans (of_decide_eq_true h) (of_decide_eq_true g))
 ntrans x y z h g:=by
  have h:=of_decide_eq_false h
  have g:=of_decide_eq_false g
  refine decide_eq_false ?_
  have:=ordL_le_trans (a:=z) (b:=y) (c:=x) (by rw [ku];omega) (by rw [ku];omega)
  rw [ku] at this
  omega
theorem sortWays_c:SortC Tryz.prog 153 101 22 1 jp ep:=fun l hl _ _ _ _ h1 h2 h3 =>
 sort_row1 (ρ:=Tryz.sortWays_ren) Tryz.sortWays jp (fun _=>rfl) ep swoL 101 (fun a b=>compareInts_fnD true a b) 22 l hl h1 h2 h3
attribute [local irreducible] DW DS DL DQ Ev FnOk FnP em b9 DT
set_option maxHeartbeats 8000000 in
theorem equalI_fn (a b:List Int):Fn 155 [.d (.slice 1 (a.map bi)),.d (.slice 1 (b.map bi))] (fun r=>r = .d (.bool (decide (a=b)))):=by
 refine ak _ Tryz.func155 rfl rfl (by kernel_rfl) ?_
 intro O w0 E0 β0
 have la:(a.map bi).length=a.length:=List.length_map _
 have lb:(b.map bi).length=b.length:=List.length_map _
 refine dw_len (t:=0) rfl (fun hk=>?_)
 by_cases hl:a.length=b.length
 ·repeat' (first|refine z0 ?_|apply ag|apply ae|refine z16 ?_|apply ah|apply ai|apply aj|apply aa|apply av|(refine z23 ?_ ?_ <;> intro hg)|fail)
  all_goals try (exfalso;omega)
  refine bh (ι:=Nat) (fun i=>⟨0,[(0,.d (.slice 1 (a.map bi))),(1,.d (.slice 1 (b.map bi))),(12,.d (.int .i64 a.length)),(13,.d (.int .i64 i))],[]⟩)
   (fun i=>i≤a.length∧a.take i=b.take i) (fun i=>a.length - i) 0 ⟨Nat.zero_le _,rfl⟩ (ap id ⟨rfl,rfl,by rw [← la];rfl,rfl,trivial⟩ trivial rfl rfl rfl rfl rfl rfl) ?_
  rintro i ⟨g1,g2⟩
  dsimp only at g1 g2 ⊢
  by_cases hi:i < a.length
  ·have hb:i < b.length:=by omega
   by_cases he:a[i]=b[i]
   ·repeat' (first|refine z0 ?_|apply ag|refine z5 ?_|refine z10 ?_|apply ae|refine z16 ?_|refine z20 ?_|apply ah|apply ai|apply au|apply aj|apply aa|apply aq|apply av|apply bg|apply br|refine z17 ?_|(refine z23 ?_ ?_ <;> intro hg)|fail)
    all_goals try (exfalso;omega)
    all_goals try (exfalso;exact hg he)
    exact⟨i + 1,⟨hi,by rw [List.take_succ_eq_append_getElem hi,List.take_succ_eq_append_getElem hb,g2,he]⟩,ap id ⟨rfl,rfl,rfl,rfl,trivial⟩ trivial rfl rfl rfl rfl rfl rfl,by omega⟩
   ·have hne:a≠b:=fun h=>he (by subst h;rfl)
    rw [decide_eq_false hne]
    repeat' (first|refine z0 ?_|apply ag|refine z5 ?_|refine z10 ?_|apply ae|refine z16 ?_|refine z20 ?_|apply ah|apply ai|apply au|apply aj|apply aa|apply aq|apply av|apply bg|apply br|refine z17 ?_|(refine z23 ?_ ?_ <;> intro hg)|fail)
    all_goals try (exfalso;omega)
    all_goals exact⟨.inl rfl,_,rfl,rfl,rfl⟩
  ·rw [List.take_of_length_le (by omega),List.take_of_length_le (by omega)] at g2
   rw [decide_eq_true g2]
   repeat' (first|refine z0 ?_|apply ag|refine z5 ?_|refine z10 ?_|apply ae|refine z16 ?_|refine z20 ?_|apply ah|apply ai|apply au|apply aj|apply aa|apply aq|apply av|apply bg|apply br|refine z17 ?_|(refine z23 ?_ ?_ <;> intro hg)|fail)
   all_goals try (exfalso;omega)
   all_goals exact⟨.inl rfl,_,rfl,rfl,rfl⟩
 ·have hne:a≠b:=fun h=>hl (by rw [h])
  rw [decide_eq_false hne]
  repeat' (first|refine z0 ?_|apply ag|apply ae|refine z16 ?_|apply ah|apply ai|apply aj|apply aa|apply av|(refine z23 ?_ ?_ <;> intro hg)|fail)
  all_goals try (exfalso;omega)
  all_goals exact⟨.inl rfl,_,rfl,rfl,rfl⟩
set_option maxHeartbeats 8000000 in
theorem compactW_fn (l:List (List Int)) (hn:l.Nodup) (hl:l.length≤1000000):FnOk false Tryz.prog tab cn 154 [.row 0,.fn 155 []] 0 1 [(0,.row 22 1 (l.map jp))] (fun _ r H=>r = .d (.slice 1 (l.map jp))∧H=[]):=by
 refine fn_enterF _ Tryz.func154 rfl rfl (by kernel_rfl) ?_
 intro O w0 E0 β0
 have ll:(l.map jp).length=l.length:=List.length_map _
 by_cases h2:l.length < 2
 ·repeat' (first|refine z0 ?_|apply ag|apply ae|refine z16 ?_|apply ah|apply ai|apply aa|(refine z23 ?_ ?_ <;> intro hg)|fail)
  all_goals try (exfalso;omega)
  refine ba (dp 4 rfl rfl rfl) ?_
  repeat' (first|apply aj|apply av)
  exact⟨.inl rfl,_,rfl,0,[],trivial,rfl,rfl,rfl,rfl,rfl,rfl⟩
 ·repeat' (first|refine z0 ?_|apply ag|apply ae|refine z16 ?_|apply ah|apply ai|apply aa|(refine z23 ?_ ?_ <;> intro hg)|fail)
  all_goals try (exfalso;omega)
  refine bh (ι:=Nat) (fun i=>⟨1,[(0,.row 0),(1,.fn 155 []),(5,.d (.int .i64 i))],[(0,.row 22 1 (l.map jp))]⟩)
   (fun i=>1≤i∧i≤l.length) (fun i=>l.length - i) 1 ⟨by omega,by omega⟩ (ap id ⟨rfl,rfl,rfl,trivial⟩ ⟨rfl,trivial⟩ rfl rfl rfl rfl rfl rfl) ?_
  rintro i ⟨g0,g1⟩
  by_cases hi:i < l.length
  ·have hne:l[i]≠l[i - 1]'(by omega):=fun h=>by
    have:=(List.getElem_inj hn).1 h
    omega
   have hs:Fn 155 [.d (.slice 1 ((l[i]).map bi)),.d (.slice 1 ((l[((i:Int) - 1).toNat]'(by omega)).map bi))] (fun r=>r = .d (.bool false)):=by
    have e:((i:Int) - 1).toNat=i - 1:=by omega
    simp only [e]
    have h:=equalI_fn l[i] (l[i - 1]'(by omega))
    rw [decide_eq_false hne] at h
    exact h
   repeat' (first|refine z0 ?_|apply ag|refine z5 ?_|refine z10 ?_|apply ae|refine z16 ?_|refine z20 ?_|apply ah|apply ai|apply au|refine z19 ?_|apply aa|apply aq|apply bg|refine z17 ?_|(apply ik;exact rfl;exact rfl;exact rfl;exact rfl;apply hs;exact rfl;(exact rfl);exact rfl;exact rfl;exact⟨_,rfl⟩;rintro _ rfl)|(refine z23 ?_ ?_ <;> intro hg)|fail)
   all_goals try (exfalso;omega)
   exact⟨i + 1,⟨by omega,by omega⟩,ap id ⟨rfl,rfl,rfl,trivial⟩ ⟨rfl,trivial⟩ rfl rfl rfl rfl rfl rfl,by show l.length - (i + 1) < l.length - i;omega⟩
  ·repeat' (first|refine z0 ?_|apply ag|refine z5 ?_|apply ae|refine z16 ?_|refine z20 ?_|apply ah|apply ai|apply au|apply aa|apply aq|refine z17 ?_|(refine z23 ?_ ?_ <;> intro hg)|fail)
   all_goals try (exfalso;omega)
   refine ba (dp 4 rfl rfl rfl) ?_
   repeat' (apply aj)
   exact⟨.inl rfl,_,rfl,0,[],trivial,rfl,rfl,rfl,rfl,rfl,rfl⟩
open Go Go.RowKit
def ed (S:List Fct) (r:Rul):Bool:=decide ((waysL S r.vars.toNat r.body).length≤2000)
def gk (S:List Fct) (r:Rul):List (List Int):=if ed S r then waysL S r.vars.toNat r.body else []
structure RulS (S:List Fct) (r:Rul):Prop where
 ok:okB S r.vars.toNat r.body
 bd:Bd r.body (List.replicate r.vars.toNat false)
 vars:0≤r.vars∧r.vars≤8
set_option maxHeartbeats 8000000 in
theorem raw_fn (S:List Fct) (r:Rul) (hS:Strict S) (hS2:S.length≤4398046511104) (hr:RulS S r):Fn 141 [elRul r,.d (.slice 2 (S.map a6))] (fun res=>res = .tup [.d (.slice 1 ((gk S r).map jp)),.d (.bool (ed S r))]):=by
 refine ak _ Tryz.func141 rfl rfl (by kernel_rfl) ?_
 intro O w0 E0 β0
 have hv:=hr.vars
 have hnd:S.Nodup:=hS.imp fun h he=>by subst he;exact lt_irrefl h
 obtain⟨p1,p2,p3⟩:=ways_perm hnd hr.ok.lit hr.bd
 have w:=find_fn r S hS hS2 r.body.length r.body rfl (e0 r.vars.toNat) [] (by rw [show (e0 r.vars.toNat).length=r.vars.toNat from List.length_replicate];exact hr.ok) (fun v x hx=>by
  unfold e0 at hx;rw [List.getElem?_replicate] at hx;split at hx <;> simp at hx) (by rw [hasE_e0];exact hr.bd) (by simp)
 have hlen:(waysL S r.vars.toNat r.body).length=(gz S r.body.length r.body (e0 r.vars.toNat)).length:=((jd S r.vars.toNat r.body).trans p1.symm).length_eq
 have hnodup:=(p1.nodup_iff).2 p2
 have hperm:=p1
 clear p1 p2 p3
 have hfew:fewW (gz S r.body.length r.body (e0 r.vars.toNat)) []=ed S r:=by unfold fewW ed;rw [hlen];simp
 rw [hfew] at w
 have hput:ed S r=true→lz (gz S r.body.length r.body (e0 r.vars.toNat)) []=gz S r.body.length r.body (e0 r.vars.toNat):=fun h=>by
  unfold ed at h
  have:=of_decide_eq_true h
  unfold lz
  rw [List.nil_append,List.take_of_length_le (by omega)]
 generalize gz S r.body.length r.body (e0 r.vars.toNat)=fw at *
 generalize lz fw []=pw at *
 repeat' (first|refine z0 ?_|apply ag|refine z5 ?_|apply ae|refine z16 ?_|refine z20 ?_|apply aa|refine z1 ?_|fail)
 all_goals try (exfalso;omega)
 refine dt_new rfl rfl rfl ⟨rfl,hv.1,?_,?_⟩ rfl rfl rfl rfl rfl ?_
 ·show 8 * r.vars.toNat≤_;omega
 ·unfold maxLen;omega
 repeat' refine z5 ?_
 refine dt_new rfl rfl rfl ⟨rfl,hv.1,?_,?_⟩ rfl rfl rfl rfl rfl ?_
 ·show 1 * r.vars.toNat≤_;omega
 ·unfold maxLen;omega
 repeat' ((fail_if_success (apply kb 2));(first|refine z5 ?_|refine z7 ?_|refine z11 ?_|apply ae|apply aa))
 refine ba (k0 10 9 22 1 rfl rfl rfl) ?_
 refine ba (ap (k':=5) (L':=[(2,.loc 4 0),(6,.loc 0 0)]) (H':=(4,.blk 77 [.d (.int .i64 r.pred),.d (.slice 2 (r.terms.map bw)),.d (.int .i64 r.fold),.d (.slice 4 (r.body.map bt)),.d (.int .i64 r.vars)])::pfH r S (e0 r.vars.toNat) []) (fun j=>match j with|0=>10|1=>5|2=>8|3=>12|4=>0|j=>j)
  ⟨rfl,rfl,trivial⟩ ⟨rfl,rfl,by rw [outE_e0,List.map_replicate];rfl,by rw [hasE_e0,List.map_replicate];rfl,rfl,trivial⟩ rfl rfl rfl rfl rfl rfl) ?_
 repeat' (first|refine z0 ?_|apply ae|refine z16 ?_|fail)
 (refine b8 id (w) rfl rfl rfl rfl ⟨rfl,rfl,rfl,rfl,trivial⟩ rfl rfl rfl rfl rfl rfl ?_ ?_)
 ·rintro k2 res H2 ⟨rfl,rfl,rfl⟩;exact⟨rfl,rfl⟩
 rintro k2 res H2 ⟨rfl,rfl,rfl⟩
 change DS _ _ _ _ _ _ _ _
 clear w
 unfold gk
 cases hm:ed S r with
 | false =>
  rw [if_neg (by simp)]
  repeat' (first|refine z0 ?_|apply ag|apply ae|refine z16 ?_|refine z18 ?_|apply aa)
  all_goals try (exfalso;omega)
  refine ba (cr 4 1 rfl) ?_
  repeat' (first|apply aj|apply av)
  exact⟨.inl rfl,_,rfl,rfl,rfl⟩
 | true =>
  have hp:=hput hm
  have hl2:fw.length≤2000:=by rw [← hlen];unfold ed at hm;exact of_decide_eq_true hm
  rw [if_pos rfl]
  subst hp
  repeat' (first|refine z0 ?_|apply ag|apply ae|refine z16 ?_|apply ai|refine z19 ?_|apply aa)
  all_goals try (exfalso;omega)
  refine ds_sort sortWays_c pw (by kernel_rfl) rfl rfl rfl rfl rfl rfl (by omega) ?_
  intro l' h6 h7
  have hsort:SortW l':=h7.imp fun {a b} h=>by rw [ku];omega
  have hl':l' = waysL S r.vars.toNat r.body:=waysL_eq hsort (h6.trans hperm)
  have hnd':l'.Nodup:=h6.nodup_iff.2 hnodup
  have w2:=compactW_fn l' hnd' (by rw [h6.length_eq];omega)
  rw [← hl']
  repeat' (first|refine z0 ?_|apply ag|apply ae|refine z16 ?_|apply aa)
  all_goals try (exfalso;omega)
  refine b8 (fun _=>8) w2 rfl rfl rfl rfl ⟨rfl,trivial⟩ rfl rfl rfl rfl rfl rfl ?_ ?_
  ·rintro k2 res H2 ⟨rfl,rfl⟩;exact⟨rfl,rfl⟩
  rintro k2 res H2 ⟨rfl,rfl⟩
  change DS _ _ _ _ _ _ _ _
  repeat' (first|refine z0 ?_|apply ag|apply aj|apply aa)
  exact⟨.inl rfl,_,rfl,rfl,rfl⟩



theorem tokAt_37 (l:List UInt8):(c8 (37::l)).1=0:=by
 rw [iq,if_neg (by unfold f8 iu ji;decide),if_neg (by unfold ek;decide),if_neg (by unfold pairB;cases l <;> simp),if_neg (by decide)]
theorem tokAt_32 (l:List UInt8):(c8 (32::l)).1=0:=by
 rw [iq,if_neg (by unfold f8 iu ji;decide),if_neg (by unfold ek;decide),if_neg (by unfold pairB;cases l <;> simp),if_neg (by decide)]
theorem tokAt_9 (l:List UInt8):(c8 (9::l)).1=0:=by
 rw [iq,if_neg (by unfold f8 iu ji;decide),if_neg (by unfold ek;decide),if_neg (by unfold pairB;cases l <;> simp),if_neg (by decide)]
theorem tokAt_10 (l:List UInt8):(c8 (10::l)).1=0:=by
 rw [iq,if_neg (by unfold f8 iu ji;decide),if_neg (by unfold ek;decide),if_neg (by unfold pairB;cases l <;> simp),if_neg (by decide)]
theorem tokErr_kind {k:Int} {n:Nat} {c:UInt8} (h:er k n c=0):k≠0:=by
 intro hk
 rw [tokErr_eq,if_pos hk] at h
 cases h
theorem drop_byte (s:ByteArray) (i:Nat) (h:i < s.size):s.data.toList.drop i=s[i]::s.data.toList.drop (i + 1):=by
 rw [List.drop_eq_getElem_cons (by simpa using h)];rfl
theorem ext_list (s:ByteArray) (i n:Nat):(s.extract i (i + n)).data.toList=(s.data.toList.drop i).take n:=by
 simp [ByteArray.data_extract,Array.toList_extract,List.extract_eq_take_drop]
theorem bytes_inj {a b:ByteArray} (h:a.data.toList=b.data.toList):a=b:=ByteArray.ext (Array.ext' h)
theorem scan_one (s:ByteArray) (i:Nat) (k:Int) (n:Nat) (h:i < s.size) (ht:c8 (s.data.toList.drop i)=(k,n)) (he:er k n s[i]=0) :
  ct s false i=(ct s false (i + n)).map (Tok.mk k i (s.extract i (i + n))::·):=by
 have hk:=tokErr_kind he
 have hd:=drop_byte s i h
 have hb:∀ c:UInt8,(∀ l,(c8 (c::l)).1=0)→s[i]≠c:=by
  intro c hc e
  rw [hd,e] at ht
  have:=hc (s.data.toList.drop (i + 1))
  rw [ht] at this
  exact hk this
 have h37:=hb 37 tokAt_37
 have h32:=hb 32 tokAt_32
 have h9:=hb 9 tokAt_9
 have h10:=hb 10 tokAt_10
 have:=scanAt_tok s i h (by simpa using h37) (by simp [h32,h9,h10]) (by rw [ht];exact he)
 rw [ht] at this
 exact this
def Chain (s:ByteArray):Nat→List Tok→Prop
 | _,[]=>True
 | i,t::l=>∃ j,i≤j∧t.at_=j∧(∃ h:j < s.size,c8 (s.data.toList.drop j)=(t.kind,t.text.size)∧er t.kind t.text.size s[j]=0)∧j + t.text.size≤s.size∧t.text=s.extract j (j + t.text.size)∧Chain s (j + t.text.size) l
theorem Chain.mono {s:ByteArray} {i i':Nat} {l:List Tok} (h:Chain s i' l) (hi:i≤i'):Chain s i l:=by
 cases l with
 | nil=>trivial
 | cons t l =>
  obtain⟨j,h1,h2⟩:=h
  exact⟨j,Nat.le_trans hi h1,h2⟩
theorem scanGo_chain (s:ByteArray):∀ (f:Nat) (note:Bool) (i:Nat) (l:List Tok),gh s f note i = .ok l→Chain s i l:=by
 intro f
 induction f with
 | zero =>
  intro note i l h
  simp only [gh] at h
  cases h
  trivial
 | succ f ih =>
  intro note i l h
  simp only [gh] at h
  by_cases hi:i < s.size
  ·rw [dif_pos hi] at h
   split at h
   ·exact (ih _ _ _ h).mono (by omega)
   ·split at h
    ·exact (ih _ _ _ h).mono (by omega)
    ·split at h
     ·rename_i he
      cases hr:gh s f false (i + (c8 (s.data.toList.drop i)).2) with
      | error e=>rw [hr] at h;cases h
      | ok l' =>
       rw [hr] at h
       cases h
       have hle:=tokAt_le (s.data.toList.drop i)
       rw [List.length_drop,show s.data.toList.length=s.size from Array.length_toList] at hle
       have hsz:(s.extract i (i + (c8 (s.data.toList.drop i)).2)).size=(c8 (s.data.toList.drop i)).2:=by rw [ByteArray.size_extract];omega
       exact⟨i,Nat.le_refl _,rfl,⟨hi,by rw [hsz],by rw [hsz];exact he⟩,by rw [hsz];omega,by rw [hsz],by rw [hsz];exact ih _ _ _ hr⟩
     ·cases h
  ·rw [dif_neg hi] at h
   cases h
   trivial
theorem scanGo_err (s:ByteArray):∀ (f:Nat) (note:Bool) (i:Nat) (p e:Int),gh s f note i = .error (p,e)→e≠0:=by
 intro f
 induction f with
 | zero =>
  intro note i p e h
  simp only [gh] at h
  cases h
 | succ f ih =>
  intro note i p e h
  simp only [gh] at h
  by_cases hi:i < s.size
  ·rw [dif_pos hi] at h
   split at h
   ·exact ih _ _ _ _ h
   ·split at h
    ·exact ih _ _ _ _ h
    ·split at h
     ·cases hr:gh s f false (i + (c8 (s.data.toList.drop i)).2) with
      | error e'=>rw [hr] at h;cases h;exact ih _ _ _ _ hr
      | ok l'=>rw [hr] at h;cases h
     ·rename_i he
      injection h with h
      injection h with h1 h2
      rw [← h2];exact he
  ·rw [dif_neg hi] at h
   cases h
theorem scanS_chain (s:ByteArray) (l:List Tok) (p:Int) (h:scanS s=(l,p,0)):Chain s 0 l∧s.size≤5000∧p=0:=by
 unfold scanS at h
 split at h
 ·injection h with h1 h2;injection h2 with h2 h3;cases h3
 ·rename_i hs
  split at h
  ·rename_i l' hl
   injection h with h1 h2
   injection h2 with h2 h3
   subst h1
   unfold ct at hl
   exact⟨scanGo_chain _ _ _ _ _ hl,by omega,h2.symm⟩
  ·rename_i p' e hl
   injection h with h1 h2
   injection h2 with h2 h3
   subst h1
   unfold ct at hl
   exact absurd h3 (scanGo_err _ _ _ _ _ _ hl)
theorem isTok_eq (kind:Int) (s:ByteArray):isTok kind s=true↔∃ h:0 < s.size,s.size≤5000∧c8 s.data.toList=(kind,s.size)∧er kind s.size s[0]=0:=by
 unfold isTok
 by_cases h:0 < s.size
 ·rw [dif_pos h]
  simp only [Bool.and_eq_true,decide_eq_true_eq]
  constructor
  ·rintro⟨⟨⟨⟨h1,h2⟩,h3⟩,h4⟩,h5⟩
   exact⟨h,h1,Prod.ext h3 h4,h5⟩
  ·rintro⟨_,h1,h2,h3⟩
   exact⟨⟨⟨⟨h1,tokErr_kind h3⟩,by rw [h2]⟩,by rw [h2]⟩,h3⟩
 ·rw [dif_neg h]
  exact⟨fun h'=>absurd h' Bool.false_ne_true,fun⟨h',_⟩=>absurd h' h⟩
theorem oneS_eq (kind:Int) (s:ByteArray):oneS kind s=isTok kind s:=by
 rw [Bool.eq_iff_iff,isTok_eq]
 constructor
 ·intro h
  unfold oneS at h
  split at h
  ·rename_i t p e hs
   simp only [Bool.and_eq_true,decide_eq_true_eq] at h
   obtain⟨h1,h2,h3⟩:=h
   subst h1
   obtain⟨⟨j,g1,g2,⟨g3,g4,g5⟩,g6,g7,_⟩,hsz,_⟩:=scanS_chain s [t] p hs
   rw [h3] at g4 g5 g6
   have hj:j=0:=by omega
   subst hj
   rw [h2] at g4 g5
   exact⟨g3,hsz,g4,g5⟩
  ·cases h
 ·rintro⟨h,h1,h2,h3⟩
  have:=scan_one s 0 kind s.size h h2 h3
  rw [scanAt_end s false (0 + s.size) (by omega)] at this
  have hext:s.extract 0 (0 + s.size)=s:=bytes_inj (by rw [ext_list,List.drop_zero];exact List.take_of_length_le (Nat.le_of_eq (Array.length_toList (xs:=s.data))))
  rw [hext] at this
  unfold oneS
  rw [scanS_ok s (by omega) _ this]
  simp
end Go.Proofs.YtapciiffpnociaaGreat
namespace Go.Proofs.YtapciiffpnociaaGreat
open Go Go.RowKit
theorem name_eq:nameS=du:=by
 funext s
 unfold nameS du
 rw [oneS_eq]
theorem scheck_fn (p:Prg):Fn 23 [jl p] (fun x=>x = .d (.int .i64 (dh du p))):=name_eq▸check_fn p
def factsE (arity:List Int) (l:List Fct):Int:=if 60 < l.length then 2 else cu (ky arity) l
attribute [local irreducible] DW DS DL DQ Ev FnOk FnP em b9 DT
set_option maxHeartbeats 8000000 in
theorem right1_fn (n:Int):Fn 95 [.d (.int .i64 n)] (fun r=>r = .d (.bool (!numB n))):=by
 refine ak _ Tryz.func95 rfl rfl (by kernel_rfl) ?_
 intro O w0 E0 β0
 repeat' (first|refine z0 ?_|apply ag|apply ae|refine z16 ?_|apply aj|apply aa|refine z21 ?_ (hc:=by apply snumber_fn)|fail)
 exact⟨.inl rfl,_,rfl,rfl,rfl⟩
set_option maxHeartbeats 8000000 in
theorem fright_fn (p:Prg) (x:Fct):Fn 53 [jl p,ey x] (fun r=>r = .d (.int .i64 (ky p.arity x))):=by
 refine ak _ Tryz.func53 rfl rfl (by kernel_rfl) ?_
 intro O w0 E0 β0
 have la:(p.arity.map bi).length=p.arity.length:=List.length_map _
 have lx:(x.args.map bi).length=x.args.length:=List.length_map _
 refine dw_lenA 0 0 rfl rfl fun hk=>?_
 have w1:=containsFuncInt_fn (caps:=[]) (f:=95) (fun n=>!numB n) x.args rfl (fun n _=>right1_fn n)
 have w0:Fn 82 [.d (.int .i64 x.pred),.d (.int .i64 0),.d (.int .i64 (((p.arity.map bi).length:Int) - 1))] (fun r=>r = .d (.bool (inR x.pred 0 ((p.arity.length:Int) - 1)))):=by rw [la];exact fb _ _ _
 unfold ky
 cases h1:inR x.pred 0 ((p.arity.length:Int) - 1) with
 | false =>
  rw [h1] at w0
  rw [if_pos rfl]
  repeat' (first|refine z0 ?_|apply ag|apply ae|refine z16 ?_|apply ah|apply aj|refine z18 ?_|apply aa|apply av|apply br|refine z21 ?_ (hc:=by apply w0)|refine z1 ?_|fail)
  all_goals try (exfalso;omega)
  exact⟨.inl rfl,_,rfl,rfl,rfl⟩
 | true =>
  rw [h1] at w0
  rw [if_neg (by simp)]
  have hr:0≤x.pred∧x.pred < p.arity.length:=by unfold inR at h1;simp at h1;omega
  have hlt:x.pred.toNat < p.arity.length:=by omega
  have hg':p.arity.getD x.pred.toNat 0=p.arity[x.pred.toNat]:=by rw [List.getD,List.getElem?_eq_getElem hlt];rfl
  rw [hg']
  by_cases h2:(x.args.length:Int)≠p.arity[x.pred.toNat]
  ·rw [if_pos h2]
   repeat' (first|refine z0 ?_|apply ag|refine z5 ?_|refine z10 ?_|apply ae|refine z16 ?_|refine z20 ?_|apply ah|apply aj|refine z19 ?_|apply aa|apply av|apply br|refine z21 ?_ (hc:=by apply w0)|refine z1 ?_|(refine z23 ?_ ?_ <;> intro hg)|fail)
   all_goals try (exfalso;omega)
   exact⟨.inl rfl,_,rfl,rfl,rfl⟩
  ·rw [if_neg h2]
   cases h3:x.args.any (fun n=>!numB n) with
   | true =>
    rw [h3] at w1
    repeat' (first|refine z0 ?_|apply ag|refine z5 ?_|refine z10 ?_|apply ae|refine z16 ?_|refine z20 ?_|apply ah|apply aj|refine z18 ?_|refine z19 ?_|apply aa|apply av|apply br|refine z21 ?_ (hc:=by apply w0)|refine z21 ?_ (hc:=by apply w1)|refine z1 ?_|(refine z23 ?_ ?_ <;> intro hg)|fail)
    all_goals try (exfalso;omega)
    exact⟨.inl rfl,_,rfl,rfl,rfl⟩
   | false =>
    rw [h3] at w1
    repeat' (first|refine z0 ?_|apply ag|refine z5 ?_|refine z10 ?_|apply ae|refine z16 ?_|refine z20 ?_|apply ah|apply ai|apply aj|refine z19 ?_|apply aa|apply av|apply bg|apply br|refine z21 ?_ (hc:=by apply w0)|refine z21 ?_ (hc:=by apply w1)|refine z1 ?_|(refine z23 ?_ ?_ <;> intro hg)|fail)
    all_goals try (exfalso;omega)
    exact⟨.inl rfl,_,rfl,rfl,rfl⟩
end Go.Proofs.YtapciiffpnociaaGreat
