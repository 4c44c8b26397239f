/- Several texts in one: TreO ShwG TreJ TreL TreR TreV TreW TreX. Condition: none. -/
import Derived.Test.YtapciiffpnociabDoorS12
import Derived.Test.YtapciiffpnociabDoorS11
import Derived.Test.YtapciiffpnociabDoorS10
import Derived.Test.YtapciiffpnociabDoorS09
import Derived.Test.YtapciiffpnociabDoorS08
namespace Go.Proofs.YtapciiffpnociabDoor
open Go Go.RowKit
def sameTTm (a b:TTm):Bool:=decide (a.var=b.var) && decide (a.n=b.n)
def sameTLt (at_:Bool) (x y:TLt):Bool:=(!at_ || decide (x.at_=y.at_)) && (decide (x.kind=y.kind) && (decide (x.op=y.op) && (decide (x.name=y.name) && sameL sameTTm x.terms y.terms)))
def sameTRu (at_:Bool) (a b:TRu):Bool:=(!at_ || decide (a.at_=b.at_)) && (decide (a.name=b.name) && (decide (a.fold=b.fold) && (sameL sameTTm a.terms b.terms && sameL (sameTLt at_) a.body b.body)))
theorem ttm_not {x y:TTm} {b:Bool} (h:(!(decide (x.var=y.var) && (decide (x.n=y.n) && true))) = !b):sameTTm x y=b:=by
 unfold sameTTm
 rw [Bool.and_true] at h
 exact Bool.not_inj h
def headSame (at_:Bool) (a b:TRu):Bool:=(!at_ || decide (a.at_=b.at_)) && (decide (a.name=b.name) && (decide (a.fold=b.fold) && sameL sameTTm a.terms b.terms))
theorem sameTRu_eq (at_:Bool) (a b:TRu):sameTRu at_ a b=(headSame at_ a b && sameL (sameTLt at_) a.body b.body):=by
 unfold sameTRu headSame
 simp only [Bool.and_assoc]
attribute [local irreducible] DW DS DL DQ Ev FnOk FnP thenD inBlockD DT
set_option maxHeartbeats 8000000 in
theorem sameTTms_fn (l m:List (TTm)):Fn 15 [.d (.slice 2 (l.map encTTm)),.d (.slice 2 (m.map encTTm))] (fun r=>r = .d (.bool (sameL sameTTm l m))):=by
 refine fnp_enter' _ Tryd.func15 rfl rfl (by kernel_rfl) ?_
 intro O w0 E0 β0
 refine dw_len_map (t:=0) rfl fun hb=>?_
 repeat' (first|refine z0 ?_|apply ds_nil|apply dw_seq2|refine z16 ?_|apply thenD_n)
 refine dw_condP rfl (fun h=>?_) (fun h=>?_)
 ·have hne:l.length≠m.length:=by rw [List.length_map,List.length_map] at h;omega
  repeat' (first|refine z0 ?_|apply ds_nil|apply dw_seq2|refine z16 ?_|apply dw_ret|apply thenD_n|apply thenD_r)
  exact ret_b rfl (sameL_len _ _ _ hne).symm
 ·have hlen:l.length=m.length:=by rw [List.length_map,List.length_map] at h;omega
  repeat' (first|refine z0 ?_|apply ds_nil|apply dw_seq2|refine z16 ?_|apply dw_block|apply dw_skip|apply thenD_n)
  refine ds_loop (ι:=Nat) (fun i=>⟨0,[(0,.d (.slice 2 (l.map encTTm))),(1,.d (.slice 2 (m.map encTTm))),(5,.d (.int .i64 i))],[]⟩)
   (fun i=>i≤l.length∧sameL sameTTm l m=sameL sameTTm (l.drop i) (m.drop i)) (fun i=>l.length - i) 0 ⟨Nat.zero_le _,rfl⟩
   (ent_ren id ⟨rfl,rfl,rfl,trivial⟩ trivial rfl rfl rfl rfl rfl rfl) ?_
  rintro i ⟨h1,h2⟩
  repeat' (first|refine z0 ?_|apply ds_nil|apply dw_seq2|refine z16 ?_|apply thenD_n)
  refine dw_condP rfl (fun h=>?_) (fun h=>?_)
  ·have hi:i < l.length:=by rw [List.length_map] at h;omega
   have hm:i < m.length:=by omega
   have hd:=sameL_drop sameTTm l m i hi hm
   repeat' (first|refine z5 ?_|refine z10 ?_|apply dw_seq2|refine z20 ?_|apply dw_block|apply dw_skip|apply thenD_n)
   refine dw_cond rfl (fun hb=>?_) (fun hb=>?_)
   ·have hp:sameTTm l[i] m[i]=false:=by exact ttm_not hb
    repeat' (first|refine z0 ?_|apply ds_nil|apply dw_seq2|refine z16 ?_|apply dw_ret|apply thenD_n|apply thenD_r|apply inB_r)
    exact ret_b rfl (by rw [h2,hd,hp];rfl)
   ·have hp:sameTTm l[i] m[i]=true:=by exact ttm_not hb
    repeat' (first|refine z0 ?_|apply ds_nil|refine z16 ?_|apply dw_skip|apply thenD_n|apply inB_n)
    exact⟨i + 1,⟨hi,by rw [h2,hd,hp];rfl⟩,ent_ren id ⟨rfl,rfl,rfl,trivial⟩ trivial rfl rfl rfl rfl rfl rfl,by omega⟩
  ·repeat' (first|refine z0 ?_|apply ds_nil|apply dw_seq2|refine z16 ?_|apply dw_exit|apply dw_ret|apply thenD_n|apply thenD_e|refine z17 ?_|fail)
   exact ret_b rfl (by rw [h2,sameL_end _ _ _ _ (by rw [List.length_map] at h;omega) (by rw [List.length_map] at h;omega)])
set_option maxHeartbeats 8000000 in
theorem sameTree_fn (rs us:List TRu) (atb:Bool):Fn 7 [.agg [.d (.slice 5 (rs.map encTRu))],.agg [.d (.slice 5 (us.map encTRu))],.d (.bool atb)] (fun o=>o = .d (.bool (sameL (sameTRu atb) rs us))):=by
 refine fnp_enter' _ Tryd.func7 rfl rfl (by kernel_rfl) ?_
 intro O w0 E0 β0
 have lr:(rs.map encTRu).length=rs.length:=List.length_map _
 have lu:(us.map encTRu).length=us.length:=List.length_map _
 refine dw_lenA 0 0 rfl rfl (fun hml=>?_)
 rw [lr] at hml
 have hml:rs.length≤9223372036854775807:=hml
 by_cases hlen:rs.length=us.length
 ·repeat' (first|refine z0 ?_|apply ds_nil|apply dw_seq2|refine z16 ?_|apply dw_block|apply dw_skip|apply dw_ret|apply thenD_n|apply thenD_r|refine z1 ?_|(refine z23 ?_ ?_ <;> intro hg)|fail)
  all_goals try (exfalso;omega)
  refine ds_loop (ι:=Nat) (fun i=>⟨2,[(2,.d (.bool atb)),(3,.loc 0 0),(4,.loc 1 0),(7,.d (.int .i64 i))],[(0,treeB rs),(1,treeB us)]⟩)
   (fun i=>i≤rs.length∧sameL (sameTRu atb) rs us=sameL (sameTRu atb) (rs.drop i) (us.drop i)) (fun i=>rs.length - i) 0 ⟨Nat.zero_le _,rfl⟩ (ent_ren id ⟨rfl,rfl,rfl,rfl,trivial⟩ ⟨rfl,rfl,trivial⟩ rfl rfl rfl rfl rfl rfl) ?_
  rintro i ⟨hi,hs⟩
  dsimp only at hi hs ⊢
  by_cases hil:i < rs.length
  ·have hiu:i < us.length:=by omega
   rw [sameL_drop _ rs us i hil hiu] at hs
   have w1:=sameTTms_fn rs[i].terms us[i].terms
   have lb:(rs[i].body.map encTLt).length=rs[i].body.length:=List.length_map _
   have lc:(us[i].body.map encTLt).length=us[i].body.length:=List.length_map _
   repeat' ((fail_if_success (apply dw_stopR 7));(first|refine z0 ?_|apply ds_nil|refine z5 ?_|refine z6 ?_|refine z7 ?_|refine z11 ?_|apply dw_seq2|refine z16 ?_|refine z20 ?_|apply dw_block|apply dw_skip|apply dw_exit|apply thenD_n|apply thenD_e|refine z17 ?_|(refine z23 ?_ ?_ <;> intro hg)|fail))
   all_goals try (exfalso;omega)
   refine dw_cut (ι:=Unit) (fun _=>⟨4,[(2,.d (.bool atb)),(3,.loc 0 0),(4,.loc 1 0),(7,.d (.int .i64 i)),(8,.loc 2 0),(9,.loc 3 0)],[(0,treeB rs),(1,treeB us),(2,truB rs[i]),(3,truB us[i])]⟩) (fun _=>headSame atb rs[i] us[i]=true∧rs[i].body.length=us[i].body.length) ?_ ?_
   ·have hret:headSame atb rs[i] us[i]=false∨rs[i].body.length≠us[i].body.length→sameL (sameTRu atb) rs us=false:=by
     intro h
     rw [hs,sameTRu_eq]
     rcases h with h|h
     ·rw [h];rfl
     ·rw [sameL_len _ _ _ h,Bool.and_false];rfl
    cases atb <;> cases hb1:sameL sameTTm rs[i].terms us[i].terms
    all_goals
     rw [hb1] at w1
     repeat' (first|refine z0 ?_|refine z12 ?_|apply ds_nil|apply dw_seq2|refine z16 ?_|apply dw_skip|apply dw_ret|refine z18 ?_|apply thenD_n|apply thenD_r|apply inB_r|refine z21 ?_ (hc:=by apply w1)|(refine z23 ?_ ?_ <;> intro hg)|((fail_if_success (apply ds_known;exact rfl));apply ds_guardP;exact rfl;exact rfl;exact rfl;all_goals intro hg))
    all_goals try (exfalso;omega)
    all_goals first
     | exact ret_b rfl (hret (.inl (by unfold headSame;first|(simp_all;done)|(simp_all;omega)))).symm
     | exact ret_b rfl (hret (.inr (by omega))).symm
     | exact⟨(),⟨by unfold headSame;first|(simp_all;done)|(simp_all;omega),by omega⟩,ent_ren (fun x=>match x with|0=>0|1=>1|2=>12|_=>13) ⟨rfl,rfl,rfl,rfl,rfl,rfl,trivial⟩ ⟨rfl,rfl,rfl,rfl,trivial⟩ rfl rfl rfl rfl rfl rfl⟩
   ·rintro _ ⟨hh,hbl⟩
    rw [sameTRu_eq,hh,Bool.true_and] at hs
    clear w1
    repeat' (first|refine z0 ?_|apply ds_nil|apply dw_seq2|refine z16 ?_|apply dw_block|apply thenD_n)
    refine ds_loop (ι:=Nat) (fun k=>⟨4,[(2,.d (.bool atb)),(3,.loc 0 0),(4,.loc 1 0),(7,.d (.int .i64 i)),(8,.loc 2 0),(9,.loc 3 0),(10,.d (.int .i64 k))],[(0,treeB rs),(1,treeB us),(2,truB rs[i]),(3,truB us[i])]⟩)
     (fun k=>k≤rs[i].body.length∧sameL (sameTLt atb) rs[i].body us[i].body=sameL (sameTLt atb) (rs[i].body.drop k) (us[i].body.drop k)) (fun k=>rs[i].body.length - k) 0 ⟨Nat.zero_le _,rfl⟩ (ent_ren id ⟨rfl,rfl,rfl,rfl,rfl,rfl,rfl,trivial⟩ ⟨rfl,rfl,rfl,rfl,trivial⟩ rfl rfl rfl rfl rfl rfl) ?_
    rintro k ⟨hk,hks⟩
    dsimp only at hk hks ⊢
    by_cases hkb:k < rs[i].body.length
    ·have hkc:k < us[i].body.length:=by omega
     rw [sameL_drop _ rs[i].body us[i].body k hkb hkc] at hks
     have w1:=sameTTms_fn rs[i].body[k].terms us[i].body[k].terms
     have hret:sameTLt atb rs[i].body[k] us[i].body[k]=false→sameL (sameTRu atb) rs us=false:=by
      intro h
      rw [hs,hks,h];rfl
     have hnext:sameTLt atb rs[i].body[k] us[i].body[k]=true→sameL (sameTLt atb) rs[i].body us[i].body=sameL (sameTLt atb) (rs[i].body.drop (k + 1)) (us[i].body.drop (k + 1)):=by
      intro h
      rw [hks,h];rfl
     repeat' (first|refine z0 ?_|apply ds_nil|apply dw_seq2|refine z16 ?_|apply thenD_n)
     refine dw_len (t:=78) rfl (fun hm2=>?_)
     have hm2:rs[i].body.length≤9223372036854775807:=by rw [lb] at hm2;exact hm2
     repeat' ((fail_if_success (apply dw_stopR 13));(first|refine z0 ?_|refine z12 ?_|apply ds_nil|refine z5 ?_|refine z6 ?_|refine z7 ?_|refine z11 ?_|apply dw_seq2|refine z16 ?_|refine z20 ?_|apply dw_block|apply dw_skip|apply dw_exit|refine z18 ?_|apply thenD_n|apply thenD_e|apply inB_n|refine z17 ?_|(refine z23 ?_ ?_ <;> intro hg)|((fail_if_success (apply ds_known;exact rfl));apply ds_guardP;exact rfl;exact rfl;exact rfl;all_goals intro hg)|((fail_if_success (apply ds_known;exact rfl));apply ds_guardB;exact rfl;exact rfl;exact rfl;all_goals intro hg)))
     all_goals try (exfalso;omega)
     all_goals (cases atb <;> cases hb1:sameL sameTTm rs[i].body[k].terms us[i].body[k].terms)
     all_goals
      rw [hb1] at w1
      repeat' (first|refine z0 ?_|apply ds_nil|apply dw_seq2|refine z16 ?_|apply dw_skip|apply dw_ret|refine z18 ?_|refine z19 ?_|apply thenD_n|apply thenD_r|apply inB_n|apply inB_r|refine z21 ?_ (hc:=by apply w1)|fail)
     all_goals try (exfalso;omega)
     all_goals first
      | exact ret_b rfl (hret (by unfold sameTLt;first|(simp_all;done)|(simp_all;omega))).symm
      | exact⟨k + 1,⟨by omega,hnext (by unfold sameTLt;first|(simp_all;done)|(simp_all;omega))⟩,ent_ren id ⟨rfl,rfl,rfl,rfl,rfl,rfl,rfl,trivial⟩ ⟨rfl,rfl,rfl,rfl,trivial⟩ rfl rfl rfl rfl rfl rfl,by show rs[i].body.length - (k + 1) < rs[i].body.length - k;omega⟩
    ·rw [sameL_end _ _ _ _ (by omega) (by omega)] at hks
     rw [hks,Bool.true_and] at hs
     repeat' (first|refine z0 ?_|refine z12 ?_|apply ds_nil|refine z5 ?_|refine z6 ?_|refine z7 ?_|refine z11 ?_|apply dw_seq2|refine z16 ?_|refine z20 ?_|apply dw_block|apply dw_skip|apply dw_exit|apply dw_ret|refine z18 ?_|apply thenD_n|apply thenD_e|apply thenD_r|apply inB_n|apply inB_r|refine z17 ?_|(refine z23 ?_ ?_ <;> intro hg)|((fail_if_success (apply ds_known;exact rfl));apply ds_guardP;exact rfl;exact rfl;exact rfl;all_goals intro hg)|((fail_if_success (apply ds_known;exact rfl));apply ds_guardB;exact rfl;exact rfl;exact rfl;all_goals intro hg))
     all_goals try (exfalso;omega)
     exact⟨i + 1,⟨by omega,hs⟩,ent_ren id ⟨rfl,rfl,rfl,rfl,trivial⟩ ⟨rfl,rfl,trivial⟩ rfl rfl rfl rfl rfl rfl,by show rs.length - (i + 1) < rs.length - i;omega⟩
  ·repeat' (first|refine z0 ?_|refine z12 ?_|apply ds_nil|refine z5 ?_|refine z6 ?_|refine z7 ?_|refine z11 ?_|apply dw_seq2|refine z16 ?_|refine z20 ?_|apply dw_block|apply dw_skip|apply dw_exit|apply dw_ret|refine z18 ?_|apply thenD_n|apply thenD_e|apply thenD_r|apply inB_r|refine z17 ?_|(refine z23 ?_ ?_ <;> intro hg)|((fail_if_success (apply ds_known;exact rfl));apply ds_guardP;exact rfl;exact rfl;exact rfl;all_goals intro hg)|((fail_if_success (apply ds_known;exact rfl));apply ds_guardB;exact rfl;exact rfl;exact rfl;all_goals intro hg))
   all_goals try (exfalso;omega)
   exact ret_b rfl (by rw [hs,sameL_end _ _ _ _ (by omega) (by omega)])
 ·repeat' (first|refine z0 ?_|apply ds_nil|apply dw_seq2|refine z16 ?_|apply dw_block|apply dw_skip|apply dw_ret|apply thenD_n|apply thenD_r|refine z1 ?_|(refine z23 ?_ ?_ <;> intro hg)|fail)
  all_goals try (exfalso;omega)
  exact ret_b rfl (sameL_len _ _ _ hlen).symm
set_option maxHeartbeats 8000000 in
theorem eqTerms_fn (l m:List TTm):Fn 36 [.d (.slice 2 (l.map encTTm)),.d (.slice 2 (m.map encTTm))] (fun r=>r = .d (.bool (sameL sameTTm l m))):=by
 refine fnp_enter' _ Tryd.func36 rfl rfl (by kernel_rfl) ?_
 intro O w0 E0 β0
 refine dw_len_map (t:=0) rfl fun hb=>?_
 refine dw_len_map (t:=1) rfl fun hb2=>?_
 have ll:(l.map encTTm).length=l.length:=List.length_map _
 have lm:(m.map encTTm).length=m.length:=List.length_map _
 by_cases hl:l.length=m.length
 ·repeat' (first|refine z0 ?_|apply ds_nil|apply dw_seq2|refine z16 ?_|apply dw_block|apply dw_skip|apply dw_ret|apply thenD_n|apply thenD_r|(refine z23 ?_ ?_ <;> intro hg)|fail)
  all_goals try (exfalso;omega)
  refine ds_loop (ι:=Nat) (fun i=>⟨0,[(0,.d (.slice 2 (l.map encTTm))),(1,.d (.slice 2 (m.map encTTm))),(12,.d (.int .i64 l.length)),(13,.d (.int .i64 i))],[]⟩)
   (fun i=>i≤l.length∧sameL sameTTm l m=sameL sameTTm (l.drop i) (m.drop i)) (fun i=>l.length - i) 0 ⟨Nat.zero_le _,rfl⟩ (ent_ren id ⟨rfl,rfl,by rw [← ll];rfl,rfl,trivial⟩ trivial rfl rfl rfl rfl rfl rfl) ?_
  rintro i ⟨g1,g2⟩
  dsimp only at g1 g2 ⊢
  by_cases hi:i < l.length
  ·have hm:i < m.length:=by omega
   rw [sameL_drop sameTTm l m i hi hm] at g2
   repeat' (first|refine z0 ?_|apply ds_nil|apply dw_seq2|refine z16 ?_|apply thenD_n)
   refine dw_condP rfl (fun h=>?_) (fun h=>?_)
   rotate_left
   ·exact absurd h (by omega)
   repeat' (first|refine z0 ?_|apply ds_nil|refine z5 ?_|refine z10 ?_|apply dw_seq2|refine z16 ?_|refine z20 ?_|apply dw_block|apply dw_skip|apply thenD_n)
   refine dw_cond rfl (fun hb=>?_) (fun hb=>?_)
   ·have hp:sameTTm l[i] m[i]=false:=ttm_not hb
    repeat' (first|refine z0 ?_|apply ds_nil|apply dw_seq2|refine z16 ?_|apply dw_ret|apply thenD_n|apply thenD_r|apply inB_r)
    exact ret_b rfl (by rw [g2,hp];rfl)
   ·have hp:sameTTm l[i] m[i]=true:=ttm_not hb
    repeat' (first|refine z0 ?_|apply ds_nil|refine z16 ?_|apply dw_skip|apply thenD_n|apply inB_n)
    all_goals try (exfalso;omega)
    exact⟨i + 1,⟨hi,by rw [g2,hp];rfl⟩,ent_ren id ⟨rfl,rfl,rfl,rfl,trivial⟩ trivial rfl rfl rfl rfl rfl rfl,by omega⟩
  ·rw [sameL_end sameTTm l m i (by omega) (by omega)] at g2
   repeat' (first|refine z0 ?_|apply ds_nil|refine z5 ?_|refine z10 ?_|apply dw_seq2|refine z16 ?_|refine z20 ?_|apply dw_block|apply dw_skip|apply dw_exit|apply dw_ret|apply thenD_n|apply thenD_e|apply thenD_r|apply inB_n|apply inB_r|refine z17 ?_|(refine z23 ?_ ?_ <;> intro hg)|(apply dw_cond;exact rfl;all_goals intro hg))
   all_goals try (exfalso;omega)
   exact⟨.inl rfl,_,rfl,rfl,by rw [g2];rfl⟩
 ·rw [sameL_len sameTTm l m hl]
  repeat' (first|refine z0 ?_|apply ds_nil|apply dw_seq2|refine z16 ?_|apply dw_block|apply dw_skip|apply dw_ret|apply thenD_n|apply thenD_r|(refine z23 ?_ ?_ <;> intro hg)|fail)
  all_goals try (exfalso;omega)
  exact⟨.inl rfl,_,rfl,rfl,rfl⟩
def sameLtP (x y:TLt):Bool:=decide (x.kind=y.kind) && (decide (x.op=y.op) && (decide (x.name=y.name) && sameL sameTTm x.terms y.terms))
def sameRuP (a b:TRu):Bool:=decide (a.name=b.name) && (sameL sameTTm a.terms b.terms && (decide (a.fold=b.fold) && sameL sameLtP a.body b.body))
set_option maxHeartbeats 8000000 in
theorem sameLit_fn (x y:TLt):Fn 38 ([elTLt x,elTLt y]++[]) (fun r=>r = .d (.bool (sameLtP x y))):=by
 refine fnp_enter' _ Tryd.func38 rfl rfl (by kernel_rfl) ?_
 intro O w0 E0 β0
 have w1:=eqTerms_fn x.terms y.terms
 unfold sameLtP
 cases hb1:sameL sameTTm x.terms y.terms
 all_goals
  rw [hb1] at w1
  repeat' (first|refine z0 ?_|refine z12 ?_|apply ds_nil|apply dw_seq2|refine z16 ?_|apply dw_ret|apply thenD_n|refine z21 ?_ (hc:=by apply w1)|refine z1 ?_|((fail_if_success (apply ds_known;exact rfl));apply ds_guardP;exact rfl;exact rfl;exact rfl;all_goals intro hg))
 all_goals try (exfalso;omega)
 all_goals exact ret_b rfl (by simp_all)
set_option maxHeartbeats 8000000 in
theorem eqLits_fn {f:FuncId} (l m:List (TLt)) (hp:∀ a b,Fn f ([elTLt a,elTLt b]++[]) (fun r=>r = .d (.bool (sameLtP a b)))):Fn 37 [.d (.slice 5 (l.map encTLt)),.d (.slice 5 (m.map encTLt)),.fn f []] (fun r=>r = .d (.bool (sameL sameLtP l m))):=by
 refine fnp_enter' _ Tryd.func37 rfl rfl (by kernel_rfl) ?_
 intro O w0 E0 β0
 refine dw_len_map (t:=0) rfl fun hb=>?_
 refine dw_len_map (t:=1) rfl fun hb2=>?_
 have ll:(l.map encTLt).length=l.length:=List.length_map _
 have lm:(m.map encTLt).length=m.length:=List.length_map _
 by_cases hl:l.length=m.length
 ·repeat' (first|refine z0 ?_|apply ds_nil|apply dw_seq2|refine z16 ?_|apply dw_block|apply dw_skip|apply dw_ret|apply thenD_n|apply thenD_r|(refine z23 ?_ ?_ <;> intro hg)|fail)
  all_goals try (exfalso;omega)
  refine ds_loop (ι:=Nat) (fun i=>⟨0,[(1,.d (.slice 5 (m.map encTLt))),(2,.fn f []),(15,.d (.slice 5 (l.map encTLt))),(16,.d (.int .i64 l.length)),(17,.d (.int .i64 i))],[]⟩)
   (fun i=>i≤l.length∧sameL (sameLtP) l m=sameL (sameLtP) (l.drop i) (m.drop i)) (fun i=>l.length - i) 0 ⟨Nat.zero_le _,rfl⟩ (ent_ren id ⟨rfl,rfl,rfl,by rw [← ll];rfl,rfl,trivial⟩ trivial rfl rfl rfl rfl rfl rfl) ?_
  rintro i ⟨g1,g2⟩
  dsimp only at g1 g2 ⊢
  by_cases hi:i < l.length
  ·have w:=hp l[i] (m[i]'(by omega))
   rw [sameL_drop (sameLtP) l m i hi (by omega)] at g2
   cases hs:sameLtP l[i] (m[i]'(by omega)) with
   | true =>
    rw [hs] at w
    rw [hs,Bool.true_and] at g2
    repeat' (first|refine z0 ?_|apply ds_nil|apply dw_seq2|refine z16 ?_|apply dw_block|apply dw_skip|apply dw_exit|apply dw_ret|refine z19 ?_|apply thenD_n|apply thenD_e|apply inB_n|refine z17 ?_|(apply ds_callV;exact rfl;exact rfl;exact rfl;exact rfl;apply w;exact rfl;(exact rfl);exact rfl;rintro _ rfl)|refine z1 ?_|refine z3 ?_|(refine z23 ?_ ?_ <;> intro hg)|fail)
    all_goals try (exfalso;omega)
    exact⟨i + 1,⟨hi,g2⟩,ent_ren id ⟨rfl,rfl,rfl,rfl,rfl,trivial⟩ trivial rfl rfl rfl rfl rfl rfl,by omega⟩
   | false =>
    rw [hs] at w
    rw [hs,Bool.false_and] at g2
    repeat' (first|refine z0 ?_|apply ds_nil|apply dw_seq2|refine z16 ?_|apply dw_block|apply dw_skip|apply dw_exit|apply dw_ret|refine z18 ?_|apply thenD_n|apply thenD_e|apply thenD_r|apply inB_r|refine z17 ?_|(apply ds_callV;exact rfl;exact rfl;exact rfl;exact rfl;apply w;exact rfl;(exact rfl);exact rfl;rintro _ rfl)|refine z1 ?_|refine z3 ?_|(refine z23 ?_ ?_ <;> intro hg)|fail)
    all_goals try (exfalso;omega)
    exact⟨.inl rfl,_,rfl,rfl,by rw [g2];rfl⟩
  ·rw [sameL_end (sameLtP) l m i (by omega) (by omega)] at g2
   repeat' (first|refine z0 ?_|apply ds_nil|apply dw_seq2|refine z16 ?_|apply dw_block|apply dw_skip|apply dw_exit|apply dw_ret|apply thenD_n|apply thenD_e|refine z17 ?_|refine z1 ?_|refine z3 ?_|(refine z23 ?_ ?_ <;> intro hg)|fail)
   all_goals try (exfalso;omega)
   exact⟨.inl rfl,_,rfl,rfl,by rw [g2];rfl⟩
 ·rw [sameL_len (sameLtP) l m hl]
  repeat' (first|refine z0 ?_|apply ds_nil|apply dw_seq2|refine z16 ?_|apply dw_block|apply dw_skip|apply dw_ret|apply thenD_n|apply thenD_r|(refine z23 ?_ ?_ <;> intro hg)|fail)
  all_goals try (exfalso;omega)
  exact⟨.inl rfl,_,rfl,rfl,rfl⟩
set_option maxHeartbeats 8000000 in
theorem sameRule_fn (a b:TRu):Fn 14 ([elTRu a,elTRu b]++[]) (fun r=>r = .d (.bool (sameRuP a b))):=by
 refine fnp_enter' _ Tryd.func14 rfl rfl (by kernel_rfl) ?_
 intro O w0 E0 β0
 have w1:=eqTerms_fn a.terms b.terms
 have w2:=eqLits_fn a.body b.body sameLit_fn
 unfold sameRuP
 cases hb1:sameL sameTTm a.terms b.terms <;> cases hb2:sameL sameLtP a.body b.body
 all_goals
  rw [hb1] at w1
  rw [hb2] at w2
  repeat' (first|refine z0 ?_|refine z12 ?_|apply ds_nil|apply dw_seq2|refine z16 ?_|apply dw_ret|apply thenD_n|refine z21 ?_ (hc:=by apply w1)|refine z21 ?_ (hc:=by apply w2)|refine z1 ?_|((fail_if_success (apply ds_known;exact rfl));apply ds_guardP;exact rfl;exact rfl;exact rfl;all_goals intro hg))
 all_goals try (exfalso;omega)
 all_goals exact ret_b rfl (by simp_all)
set_option maxHeartbeats 8000000 in
theorem eqRules_fn {f:FuncId} (l m:List (TRu)) (hp:∀ a b,Fn f ([elTRu a,elTRu b]++[]) (fun r=>r = .d (.bool (sameRuP a b)))):Fn 13 [.d (.slice 5 (l.map encTRu)),.d (.slice 5 (m.map encTRu)),.fn f []] (fun r=>r = .d (.bool (sameL sameRuP l m))):=by
 refine fnp_enter' _ Tryd.func13 rfl rfl (by kernel_rfl) ?_
 intro O w0 E0 β0
 refine dw_len_map (t:=0) rfl fun hb=>?_
 refine dw_len_map (t:=1) rfl fun hb2=>?_
 have ll:(l.map encTRu).length=l.length:=List.length_map _
 have lm:(m.map encTRu).length=m.length:=List.length_map _
 by_cases hl:l.length=m.length
 ·repeat' (first|refine z0 ?_|apply ds_nil|apply dw_seq2|refine z16 ?_|apply dw_block|apply dw_skip|apply dw_ret|apply thenD_n|apply thenD_r|(refine z23 ?_ ?_ <;> intro hg)|fail)
  all_goals try (exfalso;omega)
  refine ds_loop (ι:=Nat) (fun i=>⟨0,[(1,.d (.slice 5 (m.map encTRu))),(2,.fn f []),(15,.d (.slice 5 (l.map encTRu))),(16,.d (.int .i64 l.length)),(17,.d (.int .i64 i))],[]⟩)
   (fun i=>i≤l.length∧sameL (sameRuP) l m=sameL (sameRuP) (l.drop i) (m.drop i)) (fun i=>l.length - i) 0 ⟨Nat.zero_le _,rfl⟩ (ent_ren id ⟨rfl,rfl,rfl,by rw [← ll];rfl,rfl,trivial⟩ trivial rfl rfl rfl rfl rfl rfl) ?_
  rintro i ⟨g1,g2⟩
  dsimp only at g1 g2 ⊢
  by_cases hi:i < l.length
  ·have w:=hp l[i] (m[i]'(by omega))
   rw [sameL_drop (sameRuP) l m i hi (by omega)] at g2
   cases hs:sameRuP l[i] (m[i]'(by omega)) with
   | true =>
    rw [hs] at w
    rw [hs,Bool.true_and] at g2
    repeat' (first|refine z0 ?_|apply ds_nil|apply dw_seq2|refine z16 ?_|apply dw_block|apply dw_skip|apply dw_exit|apply dw_ret|refine z19 ?_|apply thenD_n|apply thenD_e|apply inB_n|refine z17 ?_|(apply ds_callV;exact rfl;exact rfl;exact rfl;exact rfl;apply w;exact rfl;(exact rfl);exact rfl;rintro _ rfl)|refine z1 ?_|refine z3 ?_|(refine z23 ?_ ?_ <;> intro hg)|fail)
    all_goals try (exfalso;omega)
    exact⟨i + 1,⟨hi,g2⟩,ent_ren id ⟨rfl,rfl,rfl,rfl,rfl,trivial⟩ trivial rfl rfl rfl rfl rfl rfl,by omega⟩
   | false =>
    rw [hs] at w
    rw [hs,Bool.false_and] at g2
    repeat' (first|refine z0 ?_|apply ds_nil|apply dw_seq2|refine z16 ?_|apply dw_block|apply dw_skip|apply dw_exit|apply dw_ret|refine z18 ?_|apply thenD_n|apply thenD_e|apply thenD_r|apply inB_r|refine z17 ?_|(apply ds_callV;exact rfl;exact rfl;exact rfl;exact rfl;apply w;exact rfl;(exact rfl);exact rfl;rintro _ rfl)|refine z1 ?_|refine z3 ?_|(refine z23 ?_ ?_ <;> intro hg)|fail)
    all_goals try (exfalso;omega)
    exact⟨.inl rfl,_,rfl,rfl,by rw [g2];rfl⟩
  ·rw [sameL_end (sameRuP) l m i (by omega) (by omega)] at g2
   repeat' (first|refine z0 ?_|apply ds_nil|apply dw_seq2|refine z16 ?_|apply dw_block|apply dw_skip|apply dw_exit|apply dw_ret|apply thenD_n|apply thenD_e|refine z17 ?_|refine z1 ?_|refine z3 ?_|(refine z23 ?_ ?_ <;> intro hg)|fail)
   all_goals try (exfalso;omega)
   exact⟨.inl rfl,_,rfl,rfl,by rw [g2];rfl⟩
 ·rw [sameL_len (sameRuP) l m hl]
  repeat' (first|refine z0 ?_|apply ds_nil|apply dw_seq2|refine z16 ?_|apply dw_block|apply dw_skip|apply dw_ret|apply thenD_n|apply thenD_r|(refine z23 ?_ ?_ <;> intro hg)|fail)
  all_goals try (exfalso;omega)
  exact⟨.inl rfl,_,rfl,rfl,rfl⟩
theorem sameLtP_eq:sameLtP=sameTLt false:=by
 funext x y
 unfold sameLtP sameTLt
 rfl
theorem sameRuP_eq:sameRuP=sameTRu false:=by
 funext a b
 unfold sameRuP sameTRu
 rw [sameLtP_eq]
 cases decide (a.name=b.name) <;> cases decide (a.fold=b.fold) <;> cases sameL sameTTm a.terms b.terms <;> rfl
set_option maxHeartbeats 8000000 in
theorem ssame_fn (rs us:List TRu):Fn 6 [.agg [.d (.slice 5 (rs.map encTRu))],.agg [.d (.slice 5 (us.map encTRu))]] (fun r=>r = .d (.bool (sameL (sameTRu false) rs us))):=by
 refine fnp_enter' _ Tryd.func6 rfl rfl (by kernel_rfl) ?_
 intro O w0 E0 β0
 have w1:=eqRules_fn rs us sameRule_fn
 rw [sameRuP_eq] at w1
 repeat' (first|refine z0 ?_|apply ds_nil|apply dw_seq2|refine z16 ?_|apply dw_ret|apply thenD_n|refine z21 ?_ (hc:=by apply w1)|refine z1 ?_|fail)
 exact ret_b rfl rfl
end Go.Proofs.YtapciiffpnociabDoor
namespace Go.Proofs.YtapciiffpnociabDoor
open Go Go.RowKit
section
variable {Γ : Ctx} {k : Nat} {L : Sl} {H : Hp}
end
abbrev treeV (rs:List TRu):SV:=.agg [.d (.slice 5 (rs.map encTRu))]
attribute [local irreducible] DW DS DL DQ Ev FnOk FnP FnOkE thenD inBlockD
theorem chain_atT {s:ByteArray}:∀ (l:List Tok) (i:Nat),Chain s i l→∀ t∈l,0≤t.at_∧t.at_≤s.size
 | [],_,_,_,ht=>nomatch ht
 | t::l,i,h,x,hx=>by
  obtain⟨j,_,hat,⟨hj,_,_⟩,_,_,h5⟩:=h
  rcases List.mem_cons.1 hx with rfl|hx
  ·omega
  ·exact chain_atT l _ h5 x hx
theorem chain_lenT {s:ByteArray}:∀ (l:List Tok) (i:Nat),Chain s i l→i≤s.size→l.length + i≤s.size
 | [],_,_,h=>by simpa using h
 | t::l,i,h,hi=>by
  obtain⟨j,hij,hat,⟨hj,h1,h2⟩,h3,h4,h5⟩:=h
  have hk:=tokErr_kind h2
  have hp:=tokAt_pos (s.data.toList.drop j) (by rw [h1];exact hk)
  rw [h1] at hp
  have:=chain_lenT l _ h5 (by omega)
  rw [List.length_cons]
  omega
def encParse (q:List TRu × Int × Int):SV:=.tup [treeV q.1,.d (.int .i64 q.2.1),.d (.int .i64 q.2.2)]
def smallS:ByteArray:=⟨#[113,40,49,44,32,50,41,46,10,112,40,88,44,32,99,111,117,110,116,32,89,41,32,58,45,32,113,40,88,44,32,89,41,44,32,110,111,116,32,114,40,89,41,44,32,88,32,60,32,89,46,10]⟩
def smallRs:List TRu:=[⟨0,⟨#[113]⟩,[⟨⟨#[]⟩,1⟩,⟨⟨#[]⟩,2⟩],0,[]⟩,⟨9,⟨#[112]⟩,[⟨⟨#[88]⟩,0⟩,⟨⟨#[89]⟩,0⟩],1,[⟨1,26,0,⟨#[113]⟩,[⟨⟨#[88]⟩,0⟩,⟨⟨#[89]⟩,0⟩]⟩,⟨2,35,0,⟨#[114]⟩,[⟨⟨#[89]⟩,0⟩]⟩,⟨3,45,1,⟨#[]⟩,[⟨⟨#[88]⟩,0⟩,⟨⟨#[89]⟩,0⟩]⟩]⟩]
theorem small_parse:parseS smallS=(smallRs,0,0):=by kernel_rfl
theorem small_check:checkT smallRs=0:=by kernel_rfl
attribute [local irreducible] DT
def textT (l:List Tok) (i:Nat) (f:Bool):ByteArray:=match f with
 | true=>⟨#[]⟩
 | false=>match l[i]? with
  | some t=>t.text
  | none=>⟨#[]⟩
theorem textT_sees {l:List Tok} {i:Nat} {s:ByteArray} (hs:s≠⟨#[]⟩):decide (textT l i false=s)=seesT l i s:=by
 unfold textT seesT
 dsimp only
 cases l[i]? with
 | none=>exact decide_eq_false (fun h=>hs h.symm)
 | some t=>rfl
theorem textT_failed (l:List Tok) (i:Nat):textT l i true=⟨#[]⟩:=rfl
abbrev rdH (l:List Tok) (i:Nat) (e:Int) (f:Bool):Hp:=[(0,.blk 53 [.d (.slice 3 (l.map encTok)),.d (.int .i64 i),.d (.int .i64 e),.d (.bool f)])]
set_option maxHeartbeats 8000000 in
theorem rhere_fn (l:List Tok) (i:Nat) (e:Int) (f:Bool):FnOk false Tryd.prog tab tab_ok 25 [.loc 0 0] 1 1 (rdH l i e f) (fun k r H=>k=1∧r = .d (.int .i64 (hereT l e i))∧H=rdH l i e f):=by
 refine fn_enterR _ Tryd.func25 rfl rfl (by kernel_rfl) ?_
 intro O w0 E0 β0
 have ll:(l.map encTok).length=l.length:=List.length_map _
 by_cases hi:i < l.length
 ·have hh:hereT l e i=l[i].at_:=by unfold hereT;rw [List.getElem?_eq_getElem hi]
  rw [hh]
  repeat' (first|refine z0 ?_|apply ds_nil|refine z5 ?_|refine z10 ?_|apply dw_seq2|refine z16 ?_|refine z20 ?_|apply dw_skip|apply dw_ret|apply thenD_n|apply thenD_r|(refine z23 ?_ ?_ <;> intro hg)|fail)
  all_goals try (exfalso;omega)
  exact⟨.inl rfl,_,rfl,id,1,_,rdH l i e f,rfl,⟨rfl,trivial⟩,rfl,rfl,rfl,rfl,rfl,rfl,rfl,rfl,rfl⟩
 ·have hh:hereT l e i=e:=by unfold hereT;rw [List.getElem?_eq_none (by omega)]
  rw [hh]
  repeat' (first|refine z0 ?_|apply ds_nil|refine z5 ?_|refine z10 ?_|apply dw_seq2|refine z16 ?_|refine z20 ?_|apply dw_skip|apply dw_ret|apply thenD_n|apply thenD_r|(refine z23 ?_ ?_ <;> intro hg)|fail)
  all_goals try (exfalso;omega)
  exact⟨.inl rfl,_,rfl,id,1,_,rdH l i e f,rfl,⟨rfl,trivial⟩,rfl,rfl,rfl,rfl,rfl,rfl,rfl,rfl,rfl⟩
set_option maxHeartbeats 8000000 in
theorem rtext_fn (l:List Tok) (i:Nat) (e:Int) (f:Bool):FnOk false Tryd.prog tab tab_ok 28 [.loc 0 0] 1 1 (rdH l i e f) (fun k r H=>k=1∧r = .d (.str (textT l i f))∧H=rdH l i e f):=by
 refine fn_enterR _ Tryd.func28 rfl rfl (by kernel_rfl) ?_
 intro O w0 E0 β0
 have ll:(l.map encTok).length=l.length:=List.length_map _
 unfold textT
 cases f with
 | true =>
  repeat' (first|refine z0 ?_|apply ds_nil|refine z5 ?_|refine z14 ?_|refine z10 ?_|apply dw_seq2|refine z16 ?_|refine z20 ?_|apply dw_ret|refine z18 ?_|apply thenD_n|apply thenD_r)
  all_goals try (exfalso;omega)
  exact⟨.inl rfl,_,rfl,id,1,_,rdH l i e true,rfl,⟨rfl,trivial⟩,rfl,rfl,rfl,rfl,rfl,rfl,rfl,rfl,rfl⟩
 | false =>
  dsimp only
  by_cases hi:i < l.length
  ·rw [List.getElem?_eq_getElem hi]
   dsimp only
   repeat' (first|refine z0 ?_|apply ds_nil|refine z5 ?_|refine z10 ?_|apply dw_seq2|refine z16 ?_|refine z20 ?_|apply dw_skip|apply dw_ret|apply thenD_n|apply thenD_r|(refine z23 ?_ ?_ <;> intro hg)|fail)
   all_goals try (exfalso;omega)
   exact⟨.inl rfl,_,rfl,id,1,_,rdH l i e false,rfl,⟨rfl,trivial⟩,rfl,rfl,rfl,rfl,rfl,rfl,rfl,rfl,rfl⟩
  ·rw [List.getElem?_eq_none (by omega)]
   dsimp only
   repeat' (first|refine z0 ?_|apply ds_nil|refine z5 ?_|refine z10 ?_|apply dw_seq2|refine z16 ?_|refine z20 ?_|apply dw_skip|apply dw_ret|apply thenD_n|apply thenD_r|(refine z23 ?_ ?_ <;> intro hg)|fail)
   all_goals try (exfalso;omega)
   exact⟨.inl rfl,_,rfl,id,1,_,rdH l i e false,rfl,⟨rfl,trivial⟩,rfl,rfl,rfl,rfl,rfl,rfl,rfl,rfl,rfl⟩
set_option maxHeartbeats 8000000 in
theorem rneed_fn (l:List Tok) (i:Nat) (e:Int) (f:Bool) (s:ByteArray) (hi:i≤1000000):FnOk false Tryd.prog tab tab_ok 29 [.loc 0 0,.d (.str s)] 1 1 (rdH l i e f) (fun k r H=>k=1∧r = .tup []∧H=match f with
  | true=>rdH l i e true
  | false=>match decide (textT l i false=s) with
   | true=>rdH l (i + 1:Nat) e false
   | false=>rdH l i e true):=by
 refine fn_enterR _ Tryd.func29 rfl rfl (by kernel_rfl) ?_
 intro O w0 E0 β0
 cases f with
 | true =>
  repeat' (first|refine z0 ?_|apply ds_nil|apply dw_seq2|refine z16 ?_|apply dw_ret|refine z18 ?_|apply thenD_n|apply thenD_r)
  exact⟨.inl rfl,_,rfl,id,1,_,rdH l i e true,rfl,⟨rfl,trivial⟩,rfl,rfl,rfl,rfl,rfl,rfl,rfl,rfl,rfl⟩
 | false =>
  have w1:=rtext_fn l i e false
  repeat' (first|refine z0 ?_|apply ds_nil|apply dw_seq2|refine z16 ?_|apply dw_skip|refine z19 ?_|apply thenD_n)
  (refine ds_callF id (w1) rfl rfl rfl rfl ⟨rfl,trivial⟩ rfl rfl rfl rfl rfl rfl ?_ ?_)
  ·rintro k2 res H2 ⟨rfl,rfl,rfl⟩;exact⟨rfl,rfl⟩
  rintro k2 res H2 ⟨rfl,rfl,rfl⟩
  change DS _ _ _ _ _ _ _ _
  clear w1
  generalize textT l i false=t
  by_cases hs:t=s
  ·rw [decide_eq_true hs]
   repeat' (first|refine z0 ?_|apply ds_nil|refine z16 ?_|apply thenD_n|refine z3 ?_|(refine z23 ?_ ?_ <;> intro hg)|fail)
   all_goals try (exfalso;exact absurd hs (by assumption))
   exact⟨.inr rfl,_,rfl,id,1,_,rdH l (i + 1:Nat) e false,rfl,⟨rfl,trivial⟩,rfl,rfl,rfl,rfl,rfl,rfl,rfl,rfl,rfl⟩
  ·rw [decide_eq_false hs]
   repeat' (first|refine z0 ?_|apply ds_nil|refine z16 ?_|apply thenD_n|refine z3 ?_|(refine z23 ?_ ?_ <;> intro hg)|fail)
   all_goals try (exfalso;exact absurd (by assumption) hs)
   exact⟨.inr rfl,_,rfl,id,1,_,rdH l i e true,rfl,⟨rfl,trivial⟩,rfl,rfl,rfl,rfl,rfl,rfl,rfl,rfl,rfl⟩
def rdRes {α:Type} (p:PR α) (l:List Tok) (e:Int) (enc:α→SV) (junk:SV→Prop) (r:SV) (H:Hp):Prop:=match p with
 | .ok (x,j)=>r=enc x∧H=rdH l j e false
 | .error j=>junk r∧H=rdH l j e true
def rdP {α:Type} (f:Bool) (i:Nat) (p:PR α):PR α:=match f with
 | true=>.error i
 | false=>p
theorem tok_first {t:Tok} (h:tokOk t=true):∃ h0:0 < t.text.size,greatB t.text[0]=decide (t.kind=2)∧digitB t.text[0]=decide (t.kind=3)∧smallB t.text[0]=decide (t.kind=1):=by
 obtain⟨h0,_,h2,h3⟩:=ok_parts h
 obtain⟨r,hr⟩:=first_byte t.text h0
 refine⟨h0,?_⟩
 rw [hr,tokAt_cons] at h2
 generalize t.text[0]=c at *
 have x1:smallB c=true→greatB c=false∧digitB c=false:=by
  unfold smallB greatB digitB
  simp only [Bool.and_eq_true,decide_eq_true_eq,Bool.and_eq_false_iff,decide_eq_false_iff_not]
  omega
 have x2:greatB c=true→digitB c=false:=by
  unfold greatB digitB
  simp only [Bool.and_eq_true,decide_eq_true_eq,Bool.and_eq_false_iff,decide_eq_false_iff_not]
  omega
 unfold letterB at h2
 have hne:t.kind≠0:=tokErr_kind h3
 cases hs:smallB c with
 | true =>
  obtain⟨y1,y2⟩:=x1 hs
  rw [hs] at h2
  simp only [Bool.true_or,if_true] at h2
  have:=(Prod.mk.inj h2).1
  rw [y1,y2,← this]
  decide
 | false =>
  cases hg:greatB c with
  | true =>
   have y2:=x2 hg
   rw [hs,hg] at h2
   simp only [Bool.or_true,if_true,Bool.false_eq_true,if_false] at h2
   have:=(Prod.mk.inj h2).1
   rw [y2,← this]
   decide
  | false =>
   rw [hs,hg] at h2
   simp only [Bool.or_self,Bool.false_eq_true,if_false] at h2
   cases hd:digitB c with
   | true =>
    rw [hd] at h2
    simp only [if_true] at h2
    have:=(Prod.mk.inj h2).1
    rw [← this]
    decide
   | false =>
    rw [hd] at h2
    simp only [Bool.false_eq_true,if_false] at h2
    have:t.kind=4∨t.kind=0:=by
     split at h2
     ·exact .inl (Prod.mk.inj h2).1.symm
     ·split at h2
      ·exact .inl (Prod.mk.inj h2).1.symm
      ·exact .inr (Prod.mk.inj h2).1.symm
    rcases this with h|h
    ·rw [h];decide
    ·exact absurd h hne
theorem nameRS (s:ByteArray):nameR s=nameS s:=by unfold nameR nameS;rw [oneS_eq]
theorem nameS_nil:nameS ⟨#[]⟩=false:=by kernel_rfl
def numK (s:ByteArray) (k:Nat):Int:=(s.data.toList.take k).foldl (fun n c=>10 * n + ((c.toNat:Int) - 48)) 0
theorem numK_all (s:ByteArray):numK s s.size=numT s:=by
 unfold numK numT
 rw [List.take_of_length_le (by rw [show s.data.toList.length=s.size from Array.length_toList];exact Nat.le_refl _)]
theorem numK_succ (s:ByteArray) (k:Nat) (h:k < s.size):numK s (k + 1)=10 * numK s k + (s[k].toNat:Int) - 48:=by
 unfold numK
 have hl:k < s.data.toList.length:=by rw [show s.data.toList.length=s.size from Array.length_toList];exact h
 rw [List.take_succ_eq_append_getElem hl,List.foldl_append]
 show 10 * _ + (((s.data.toList[k]).toNat:Int) - 48)=_
 have:s.data.toList[k]=s[k]:=by rw [Array.getElem_toList];rfl
 rw [this]
 omega
theorem fold_bound:∀ (l:List UInt8) (a:Int) (k:Nat),(∀ c∈l,digitB c=true)→0≤a→a < 10 ^ k→0≤l.foldl (fun n c=>10 * n + ((c.toNat:Int) - 48)) a∧l.foldl (fun n c=>10 * n + ((c.toNat:Int) - 48)) a < 10 ^ (k + l.length):=by
 intro l
 induction l with
 | nil=>intro a k _ h0 h1;exact⟨h0,h1⟩
 | cons c l ih =>
  intro a k hd h0 h1
  have hc:=hd c (List.mem_cons_self ..)
  unfold digitB at hc
  simp only [Bool.and_eq_true,decide_eq_true_eq] at hc
  have:=ih (10 * a + ((c.toNat:Int) - 48)) (k + 1) (fun x hx=>hd x (List.mem_cons_of_mem _ hx)) (by omega) (by rw [Int.pow_succ];omega)
  rw [List.foldl_cons,List.length_cons,show k + (l.length + 1)=k + 1 + l.length by omega]
  exact this
theorem numK_bound {s:ByteArray} (h7:s.size≤7) (hd:∀ c∈s.data.toList,digitB c=true) (k:Nat):0≤numK s k∧numK s k≤9999999:=by
 have:=fold_bound (s.data.toList.take k) 0 0 (fun c hc=>hd c (List.mem_of_mem_take hc)) (Int.le_refl _) (by decide)
 unfold numK
 refine⟨this.1,?_⟩
 have h2:=this.2
 have hl:(s.data.toList.take k).length≤7:=by
  rw [List.length_take,show s.data.toList.length=s.size from Array.length_toList]
  omega
 have:(10:Int) ^ (0 + (s.data.toList.take k).length)≤10 ^ 7:=by
  have h3:(10:Nat) ^ (0 + (s.data.toList.take k).length)≤10 ^ 7:=Nat.pow_le_pow_right (by decide) (by omega)
  exact_mod_cast h3
 have h4:(10:Int) ^ 7=10000000:=by decide
 omega
set_option maxHeartbeats 8000000 in
theorem rname_fn (l:List Tok) (i:Nat) (e:Int) (f:Bool) (hi:i≤1000000):FnOk false Tryd.prog tab tab_ok 26 [.loc 0 0] 1 1 (rdH l i e f) (fun k r H=>k=1∧rdRes (rdP f i (nameT l i)) l e (fun s=>.d (.str s)) (fun r=>∃ s,r = .d (.str s)) r H):=by
 refine fn_enterR _ Tryd.func26 rfl rfl (by kernel_rfl) ?_
 intro O w0 E0 β0
 have w1:=rtext_fn l i e f
 have w2:=isName_fn (textT l i f)
 rw [nameRS] at w2
 have hn:rdP f i (nameT l i)=match nameS (textT l i f) with|true=>.ok (textT l i f,i + 1)|false=>.error i:=by
  unfold rdP nameT textT
  cases f with
  | true=>rw [nameS_nil]
  | false =>
   dsimp only
   cases l[i]? with
   | none=>dsimp only;rw [nameS_nil]
   | some t =>
    dsimp only
    cases nameS t.text <;> rfl
 rw [hn]
 unfold rdRes
 repeat' (first|refine z0 ?_|apply ds_nil|apply dw_seq2|refine z16 ?_|apply thenD_n)
 (refine ds_callF id (w1) rfl rfl rfl rfl ⟨rfl,trivial⟩ rfl rfl rfl rfl rfl rfl ?_ ?_)
 ·rintro k2 res H2 ⟨rfl,rfl,rfl⟩;exact⟨rfl,rfl⟩
 rintro k2 res H2 ⟨rfl,rfl,rfl⟩
 change DS _ _ _ _ _ _ _ _
 clear w1 hn
 have hf:nameS (textT l i f)=true→f=false:=fun h=>by
  cases f with
  | false=>rfl
  | true=>rw [textT_failed,nameS_nil] at h;cases h
 generalize textT l i f=t at *
 cases hs:nameS t with
 | true =>
  rw [hs] at w2
  cases hf hs
  repeat' (first|refine z0 ?_|apply ds_nil|apply dw_seq2|refine z16 ?_|apply dw_skip|apply dw_ret|refine z19 ?_|apply thenD_n|refine z21 ?_ (hc:=by apply w2)|refine z3 ?_|fail)
  exact⟨.inl rfl,_,rfl,id,1,_,rdH l (i + 1:Nat) e false,rfl,⟨rfl,trivial⟩,rfl,rfl,rfl,rfl,rfl,rfl,rfl,rfl,rfl⟩
 | false =>
  rw [hs] at w2
  repeat' (first|refine z0 ?_|apply ds_nil|apply dw_seq2|refine z16 ?_|apply dw_ret|refine z18 ?_|apply thenD_n|apply thenD_r|refine z21 ?_ (hc:=by apply w2)|refine z3 ?_|fail)
  exact⟨.inl rfl,_,rfl,id,1,_,rdH l i e true,rfl,⟨rfl,trivial⟩,rfl,rfl,rfl,rfl,rfl,rfl,rfl,⟨_,rfl⟩,rfl⟩
theorem greatI (c:UInt8):(decide ((65:Int)≤c.toNat) && decide ((c.toNat:Int)≤90))=greatB c:=by unfold greatB;rfl
theorem minus_first {t:Tok} (hm:t.text=⟨#[45]⟩) (h:tokOk t=true):t.kind≠2:=by
 obtain⟨h0,h1,_⟩:=tok_first h
 intro hk
 rw [hk] at h1
 have:t.text[0]=45:=by simp only [hm];rfl
 rw [this,show greatB 45=false by unfold greatB;decide] at h1
 cases h1
theorem termT_var {l:List Tok} {i:Nat} (hi:i < l.length) (hot:tokOk l[i]=true) (hk:l[i].kind=2):termT l i = .ok (⟨l[i].text,0⟩,i + 1):=by
 have hn:seesT l i ⟨#[45]⟩=false:=by
  unfold seesT
  rw [List.getElem?_eq_getElem hi]
  exact decide_eq_false fun hm=>minus_first hm hot hk
 unfold termT
 rw [hn]
 dsimp only
 rw [List.getElem?_eq_getElem hi]
 dsimp only
 rw [if_pos ⟨hk,rfl⟩]
theorem termT_pos {l:List Tok} {i:Nat} (hi:i < l.length) (hn:l[i].text≠⟨#[45]⟩) (hk:l[i].kind≠2):termT l i=if l[i].kind=3 then .ok (⟨⟨#[]⟩,1 * numT l[i].text⟩,i + 1) else .error i:=by
 have hn:seesT l i ⟨#[45]⟩=false:=by
  unfold seesT
  rw [List.getElem?_eq_getElem hi]
  exact decide_eq_false hn
 unfold termT
 rw [hn]
 dsimp only
 rw [List.getElem?_eq_getElem hi]
 dsimp only
 rw [if_neg (fun h=>hk h.1)]
 by_cases h3:l[i].kind=3
 ·rw [if_neg (fun h=>h.elim (fun h=>h h3) (fun h=>Bool.noConfusion h.1)),if_pos h3]
 ·rw [if_pos (.inl h3),if_neg h3]
theorem termT_neg {l:List Tok} {i:Nat} (hi:i < l.length) (hn:l[i].text=⟨#[45]⟩):termT l i=match l[i + 1]? with
  | none=>.error (i + 1)
  | some t=>if t.kind=3∧t.text≠⟨#[48]⟩ then .ok (⟨⟨#[]⟩,-1 * numT t.text⟩,i + 1 + 1) else .error (i + 1):=by
 have hn:seesT l i ⟨#[45]⟩=true:=by
  unfold seesT
  rw [List.getElem?_eq_getElem hi]
  exact decide_eq_true hn
 unfold termT
 rw [hn]
 dsimp only
 cases l[i + 1]? with
 | none=>rfl
 | some t =>
  dsimp only
  rw [if_neg (fun h=>Bool.noConfusion h.2)]
  by_cases h3:t.kind=3∧t.text≠⟨#[48]⟩
  ·rw [if_neg (fun h=>h.elim (fun h=>h h3.1) (fun h=>h3.2 h.2)),if_pos h3]
  ·rw [if_pos (Classical.or_iff_not_imp_left.2 fun h=>⟨rfl,Classical.byContradiction fun h2=>h3 ⟨Classical.byContradiction h,h2⟩⟩),if_neg h3]
theorem text_some {l:List Tok} {i:Nat} (hi:i < l.length):textT l i false=l[i].text:=by unfold textT;rw [List.getElem?_eq_getElem hi]
theorem text_ne {l:List Tok} {i:Nat} {f:Bool} (h:textT l i f≠⟨#[]⟩):f=false∧i < l.length:=by
 unfold textT at h
 cases f with
 | true=>exact absurd rfl h
 | false =>
  refine⟨rfl,Classical.byContradiction fun hn=>?_⟩
  rw [List.getElem?_eq_none (by omega)] at h
  exact h rfl
theorem tok_ne {t:Tok} (h:tokOk t=true):t.text≠⟨#[]⟩:=by
 obtain⟨h0,_⟩:=tok_first h
 intro hn
 rw [hn] at h0
 exact absurd h0 (by decide)
set_option maxHeartbeats 8000000 in
theorem rterm_fn (l:List Tok) (i:Nat) (e:Int) (f:Bool) (hi:i≤1000000) (hok:l.all tokOk=true):FnOk false Tryd.prog tab tab_ok 52 [.loc 0 0] 1 1 (rdH l i e f) (fun k r H=>k=1∧rdRes (rdP f i (termT l i)) l e tmV (fun r=>∃ t,r=tmV t) r H):=by
 refine fn_enterR _ Tryd.func52 rfl rfl (by kernel_rfl) ?_
 intro O w0 E0 β0
 have w1:=rtext_fn l i e f
 repeat' (first|refine z0 ?_|apply ds_nil|apply dw_seq2|refine z16 ?_|apply thenD_n|refine z1 ?_|fail)
 (refine ds_callF id (w1) rfl rfl rfl rfl ⟨rfl,trivial⟩ rfl rfl rfl rfl rfl rfl ?_ ?_)
 ·rintro k2 res H2 ⟨rfl,rfl,rfl⟩;exact⟨rfl,rfl⟩
 rintro k2 res H2 ⟨rfl,rfl,rfl⟩
 change DS _ _ _ _ _ _ _ _
 clear w1
 by_cases h0:textT l i f=⟨#[]⟩
 ·have hp:rdP f i (termT l i) = .error i:=by
   cases f with
   | true=>rfl
   | false =>
    by_cases hil:i < l.length
    ·rw [text_some hil] at h0
     exact absurd h0 (tok_ne (List.all_eq_true.1 hok _ (List.getElem_mem hil)))
    ·have hn:seesT l i ⟨#[45]⟩=false:=by unfold seesT;rw [List.getElem?_eq_none (by omega)]
     unfold rdP termT
     rw [hn]
     dsimp only
     rw [List.getElem?_eq_none (by omega)]
  rw [hp,h0]
  unfold rdRes
  repeat' (first|refine z0 ?_|refine z12 ?_|apply ds_nil|apply dw_seq2|refine z16 ?_|apply dw_skip|apply dw_ret|refine z18 ?_|refine z19 ?_|apply thenD_n|apply thenD_r|refine z3 ?_|fail)
  all_goals try (exfalso;omega)
  exact⟨.inl rfl,_,rfl,id,1,_,rdH l (i) e true,rfl,⟨rfl,trivial⟩,rfl,rfl,rfl,rfl,rfl,rfl,rfl,⟨⟨⟨#[]⟩,0⟩,rfl⟩,rfl⟩
 obtain⟨rfl,hil⟩:=text_ne h0
 rw [text_some hil] at h0 ⊢
 unfold rdP
 dsimp only
 have hot:=List.all_eq_true.1 hok _ (List.getElem_mem hil)
 obtain⟨y0,y1,y2,_⟩:=tok_first hot
 by_cases hk:l[i].kind=2
 ·rw [termT_var hil hot hk]
  unfold rdRes
  have w3:=between_fn (l[i].text[0].toNat:Int) 65 90
  rw [greatI,y1,decide_eq_true hk] at w3
  repeat' (first|refine z0 ?_|refine z12 ?_|apply ds_nil|apply dw_seq2|refine z16 ?_|apply dw_skip|apply dw_ret|refine z18 ?_|refine z19 ?_|apply thenD_n|apply thenD_r|refine z21 ?_ (hc:=by apply w3)|refine z3 ?_|(refine z23 ?_ ?_ <;> intro hg)|((fail_if_success (apply ds_known;exact rfl));apply ds_guardP;exact rfl;exact rfl;exact rfl;all_goals intro hg))
  all_goals try (exfalso;first|omega|exact absurd (by assumption) h0|exact absurd h0 (by assumption))
  exact⟨.inl rfl,_,rfl,id,1,_,rdH l (i + 1:Nat) e false,rfl,⟨rfl,trivial⟩,rfl,rfl,rfl,rfl,rfl,rfl,rfl,rfl,rfl⟩
 have w2:=between_fn (l[i].text[0].toNat:Int) 65 90
 rw [greatI,y1,decide_eq_false hk] at w2
 by_cases hm:l[i].text=⟨#[45]⟩
 ·rw [termT_neg hil hm]
  have w5:=rneed_fn l i e false ⟨#[45]⟩ hi
  rw [text_some hil,hm,decide_eq_true rfl] at w5
  dsimp only at w5
  have w6:=rtext_fn l (i + 1) e false
  repeat' (first|refine z0 ?_|refine z12 ?_|apply ds_nil|apply dw_seq2|refine z16 ?_|apply dw_skip|refine z18 ?_|refine z19 ?_|apply thenD_n|refine z21 ?_ (hc:=by apply w2)|refine z3 ?_|(refine z23 ?_ ?_ <;> intro hg)|((fail_if_success (apply ds_known;exact rfl));apply ds_guardP;exact rfl;exact rfl;exact rfl;all_goals intro hg))
  all_goals try (exfalso;first|omega|exact absurd (by assumption) h0|exact absurd h0 (by assumption)|exact absurd hm (by assumption))
  (refine ds_callF id (w5) rfl rfl rfl rfl ⟨rfl,trivial⟩ rfl rfl rfl rfl rfl rfl ?_ ?_)
  ·rintro k2 res H2 ⟨rfl,rfl,rfl⟩;exact⟨rfl,rfl⟩
  rintro k2 res H2 ⟨rfl,rfl,rfl⟩
  change DS _ _ _ _ _ _ _ _
  clear w5
  repeat' (first|refine z0 ?_|apply ds_nil|apply dw_seq2|refine z16 ?_|apply thenD_n)
  (refine ds_callF id (w6) rfl rfl rfl rfl ⟨rfl,trivial⟩ rfl rfl rfl rfl rfl rfl ?_ ?_)
  ·rintro k2 res H2 ⟨rfl,rfl,rfl⟩;exact⟨rfl,rfl⟩
  rintro k2 res H2 ⟨rfl,rfl,rfl⟩
  change DS _ _ _ _ _ _ _ _
  clear w6 w2
  by_cases hil1:i + 1 < l.length
  ·rw [text_some hil1,List.getElem?_eq_getElem hil1]
   dsimp only
   have hot2:=List.all_eq_true.1 hok _ (List.getElem_mem hil1)
   have hne2:=tok_ne hot2
   by_cases hk3:l[i + 1].kind=3∧l[i + 1].text≠⟨#[48]⟩
   ·rw [if_pos hk3]
    unfold rdRes
    obtain⟨c1,c2,c3⟩:=ok_num hot2 hk3.1
    obtain⟨u0,u1,u2,_⟩:=tok_first hot2
    rw [hk3.1] at u1 u2
    have w3:=between_fn (l[i + 1].text[0].toNat:Int) 65 90
    rw [greatI,u1] at w3
    have w4:=isDigit_fn l[i + 1].text[0]
    rw [u2] at w4
    repeat' (first|refine z0 ?_|refine z12 ?_|apply ds_nil|apply dw_seq2|refine z16 ?_|apply dw_block|apply dw_skip|refine z18 ?_|apply thenD_n|refine z21 ?_ (hc:=by apply w4)|refine z3 ?_|(refine z23 ?_ ?_ <;> intro hg)|((fail_if_success (apply ds_known;exact rfl));apply ds_guardP;exact rfl;exact rfl;exact rfl;all_goals intro hg))
    all_goals try (exfalso;first|omega|exact absurd (by assumption) hne2|exact absurd hne2 (by assumption)|exact absurd (by assumption) hk3.2)
    refine ds_loop (ι:=Nat) (fun k=>⟨2,[(0,.loc 0 0),(2,.loc 1 0),(3,.d (.str l[i + 1].text)),(4,.d (.int .i64 (-1))),(5,.d (.int .i64 (numK l[i + 1].text k))),(6,.d (.int .i64 k))],[(0,.blk 53 [.d (.slice 3 (l.map encTok)),.d (.int .i64 (i + 1:Nat)),.d (.int .i64 e),.d (.bool false)]),(1,.blk 75 [.d (.str ⟨#[]⟩),.d (.int .i64 0)])]⟩)
     (fun k=>k≤l[i + 1].text.size) (fun k=>l[i + 1].text.size - k) 0 (Nat.zero_le _) (ent_ren id ⟨rfl,rfl,rfl,rfl,rfl,rfl,trivial⟩ ⟨rfl,rfl,trivial⟩ rfl rfl rfl rfl rfl rfl) ?_
    intro k hk
    dsimp only at hk ⊢
    obtain⟨n1,n2⟩:=numK_bound c2 c3 k
    by_cases hkl:k < l[i + 1].text.size
    ·have hs:=numK_succ l[i + 1].text k hkl
     obtain⟨n3,n4⟩:=numK_bound c2 c3 (k + 1)
     have hu:=UInt8.toNat_lt (l[i + 1].text[k])
     repeat' (first|refine z0 ?_|apply ds_nil|apply dw_seq2|refine z16 ?_|apply dw_block|apply dw_skip|apply dw_exit|apply thenD_n|apply thenD_e|apply inB_n|refine z17 ?_|refine z3 ?_|(refine z23 ?_ ?_ <;> intro hg)|fail)
     all_goals try (exfalso;omega)
     exact⟨k + 1,by omega,ent_ren id ⟨rfl,rfl,rfl,rfl,congrArg (fun z=>SV.d (D.int .i64 z)) hs.symm,rfl,trivial⟩ ⟨rfl,rfl,trivial⟩ rfl rfl rfl rfl rfl rfl,by show l[i + 1].text.size - (k + 1) < l[i + 1].text.size - k;omega⟩
    ·have hks:k=l[i + 1].text.size:=by omega
     subst hks
     rw [numK_all] at *
     repeat' (first|refine z0 ?_|apply ds_nil|apply dw_seq2|refine z16 ?_|apply dw_block|apply dw_skip|apply dw_exit|apply dw_ret|apply thenD_n|apply thenD_e|apply inB_n|refine z17 ?_|refine z3 ?_|(refine z23 ?_ ?_ <;> intro hg)|fail)
     all_goals try (exfalso;omega)
     exact⟨.inl rfl,_,rfl,id,1,_,rdH l (i + 1 + 1:Nat) e false,rfl,⟨rfl,trivial⟩,rfl,rfl,rfl,rfl,rfl,rfl,rfl,rfl,rfl⟩
   ·rw [if_neg hk3]
    unfold rdRes
    obtain⟨u0,u1,u2,_⟩:=tok_first hot2
    have w4:=isDigit_fn l[i + 1].text[0]
    rw [u2] at w4
    by_cases k3:l[i + 1].kind=3
    ·have h48:l[i + 1].text=⟨#[48]⟩:=Classical.byContradiction fun h=>hk3 ⟨k3,h⟩
     rw [decide_eq_true k3] at w4
     repeat' (first|refine z0 ?_|refine z12 ?_|apply ds_nil|apply dw_seq2|refine z16 ?_|apply dw_block|apply dw_skip|apply dw_ret|refine z18 ?_|apply thenD_n|apply thenD_r|refine z21 ?_ (hc:=by apply w4)|refine z3 ?_|(refine z23 ?_ ?_ <;> intro hg)|((fail_if_success (apply ds_known;exact rfl));apply ds_guardP;exact rfl;exact rfl;exact rfl;all_goals intro hg))
     all_goals try (exfalso;first|omega|exact absurd (by assumption) hne2|exact absurd hne2 (by assumption)|exact absurd h48 (by assumption))
     exact⟨.inl rfl,_,rfl,id,1,_,rdH l (i + 1) e true,rfl,⟨rfl,trivial⟩,rfl,rfl,rfl,rfl,rfl,rfl,rfl,⟨⟨⟨#[]⟩,0⟩,rfl⟩,rfl⟩
    ·rw [decide_eq_false k3] at w4
     repeat' (first|refine z0 ?_|refine z12 ?_|apply ds_nil|apply dw_seq2|refine z16 ?_|apply dw_ret|refine z18 ?_|apply thenD_n|apply thenD_r|refine z21 ?_ (hc:=by apply w4)|refine z3 ?_|((fail_if_success (apply ds_known;exact rfl));apply ds_guardP;exact rfl;exact rfl;exact rfl;all_goals intro hg))
     all_goals try (exfalso;first|omega|exact absurd (by assumption) hne2|exact absurd hne2 (by assumption))
     exact⟨.inl rfl,_,rfl,id,1,_,rdH l (i + 1) e true,rfl,⟨rfl,trivial⟩,rfl,rfl,rfl,rfl,rfl,rfl,rfl,⟨⟨⟨#[]⟩,0⟩,rfl⟩,rfl⟩
  ·have h1:textT l (i + 1) false=⟨#[]⟩:=by unfold textT;rw [List.getElem?_eq_none (by omega)]
   rw [h1,List.getElem?_eq_none (by omega)]
   unfold rdRes
   repeat' (first|refine z0 ?_|refine z12 ?_|apply ds_nil|apply dw_seq2|refine z16 ?_|apply dw_ret|refine z18 ?_|apply thenD_n|apply thenD_r|refine z3 ?_|fail)
   all_goals try (exfalso;omega)
   exact⟨.inl rfl,_,rfl,id,1,_,rdH l (i + 1) e true,rfl,⟨rfl,trivial⟩,rfl,rfl,rfl,rfl,rfl,rfl,rfl,⟨⟨⟨#[]⟩,0⟩,rfl⟩,rfl⟩
 ·rw [termT_pos hil hm hk]
  by_cases hk3:l[i].kind=3
  ·rw [if_pos hk3]
   unfold rdRes
   have hot2:=hot
   have hne2:=h0
   have hm2:=hm
   obtain⟨c1,c2,c3⟩:=ok_num hot2 hk3
   obtain⟨u0,u1,u2,_⟩:=tok_first hot2
   rw [hk3] at u1 u2
   have w3:=between_fn (l[i].text[0].toNat:Int) 65 90
   rw [greatI,u1] at w3
   have w4:=isDigit_fn l[i].text[0]
   rw [u2] at w4
   repeat' (first|refine z0 ?_|refine z12 ?_|apply ds_nil|apply dw_seq2|refine z16 ?_|apply dw_block|apply dw_skip|refine z18 ?_|refine z19 ?_|apply thenD_n|refine z21 ?_ (hc:=by apply w3)|refine z21 ?_ (hc:=by apply w4)|refine z3 ?_|(refine z23 ?_ ?_ <;> intro hg)|((fail_if_success (apply ds_known;exact rfl));apply ds_guardP;exact rfl;exact rfl;exact rfl;all_goals intro hg))
   all_goals try (exfalso;first|omega|exact absurd (by assumption) hne2|exact absurd hne2 (by assumption)|exact absurd (by assumption) hm2)
   refine ds_loop (ι:=Nat) (fun k=>⟨2,[(0,.loc 0 0),(2,.loc 1 0),(3,.d (.str l[i].text)),(4,.d (.int .i64 (1))),(5,.d (.int .i64 (numK l[i].text k))),(6,.d (.int .i64 k))],[(0,.blk 53 [.d (.slice 3 (l.map encTok)),.d (.int .i64 (i:Nat)),.d (.int .i64 e),.d (.bool false)]),(1,.blk 75 [.d (.str ⟨#[]⟩),.d (.int .i64 0)])]⟩)
    (fun k=>k≤l[i].text.size) (fun k=>l[i].text.size - k) 0 (Nat.zero_le _) (ent_ren id ⟨rfl,rfl,rfl,rfl,rfl,rfl,trivial⟩ ⟨rfl,rfl,trivial⟩ rfl rfl rfl rfl rfl rfl) ?_
   intro k hk
   dsimp only at hk ⊢
   obtain⟨n1,n2⟩:=numK_bound c2 c3 k
   by_cases hkl:k < l[i].text.size
   ·have hs:=numK_succ l[i].text k hkl
    obtain⟨n3,n4⟩:=numK_bound c2 c3 (k + 1)
    have hu:=UInt8.toNat_lt (l[i].text[k])
    repeat' (first|refine z0 ?_|apply ds_nil|apply dw_seq2|refine z16 ?_|apply dw_block|apply dw_skip|apply dw_exit|apply thenD_n|apply thenD_e|apply inB_n|refine z17 ?_|refine z3 ?_|(refine z23 ?_ ?_ <;> intro hg)|fail)
    all_goals try (exfalso;omega)
    exact⟨k + 1,by omega,ent_ren id ⟨rfl,rfl,rfl,rfl,congrArg (fun z=>SV.d (D.int .i64 z)) hs.symm,rfl,trivial⟩ ⟨rfl,rfl,trivial⟩ rfl rfl rfl rfl rfl rfl,by show l[i].text.size - (k + 1) < l[i].text.size - k;omega⟩
   ·have hks:k=l[i].text.size:=by omega
    subst hks
    rw [numK_all] at *
    repeat' (first|refine z0 ?_|apply ds_nil|apply dw_seq2|refine z16 ?_|apply dw_block|apply dw_skip|apply dw_exit|apply dw_ret|apply thenD_n|apply thenD_e|apply inB_n|refine z17 ?_|refine z3 ?_|(refine z23 ?_ ?_ <;> intro hg)|fail)
    all_goals try (exfalso;omega)
    exact⟨.inl rfl,_,rfl,id,1,_,rdH l (i + 1:Nat) e false,rfl,⟨rfl,trivial⟩,rfl,rfl,rfl,rfl,rfl,rfl,rfl,rfl,rfl⟩
  ·rw [if_neg hk3]
   unfold rdRes
   have w4:=isDigit_fn l[i].text[0]
   rw [y2,decide_eq_false hk3] at w4
   repeat' (first|refine z0 ?_|refine z12 ?_|apply ds_nil|apply dw_seq2|refine z16 ?_|apply dw_skip|apply dw_ret|refine z18 ?_|refine z19 ?_|apply thenD_n|apply thenD_r|refine z21 ?_ (hc:=by apply w2)|refine z21 ?_ (hc:=by apply w4)|refine z3 ?_|(refine z23 ?_ ?_ <;> intro hg)|((fail_if_success (apply ds_known;exact rfl));apply ds_guardP;exact rfl;exact rfl;exact rfl;all_goals intro hg))
   all_goals try (exfalso;first|omega|exact absurd (by assumption) h0|exact absurd h0 (by assumption)|exact absurd (by assumption) hm)
   exact⟨.inl rfl,_,rfl,id,1,_,rdH l (i) e true,rfl,⟨rfl,trivial⟩,rfl,rfl,rfl,rfl,rfl,rfl,rfl,⟨⟨⟨#[]⟩,0⟩,rfl⟩,rfl⟩
end Go.Proofs.YtapciiffpnociabDoor
namespace Go.Proofs.YtapciiffpnociabDoor
open Go Go.RowKit
theorem FnOk.imp {dr:Bool} {P:Program} {τ:List (Nat × TI)} {τok:TabOk P τ} {f:FuncId} {args:List SV} {J k:Nat} {H:Hp} {R R':Nat→SV→Hp→Prop} (h:FnOk dr P τ τok f args J k H R) (hi:∀ k r H,R k r H→R' k r H):FnOk dr P τ τok f args J k H R':=by
 unfold FnOk at h ⊢
 refine⟨h.1,fun O e w vs hH hr=>(h.2 O e w vs hH hr).mono ?_⟩
 rintro en w' ⟨k',r,H',e',v,hR,h1⟩
 exact⟨k',r,H',e',v,hi _ _ _ hR,h1⟩
def rdIs {α:Type} (p:PR α) (x:α) (k:Nat):Bool→Prop
 | false=>p = .ok (x,k)
 | true=>p = .error k
def rdOut {α:Type} (p:PR α) (l:List Tok) (e:Int) (enc:α→SV) (r:SV) (H:Hp):Prop:=∃ x k fl,r=enc x∧H=rdH l k e fl∧rdIs p x k fl
theorem rdRes_out {α:Type} [Nonempty α] {p:PR α} {l:List Tok} {e:Int} {enc:α→SV} {junk:SV→Prop} {r:SV} {H:Hp} (hj:∀ r,junk r→∃ x,r=enc x) (h:rdRes p l e enc junk r H):rdOut p l e enc r H:=by
 unfold rdRes at h
 split at h
 ·exact⟨_,_,false,h.1,h.2,rfl⟩
 ·obtain⟨x,hx⟩:=hj r h.1
  exact⟨x,_,true,hx,h.2,rfl⟩
abbrev RdC (f:FuncId) (args:List SV) (l:List Tok) (i:Nat) (e:Int) (fl:Bool) {α:Type} (p:PR α) (enc:α→SV):Prop:=FnOk false Tryd.prog tab tab_ok f args 1 1 (rdH l i e fl) (fun k r H=>k=1∧rdOut p l e enc r H)
theorem rname_out (l:List Tok) (i:Nat) (e:Int) (f:Bool) (hi:i≤1000000):RdC 26 [.loc 0 0] l i e f (rdP f i (nameT l i)) (fun s=>.d (.str s)) :=
 have:Nonempty ByteArray:=⟨⟨#[]⟩⟩
 (rname_fn l i e f hi).imp fun _ _ _ h=>⟨h.1,rdRes_out (fun _ h=>h) h.2⟩
theorem rterm_out (l:List Tok) (i:Nat) (e:Int) (f:Bool) (hi:i≤1000000) (hok:l.all tokOk=true):RdC 52 [.loc 0 0] l i e f (rdP f i (termT l i)) tmV :=
 have:Nonempty TTm:=⟨⟨⟨#[]⟩,0⟩⟩
 (rterm_fn l i e f hi hok).imp fun _ _ _ h=>⟨h.1,rdRes_out (fun _ h=>h) h.2⟩
theorem text_is {l:List Tok} {i:Nat} {f:Bool} {s:ByteArray} (hs:s≠⟨#[]⟩):textT l i f=s↔f=false∧seesT l i s=true:=by
 cases f with
 | true=>rw [textT_failed];exact⟨fun h=>absurd h.symm hs,fun h=>Bool.noConfusion h.1⟩
 | false=>rw [← textT_sees hs,decide_eq_true_iff];exact⟨fun h=>⟨rfl,h⟩,fun h=>h.2⟩
theorem termT_err {l:List Tok} {i k:Nat} (hi:i≤l.length) (h:termT l i = .error k):k≤l.length:=by
 unfold termT at h
 generalize hb:seesT l i ⟨#[45]⟩=b at h
 have key:∀ q:Nat,(match l[q]? with
  | none=>(.error q:PR TTm)
  | some t=>if t.kind=2∧b=false then .ok ((⟨t.text,0⟩:TTm),q + 1)
   else if t.kind≠3∨(b=true∧t.text=(⟨#[48]⟩:ByteArray)) then .error q
   else .ok ((⟨(⟨#[]⟩:ByteArray),(match b with|true=>-1|false=>1) * numT t.text⟩:TTm),q + 1)) = .error k→k=q:=by
  intro q hq
  cases hl:l[q]? with
  | none=>rw [hl] at hq;injection hq with hq;exact hq.symm
  | some t =>
   rw [hl] at hq
   dsimp only at hq
   split at hq
   ·cases hq
   ·split at hq
    ·injection hq with hq;exact hq.symm
    ·cases hq
 cases b with
 | true=>have:=key (i + 1) h;have:=seesT_lt hb;omega
 | false=>have:=key i h;omega
theorem nameT_err {l:List Tok} {i k:Nat} (hi:i≤l.length) (h:nameT l i = .error k):k≤l.length:=by
 unfold nameT at h
 split at h
 ·split at h
  ·cases h
  ·injection h with h;omega
 ·injection h with h;omega
theorem termsGo_err {l:List Tok} {head:Bool} {k:Nat}:∀ (n i:Nat) (acc:List TTm),i≤l.length→termsGo l head n i acc = .error k→k≤l.length
 | 0,i,acc,hi,h=>by unfold termsGo at h;injection h with h;omega
 | n + 1,i,acc,hi,h=>by
  rw [termsGo_succ] at h
  have hj:(if foldT l head i 0≠0 then i + 1 else i)≤l.length:=by
   split
   ·rename_i hf;exact foldT_sees hf
   ·exact hi
  cases ht:termT l (if foldT l head i 0≠0 then i + 1 else i) with
  | error q=>rw [ht] at h;injection h with h;subst h;exact termT_err hj ht
  | ok x =>
   obtain⟨t,q⟩:=x
   rw [ht] at h
   dsimp only at h
   have hq:=(termT_lt ht).2
   split at h
   ·split at h
    ·cases h
    ·injection h with h;omega
   ·rename_i hn
    have:seesT l q ⟨#[44]⟩=true:=Bool.not_eq_false _▸fun hf=>hn (.inr hf)
    exact termsGo_err n (q + 1) _ (seesT_lt this) h
theorem termsT_err {l:List Tok} {head:Bool} {i k:Nat} (hi:i≤l.length) (h:termsT l i head = .error k):k≤l.length:=by
 unfold termsT at h
 split at h
 ·rename_i h1
  split at h
  ·cases h
  ·exact termsGo_err _ _ _ (seesT_lt h1) h
 ·injection h with h;omega
theorem termsGo_none {l:List Tok} {head:Bool} (i:Nat):termsT l i head=if seesT l i ⟨#[40]⟩ then
  (if seesT l (i + 1) ⟨#[41]⟩ then .ok (([],0),i + 2) else termsGo l head (l.length + 1) (i + 1) [])
 else .error i:=rfl
def wordsR:List ByteArray:=⟨#[]⟩::foldsT
def opsR:List ByteArray:=⟨#[]⟩::opsT
def foldG (ws:List ByteArray) (s:ByteArray):Nat→Int
 | 0=>0
 | k + 1=>if k≠0∧s=ws.getD k ⟨#[]⟩ then (k:Int) else foldG ws s k
abbrev foldS (s:ByteArray) (k:Nat):Int:=foldG wordsR s k
theorem foldG_succ {ws:List ByteArray} {s:ByteArray} {k:Nat} (h0:1≤k) (h:k < ws.length):foldG ws s (k + 1)=if s=ws[k] then (k:Int) else foldG ws s k:=by
 show (if k≠0∧s=ws.getD k ⟨#[]⟩ then (k:Int) else foldG ws s k)=_
 rw [List.getD_eq_getElem?_getD,List.getElem?_eq_getElem h]
 by_cases hs:s=ws[k]
 ·rw [if_pos ⟨by omega,hs⟩,if_pos hs]
 ·rw [if_neg (fun h=>hs h.2),if_neg hs]
theorem foldS_succ {s:ByteArray} {k:Nat} (h0:1≤k) (h:k < wordsR.length):foldS s (k + 1)=if s=wordsR[k] then (k:Int) else foldS s k:=foldG_succ h0 h
theorem foldS_is (l:List Tok) (j:Nat):foldT l true j 0=foldS (textT l j false) 5:=by
 have e:∀ s:ByteArray,s≠⟨#[]⟩→seesT l j s=decide (textT l j false=s):=fun s hs=>(textT_sees hs).symm
 show firstT l j [⟨#[99,111,117,110,116]⟩,⟨#[115,117,109]⟩,⟨#[108,101,97,115,116]⟩,⟨#[109,111,115,116]⟩] (0 + 1)=_
 simp only [firstT]
 rw [e _ (by decide),e _ (by decide),e _ (by decide),e _ (by decide)]
 generalize textT l j false=s
 have f5:foldS s 5=if s=⟨#[109,111,115,116]⟩ then 4 else if s=⟨#[108,101,97,115,116]⟩ then 3 else if s=⟨#[115,117,109]⟩ then 2 else if s=⟨#[99,111,117,110,116]⟩ then 1 else 0:=by
  rw [foldS_succ (by decide) (by decide),foldS_succ (by decide) (by decide),foldS_succ (by decide) (by decide),foldS_succ (by decide) (by decide)]
  rfl
 rw [f5]
 simp only [decide_eq_true_eq]
 by_cases h1:s=⟨#[99,111,117,110,116]⟩
 ·subst h1;decide
 by_cases h2:s=⟨#[115,117,109]⟩
 ·subst h2;decide
 by_cases h3:s=⟨#[108,101,97,115,116]⟩
 ·subst h3;decide
 by_cases h4:s=⟨#[109,111,115,116]⟩
 ·subst h4;decide
 simp only [h1,h2,h3,h4,if_false]
theorem foldG_low (ws:List ByteArray) (s:ByteArray):∀ k,0≤foldG ws s k∧foldG ws s k≤k
 | 0=>⟨Int.le_refl _,Int.le_refl _⟩
 | k + 1=>by
  have:=foldG_low ws s k
  unfold foldG
  split <;> omega
theorem foldS_low (s:ByteArray) (k:Nat):0≤foldS s k∧foldS s k≤k:=foldG_low _ _ _
theorem foldO_is (l:List Tok) (j:Nat):firstQ l opsT j 0=foldG opsR (textT l j false) 8:=by
 have e:∀ s:ByteArray,s≠⟨#[]⟩→seesT l j s=decide (textT l j false=s):=fun s hs=>(textT_sees hs).symm
 show firstT l j [⟨#[60]⟩,⟨#[60,61]⟩,⟨#[61]⟩,⟨#[33,61]⟩,⟨#[43]⟩,⟨#[45]⟩,⟨#[42]⟩] (0 + 1)=_
 simp only [firstT]
 rw [e _ (by decide),e _ (by decide),e _ (by decide),e _ (by decide),e _ (by decide),e _ (by decide),e _ (by decide)]
 generalize textT l j false=s
 have f8:foldG opsR s 8=if s=⟨#[42]⟩ then 7 else if s=⟨#[45]⟩ then 6 else if s=⟨#[43]⟩ then 5 else if s=⟨#[33,61]⟩ then 4 else if s=⟨#[61]⟩ then 3 else if s=⟨#[60,61]⟩ then 2 else if s=⟨#[60]⟩ then 1 else 0:=by
  rw [foldG_succ (by decide) (by decide),foldG_succ (by decide) (by decide),foldG_succ (by decide) (by decide),foldG_succ (by decide) (by decide),foldG_succ (by decide) (by decide),foldG_succ (by decide) (by decide),foldG_succ (by decide) (by decide)]
  rfl
 rw [f8]
 simp only [decide_eq_true_eq]
 by_cases h1:s=⟨#[60]⟩
 ·subst h1;decide
 by_cases h2:s=⟨#[60,61]⟩
 ·subst h2;decide
 by_cases h3:s=⟨#[61]⟩
 ·subst h3;decide
 by_cases h4:s=⟨#[33,61]⟩
 ·subst h4;decide
 by_cases h5:s=⟨#[43]⟩
 ·subst h5;decide
 by_cases h6:s=⟨#[45]⟩
 ·subst h6;decide
 by_cases h7:s=⟨#[42]⟩
 ·subst h7;decide
 simp only [h1,h2,h3,h4,h5,h6,h7,if_false]
theorem foldO_none:foldG opsR ⟨#[]⟩ 8=0:=by kernel_rfl
theorem foldO_text {s:ByteArray} (h:foldG opsR s 8≠0):∃ (q:Nat) (hq:q < opsR.length),foldG opsR s 8=q∧s=opsR[q]:=by
 have key:∀ k,k≤opsR.length→foldG opsR s k≠0→∃ (q:Nat) (hq:q < opsR.length),foldG opsR s k=q∧s=opsR[q]:=by
  intro k
  induction k with
  | zero=>intro _ h;exact absurd rfl h
  | succ k ih =>
   intro hk hne
   by_cases h0:k=0
   ·subst h0;exact absurd (by unfold foldG;rfl) hne
   ·rw [foldG_succ (by omega) (by omega)] at hne ⊢
    by_cases hs:s=opsR[k]
    ·rw [if_pos hs];exact⟨k,by omega,rfl,hs⟩
    ·rw [if_neg hs] at hne ⊢;exact ih (by omega) hne
 exact key 8 (by decide) h
end Go.Proofs.YtapciiffpnociabDoor
