/- Several texts in one: RuI RuJ RuF ScoG ScoH TokL ScoI Tool RuL RelL. Condition: none. -/
import Derived.Test.YtapciiffpnociacGreatB15
import Derived.Test.YtapciiffpnociacGreatB09
import Derived.Test.YtapciiffpnociacGreatB14
import Derived.Test.YtapciiffpnociacGreatB12
import Derived.Test.YtapciiffpnociacGreatB11
import Derived.Test.YtapciiffpnociacGreatB07
import Derived.Test.YtapciiffpnociacGreatB08
import Derived.Test.YtapciiffpnociacGreatB10

/- The library's Compare, Equal, SortFunc, CompactFunc over ways. Condition: none. -/
namespace Go.Proofs.YtapciiffpnociacGreat
open Go Go.RowKit Go.Sort
theorem swoL:Go.Sort.SWO (ltOf ordL) where
 irrefl x:=by unfold ltOf;rw [ordL_self];rfl
 trans x y z h g:=decide_eq_true (ordL_trans (of_decide_eq_true h) (of_decide_eq_true g))
 ntrans x y z h g:=by
  have h:=of_decide_eq_false h
  have g:=of_decide_eq_false g
  refine decide_eq_false ?_
  have:=ordL_le_trans (a:=z) (b:=y) (c:=x) (by rw [ordL_anti];omega) (by rw [ordL_anti];omega)
  rw [ordL_anti] at this
  omega
theorem sortWays_c:SortC Tryz.prog 87 88 22 1 encW ordL:=fun l hl _ _ _ _ h1 h2 h3 =>
 sort_row1 (ρ:=Tryz.sortWays_ren) Tryz.sortWays encW (fun _=>rfl) ordL swoL 88 (fun a b=>compareInts_fnD true a b) 22 l hl h1 h2 h3
attribute [local irreducible] DW DS DL DQ Ev FnOk FnP thenD inBlockD DT
set_option maxHeartbeats 8000000 in
theorem equalI_fn (a b:List Int):Fn 90 [.d (.slice 1 (a.map encI)),.d (.slice 1 (b.map encI))] (fun r=>r = .d (.bool (decide (a=b)))):=by
 refine fnp_enter' _ Tryz.func90 rfl rfl (by kernel_rfl) ?_
 intro O w0 E0 β0
 have la:(a.map encI).length=a.length:=List.length_map _
 have lb:(b.map encI).length=b.length:=List.length_map _
 refine dw_len (t:=0) rfl (fun hk=>?_)
 by_cases hl:a.length=b.length
 ·repeat' (first|refine z0 ?_|apply ds_nil|apply dw_seq2|refine z16 ?_|apply dw_block|apply dw_skip|apply dw_ret|apply thenD_n|apply thenD_r|(refine z23 ?_ ?_ <;> intro hg)|fail)
  all_goals try (exfalso;omega)
  refine ds_loop (ι:=Nat) (fun i=>⟨0,[(0,.d (.slice 1 (a.map encI))),(1,.d (.slice 1 (b.map encI))),(12,.d (.int .i64 a.length)),(13,.d (.int .i64 i))],[]⟩)
   (fun i=>i≤a.length∧a.take i=b.take i) (fun i=>a.length - i) 0 ⟨Nat.zero_le _,rfl⟩ (ent_ren id ⟨rfl,rfl,by rw [← la];rfl,rfl,trivial⟩ trivial rfl rfl rfl rfl rfl rfl) ?_
  rintro i ⟨g1,g2⟩
  dsimp only at g1 g2 ⊢
  by_cases hi:i < a.length
  ·have hb:i < b.length:=by omega
   by_cases he:a[i]=b[i]
   ·repeat' (first|refine z0 ?_|apply ds_nil|refine z5 ?_|refine z10 ?_|apply dw_seq2|refine z16 ?_|refine z20 ?_|apply dw_block|apply dw_skip|apply dw_exit|apply dw_ret|apply thenD_n|apply thenD_e|apply thenD_r|apply inB_n|apply inB_r|refine z17 ?_|(refine z23 ?_ ?_ <;> intro hg)|fail)
    all_goals try (exfalso;omega)
    all_goals try (exfalso;exact hg he)
    exact⟨i + 1,⟨hi,by rw [List.take_succ_eq_append_getElem hi,List.take_succ_eq_append_getElem hb,g2,he]⟩,ent_ren id ⟨rfl,rfl,rfl,rfl,trivial⟩ trivial rfl rfl rfl rfl rfl rfl,by omega⟩
   ·have hne:a≠b:=fun h=>he (by subst h;rfl)
    rw [decide_eq_false hne]
    repeat' (first|refine z0 ?_|apply ds_nil|refine z5 ?_|refine z10 ?_|apply dw_seq2|refine z16 ?_|refine z20 ?_|apply dw_block|apply dw_skip|apply dw_exit|apply dw_ret|apply thenD_n|apply thenD_e|apply thenD_r|apply inB_n|apply inB_r|refine z17 ?_|(refine z23 ?_ ?_ <;> intro hg)|fail)
    all_goals try (exfalso;omega)
    all_goals exact⟨.inl rfl,_,rfl,rfl,rfl⟩
  ·rw [List.take_of_length_le (by omega),List.take_of_length_le (by omega)] at g2
   rw [decide_eq_true g2]
   repeat' (first|refine z0 ?_|apply ds_nil|refine z5 ?_|refine z10 ?_|apply dw_seq2|refine z16 ?_|refine z20 ?_|apply dw_block|apply dw_skip|apply dw_exit|apply dw_ret|apply thenD_n|apply thenD_e|apply thenD_r|apply inB_n|apply inB_r|refine z17 ?_|(refine z23 ?_ ?_ <;> intro hg)|fail)
   all_goals try (exfalso;omega)
   all_goals exact⟨.inl rfl,_,rfl,rfl,rfl⟩
 ·have hne:a≠b:=fun h=>hl (by rw [h])
  rw [decide_eq_false hne]
  repeat' (first|refine z0 ?_|apply ds_nil|apply dw_seq2|refine z16 ?_|apply dw_block|apply dw_skip|apply dw_ret|apply thenD_n|apply thenD_r|(refine z23 ?_ ?_ <;> intro hg)|fail)
  all_goals try (exfalso;omega)
  all_goals exact⟨.inl rfl,_,rfl,rfl,rfl⟩
set_option maxHeartbeats 8000000 in
theorem compactW_fn (l:List (List Int)) (hn:l.Nodup) (hl:l.length≤1000000):FnOk false Tryz.prog tab tab_ok 89 [.row 0,.fn 90 []] 0 1 [(0,.row 22 1 (l.map encW))] (fun _ r H=>r = .d (.slice 1 (l.map encW))∧H=[]):=by
 refine fn_enterF _ Tryz.func89 rfl rfl (by kernel_rfl) ?_
 intro O w0 E0 β0
 have ll:(l.map encW).length=l.length:=List.length_map _
 by_cases h2:l.length < 2
 ·repeat' (first|refine z0 ?_|apply ds_nil|apply dw_seq2|refine z16 ?_|apply dw_block|apply dw_skip|apply thenD_n|(refine z23 ?_ ?_ <;> intro hg)|fail)
  all_goals try (exfalso;omega)
  refine dw_ent (ent_seal 4 rfl rfl rfl) ?_
  repeat' (first|apply dw_ret|apply thenD_r)
  exact⟨.inl rfl,_,rfl,0,[],trivial,rfl,rfl,rfl,rfl,rfl,rfl⟩
 ·repeat' (first|refine z0 ?_|apply ds_nil|apply dw_seq2|refine z16 ?_|apply dw_block|apply dw_skip|apply thenD_n|(refine z23 ?_ ?_ <;> intro hg)|fail)
  all_goals try (exfalso;omega)
  refine ds_loop (ι:=Nat) (fun i=>⟨1,[(0,.row 0),(1,.fn 90 []),(5,.d (.int .i64 i))],[(0,.row 22 1 (l.map encW))]⟩)
   (fun i=>1≤i∧i≤l.length) (fun i=>l.length - i) 1 ⟨by omega,by omega⟩ (ent_ren id ⟨rfl,rfl,rfl,trivial⟩ ⟨rfl,trivial⟩ rfl rfl rfl rfl rfl rfl) ?_
  rintro i ⟨g0,g1⟩
  by_cases hi:i < l.length
  ·have hne:l[i]≠l[i - 1]'(by omega):=fun h=>by
    have:=(List.getElem_inj hn).1 h
    omega
   have hs:Fn 90 [.d (.slice 1 ((l[i]).map encI)),.d (.slice 1 ((l[((i:Int) - 1).toNat]'(by omega)).map encI))] (fun r=>r = .d (.bool false)):=by
    have e:((i:Int) - 1).toNat=i - 1:=by omega
    simp only [e]
    have h:=equalI_fn l[i] (l[i - 1]'(by omega))
    rw [decide_eq_false hne] at h
    exact h
   repeat' (first|refine z0 ?_|apply ds_nil|refine z5 ?_|refine z10 ?_|apply dw_seq2|refine z16 ?_|refine z20 ?_|apply dw_block|apply dw_skip|apply dw_exit|refine z19 ?_|apply thenD_n|apply thenD_e|apply inB_n|refine z17 ?_|(apply dt_callV;exact rfl;exact rfl;exact rfl;exact rfl;apply hs;exact rfl;(exact rfl);exact rfl;exact rfl;exact⟨_,rfl⟩;rintro _ rfl)|(refine z23 ?_ ?_ <;> intro hg)|fail)
   all_goals try (exfalso;omega)
   exact⟨i + 1,⟨by omega,by omega⟩,ent_ren id ⟨rfl,rfl,rfl,trivial⟩ ⟨rfl,trivial⟩ rfl rfl rfl rfl rfl rfl,by show l.length - (i + 1) < l.length - i;omega⟩
  ·repeat' (first|refine z0 ?_|apply ds_nil|refine z5 ?_|apply dw_seq2|refine z16 ?_|refine z20 ?_|apply dw_block|apply dw_skip|apply dw_exit|apply thenD_n|apply thenD_e|refine z17 ?_|(refine z23 ?_ ?_ <;> intro hg)|fail)
   all_goals try (exfalso;omega)
   refine dw_ent (ent_seal 4 rfl rfl rfl) ?_
   repeat' (apply dw_ret)
   exact⟨.inl rfl,_,rfl,0,[],trivial,rfl,rfl,rfl,rfl,rfl,rfl⟩
end Go.Proofs.YtapciiffpnociacGreat

/- The program's rule.Raw. Condition: none. -/
namespace Go.Proofs.YtapciiffpnociacGreat
open Go Go.RowKit
def manyW (S:List Fct) (r:Rul):Bool:=decide ((waysL S r.vars.toNat r.body).length≤2000)
def rawW (S:List Fct) (r:Rul):List (List Int):=if manyW S r then waysL S r.vars.toNat r.body else []
structure RulS (S:List Fct) (r:Rul):Prop where
 ok:okB S r.vars.toNat r.body
 bd:Bd r.body (List.replicate r.vars.toNat false)
 vars:0≤r.vars∧r.vars≤8
attribute [local irreducible] DW DS DL DQ Ev FnOk FnP thenD inBlockD DT
set_option maxHeartbeats 8000000 in
theorem raw_fn (S:List Fct) (r:Rul) (hS:Strict S) (hS2:S.length≤4398046511104) (hr:RulS S r):Fn 47 [elRul r,.d (.slice 2 (S.map encFct))] (fun res=>res = .tup [.d (.slice 1 ((rawW S r).map encW)),.d (.bool (manyW S r))]):=by
 refine fnp_enter' _ Tryz.func47 rfl rfl (by kernel_rfl) ?_
 intro O w0 E0 β0
 have hv:=hr.vars
 have hnd:S.Nodup:=hS.imp fun h he=>by subst he;exact lt_irrefl h
 obtain⟨p1,p2,p3⟩:=ways_perm hnd hr.ok.lit hr.bd
 have w:=find_fn r S hS hS2 r.body.length r.body rfl (e0 r.vars.toNat) [] (by rw [show (e0 r.vars.toNat).length=r.vars.toNat from List.length_replicate];exact hr.ok) (fun v x hx=>by
  unfold e0 at hx;rw [List.getElem?_replicate] at hx;split at hx <;> simp at hx) (by rw [hasE_e0];exact hr.bd) (by simp)
 have hlen:(waysL S r.vars.toNat r.body).length=(findE S r.body.length r.body (e0 r.vars.toNat)).length:=((waysL_perm S r.vars.toNat r.body).trans p1.symm).length_eq
 have hnodup:=(p1.nodup_iff).2 p2
 have hperm:=p1
 clear p1 p2 p3
 have hfew:fewW (findE S r.body.length r.body (e0 r.vars.toNat)) []=manyW S r:=by unfold fewW manyW;rw [hlen];simp
 rw [hfew] at w
 have hput:manyW S r=true→putW (findE S r.body.length r.body (e0 r.vars.toNat)) []=findE S r.body.length r.body (e0 r.vars.toNat):=fun h=>by
  unfold manyW at h
  have:=of_decide_eq_true h
  unfold putW
  rw [List.nil_append,List.take_of_length_le (by omega)]
 generalize findE S r.body.length r.body (e0 r.vars.toNat)=fw at *
 generalize putW fw []=pw at *
 repeat' (first|refine z0 ?_|apply ds_nil|refine z5 ?_|apply dw_seq2|refine z16 ?_|refine z20 ?_|apply thenD_n|refine z1 ?_|fail)
 all_goals try (exfalso;omega)
 refine dt_new rfl rfl rfl ⟨rfl,hv.1,?_,?_⟩ rfl rfl rfl rfl rfl ?_
 ·show 8 * r.vars.toNat≤_;omega
 ·unfold maxLen;omega
 repeat' refine z5 ?_
 refine dt_new rfl rfl rfl ⟨rfl,hv.1,?_,?_⟩ rfl rfl rfl rfl rfl ?_
 ·show 1 * r.vars.toNat≤_;omega
 ·unfold maxLen;omega
 repeat' ((fail_if_success (apply dw_stopS 2));(first|refine z5 ?_|refine z7 ?_|refine z11 ?_|apply dw_seq2|apply thenD_n))
 refine dw_ent (ent_cellrow 10 9 22 1 rfl rfl rfl) ?_
 refine dw_ent (ent_ren (k':=5) (L':=[(2,.loc 4 0),(6,.loc 0 0)]) (H':=(4,.blk 36 [.d (.int .i64 r.pred),.d (.slice 2 (r.terms.map encTrm)),.d (.int .i64 r.fold),.d (.slice 4 (r.body.map encLtl)),.d (.int .i64 r.vars)])::pfH r S (e0 r.vars.toNat) []) (fun j=>match j with|0=>10|1=>5|2=>8|3=>12|4=>0|j=>j)
  ⟨rfl,rfl,trivial⟩ ⟨rfl,rfl,by rw [outE_e0,List.map_replicate];rfl,by rw [hasE_e0,List.map_replicate];rfl,rfl,trivial⟩ rfl rfl rfl rfl rfl rfl) ?_
 repeat' (first|refine z0 ?_|apply dw_seq2|refine z16 ?_|fail)
 (refine ds_callF id (w) rfl rfl rfl rfl ⟨rfl,rfl,rfl,rfl,trivial⟩ rfl rfl rfl rfl rfl rfl ?_ ?_)
 ·rintro k2 res H2 ⟨rfl,rfl,rfl⟩;exact⟨rfl,rfl⟩
 rintro k2 res H2 ⟨rfl,rfl,rfl⟩
 change DS _ _ _ _ _ _ _ _
 clear w
 unfold rawW
 cases hm:manyW S r with
 | false =>
  rw [if_neg (by simp)]
  repeat' (first|refine z0 ?_|apply ds_nil|apply dw_seq2|refine z16 ?_|refine z18 ?_|apply thenD_n)
  all_goals try (exfalso;omega)
  refine dw_ent (ent_nild 4 1 rfl) ?_
  repeat' (first|apply dw_ret|apply thenD_r)
  exact⟨.inl rfl,_,rfl,rfl,rfl⟩
 | true =>
  have hp:=hput hm
  have hl2:fw.length≤2000:=by rw [← hlen];unfold manyW at hm;exact of_decide_eq_true hm
  rw [if_pos rfl]
  subst hp
  repeat' (first|refine z0 ?_|apply ds_nil|apply dw_seq2|refine z16 ?_|apply dw_skip|refine z19 ?_|apply thenD_n)
  all_goals try (exfalso;omega)
  refine ds_sort sortWays_c pw (by kernel_rfl) rfl rfl rfl rfl rfl rfl (by omega) ?_
  intro l' h6 h7
  have hsort:SortW l':=h7.imp fun {a b} h=>by rw [ordL_anti];omega
  have hl':l' = waysL S r.vars.toNat r.body:=waysL_eq hsort (h6.trans hperm)
  have hnd':l'.Nodup:=h6.nodup_iff.2 hnodup
  have w2:=compactW_fn l' hnd' (by rw [h6.length_eq];omega)
  rw [← hl']
  repeat' (first|refine z0 ?_|apply ds_nil|apply dw_seq2|refine z16 ?_|apply thenD_n)
  all_goals try (exfalso;omega)
  refine ds_callF (fun _=>8) w2 rfl rfl rfl rfl ⟨rfl,trivial⟩ rfl rfl rfl rfl rfl rfl ?_ ?_
  ·rintro k2 res H2 ⟨rfl,rfl⟩;exact⟨rfl,rfl⟩
  rintro k2 res H2 ⟨rfl,rfl⟩
  change DS _ _ _ _ _ _ _ _
  repeat' (first|refine z0 ?_|apply ds_nil|apply dw_ret|apply thenD_n)
  exact⟨.inl rfl,_,rfl,rfl,rfl⟩
end Go.Proofs.YtapciiffpnociacGreat

/- The document's lessInts, WaysOf. Condition: none. -/
namespace Go.Proofs.YtapciiffpnociacGreat
open Go Go.RowKit
theorem ordL_nil:ordL [] []=0:=rfl
theorem ordL_drop {a b:List Int} (hl:a.length=b.length) {i:Nat} (hi:i < a.length):ordL (a.drop i) (b.drop i)=if cmpI a[i] (b[i]'(by omega))=0 then ordL (a.drop (i + 1)) (b.drop (i + 1)) else cmpI a[i] (b[i]'(by omega)):=by
 rw [List.drop_eq_getElem_cons hi,List.drop_eq_getElem_cons (show i < b.length by omega),ordL]
theorem cmpI_eq0 {a b:Int}:cmpI a b=0↔a=b:=by unfold cmpI;repeat' split <;> omega
attribute [local irreducible] DW DS DL DQ Ev FnOk FnP thenD inBlockD DT
set_option maxHeartbeats 8000000 in
theorem lessInts_fn (a b:List Int) (hl:a.length=b.length):Fn 141 [.d (.slice 1 (a.map encI)),.d (.slice 1 (b.map encI))] (fun r=>r = .d (.bool (decide (ordL a b < 0)))):=by
 refine fnp_enter' _ Tryz.func141 rfl rfl (by kernel_rfl) ?_
 intro O w0 E0 β0
 have la:(a.map encI).length=a.length:=List.length_map _
 have lb:(b.map encI).length=b.length:=List.length_map _
 refine dw_len (t:=0) rfl (fun hk=>?_)
 repeat' (first|refine z0 ?_|apply ds_nil|apply dw_seq2|refine z16 ?_|apply dw_block|apply thenD_n)
 refine ds_loop (ι:=Nat) (fun i=>⟨0,[(0,.d (.slice 1 (a.map encI))),(1,.d (.slice 1 (b.map encI))),(5,.d (.int .i64 i))],[]⟩)
  (fun i=>i≤a.length∧ordL a b=ordL (a.drop i) (b.drop i)) (fun i=>a.length - i) 0 ⟨Nat.zero_le _,rfl⟩ (ent_ren id ⟨rfl,rfl,rfl,trivial⟩ trivial rfl rfl rfl rfl rfl rfl) ?_
 rintro i ⟨g1,g2⟩
 dsimp only at g1 g2 ⊢
 by_cases hi:i < a.length
 ·rw [ordL_drop hl hi] at g2
  by_cases he:a[i]=b[i]'(by omega)
  ·rw [if_pos (cmpI_eq0.2 he)] at g2
   repeat' (first|refine z0 ?_|apply ds_nil|refine z5 ?_|refine z10 ?_|apply dw_seq2|refine z16 ?_|refine z20 ?_|apply dw_block|apply dw_skip|apply dw_exit|apply dw_ret|apply thenD_n|apply thenD_e|apply thenD_r|apply inB_n|apply inB_r|refine z17 ?_|(refine z23 ?_ ?_ <;> intro hg)|fail)
   all_goals try (exfalso;omega)
   all_goals try (exfalso;exact hg he)
   exact⟨i + 1,⟨hi,g2⟩,ent_ren id ⟨rfl,rfl,rfl,trivial⟩ trivial rfl rfl rfl rfl rfl rfl,by omega⟩
  ·rw [if_neg (fun h=>he (cmpI_eq0.1 h))] at g2
   rw [g2]
   repeat' (first|refine z0 ?_|apply ds_nil|refine z5 ?_|refine z10 ?_|apply dw_seq2|refine z16 ?_|refine z20 ?_|apply dw_block|apply dw_skip|apply dw_exit|apply dw_ret|apply thenD_n|apply thenD_e|apply thenD_r|apply inB_n|apply inB_r|refine z17 ?_|(refine z23 ?_ ?_ <;> intro hg)|fail)
   all_goals try (exfalso;omega)
   all_goals try (exfalso;exact hg he)
   exact ret_b rfl (by simp only [cmpI_lt])
 ·rw [List.drop_of_length_le (by omega),List.drop_of_length_le (by omega)] at g2
  rw [g2,ordL_nil]
  repeat' (first|refine z0 ?_|apply ds_nil|refine z5 ?_|refine z10 ?_|apply dw_seq2|refine z16 ?_|refine z20 ?_|apply dw_block|apply dw_skip|apply dw_exit|apply dw_ret|apply thenD_n|apply thenD_e|apply thenD_r|apply inB_n|apply inB_r|refine z17 ?_|(refine z23 ?_ ?_ <;> intro hg)|fail)
  all_goals try (exfalso;omega)
  exact⟨.inl rfl,_,rfl,rfl,rfl⟩
theorem sortedTo_le {o:List (List Int)} {i j:Nat} (h:sortedTo o i) (hj:j≤i):sortedTo o j:=fun p q a b h1 h2=>h p q a b h1 (by omega)
theorem swap_set {o:List (List Int)} {k:Nat} {a b:List Int}:((o.map encW).set k (encW a)).set (k - 1) (encW b)=(swapW o k a b).map encW:=by unfold swapW;rw [List.map_set,List.map_set]
set_option maxHeartbeats 8000000 in
theorem waysOf_fn (l:List Fct) (r:Rul) (hl:l.length≤60) (hr:RulS (setF' l) r):Fn 102 [elRul r,.d (.slice 2 (l.map encFct))] (fun res=>res = .tup [.d (.slice 1 ((rawW (setF' l) r).map encW)),.d (.bool (manyW (setF' l) r))]):=by
 refine fnp_enter' _ Tryz.func102 rfl rfl (by kernel_rfl) ?_
 intro O w0 E0 β0
 have hv:=hr.vars
 have hS:=(setF_spec l).1
 have w1:=setOf_fn l (by omega)
 have hSl:(setF' l).length≤60:=Nat.le_trans (setF_len l []) hl
 generalize setF' l=S at *
 have hnd:S.Nodup:=hS.imp fun h he=>by subst he;exact lt_irrefl h
 obtain⟨_,p2,p3⟩:=ways_perm hnd hr.ok.lit hr.bd
 have w:=from_fn r S (by omega) (r.body.length - 0) 0 rfl (Nat.zero_le _) (e0 r.vars.toNat) [] false (by rw [show (e0 r.vars.toNat).length=r.vars.toNat from List.length_replicate];exact hr.ok) (fun v x hx=>by
  unfold e0 at hx;rw [List.getElem?_replicate] at hx;split at hx <;> simp at hx) (by simp)
 rw [show yesL r.body 0=yesOf r.body from rfl] at w
 have hlen:(waysL S r.vars.toNat r.body).length=(fromE S r.body (yesOf r.body) (e0 r.vars.toNat)).length:=(waysL_perm S r.vars.toNat r.body).length_eq
 have hlens:∀ x∈fromE S r.body (yesOf r.body) (e0 r.vars.toNat),x.length=r.vars.toNat:=fun x hx=>((p3 x).1 hx).1
 have huniq:∀ o:List (List Int),SortW o→o.Perm (fromE S r.body (yesOf r.body) (e0 r.vars.toNat))→o=waysL S r.vars.toNat r.body:=fun o h1 h2=>waysL_eq h1 h2
 clear p3
 generalize fromE S r.body (yesOf r.body) (e0 r.vars.toNat)=fw at *
 have hadd:addW fw ([],false)=(fw.take 2000,!manyW S r):=by
  unfold addW manyW
  rw [hlen]
  simp only [Bool.false_eq_true,if_false,List.length_nil,List.nil_append,Nat.sub_zero,Nat.zero_add]
  rw [← decide_not]
  exact congrArg _ (decide_eq_decide.2 (by omega))
 rw [hadd] at w
 repeat' ((fail_if_success (apply dw_stopT 2));(first|refine z0 ?_|apply ds_nil|refine z5 ?_|refine z6 ?_|refine z7 ?_|refine z11 ?_|apply dw_seq2|refine z16 ?_|refine z20 ?_|apply thenD_n|refine z22 ?_ (hc:=by apply w1)|refine z1 ?_|fail))
 all_goals try (exfalso;omega)
 refine dw_ent (ent_cellrow 5 6 22 1 rfl rfl rfl) ?_
 refine dw_ent (ent_ren (k':=3) (L':=[(2,.loc 2 0),(6,.loc 0 0)]) (H':=(2,.blk 36 [.d (.int .i64 r.pred),.d (.slice 2 (r.terms.map encTrm)),.d (.int .i64 r.fold),.d (.slice 4 (r.body.map encLtl)),.d (.int .i64 r.vars)])::fndH r S [] false) (fun j=>match j with|0=>5|1=>7|2=>0|j=>j)
  ⟨rfl,rfl,trivial⟩ ⟨rfl,rfl,rfl,trivial⟩ rfl rfl rfl rfl rfl rfl) ?_
 refine dw_tail 6 (by kernel_rfl) (by kernel_rfl) (by kernel_rfl) rfl rfl rfl ?_
 repeat' refine z5 ?_
 refine dt_new rfl rfl rfl ⟨rfl,hv.1,?_,?_⟩ rfl rfl rfl rfl rfl ?_
 ·show 8 * r.vars.toNat≤_;omega
 ·unfold maxLen;omega
 repeat' refine z5 ?_
 refine dt_new rfl rfl rfl ⟨rfl,hv.1,?_,?_⟩ rfl rfl rfl rfl rfl ?_
 ·show 1 * r.vars.toNat≤_;omega
 ·unfold maxLen;omega
 repeat' refine z11 ?_
 refine ds_ent (ent_seal 15 rfl rfl rfl) ?_
 refine ds_ent (ent_seal 18 rfl rfl rfl) ?_
 have en:List.replicate r.vars.toNat [D.int .i64 0]=(outE (e0 r.vars.toNat)).map encI:=by rw [outE_e0,List.map_replicate];rfl
 have es:List.replicate r.vars.toNat [D.bool false]=(hasE (e0 r.vars.toNat)).map encBl:=by rw [hasE_e0,List.map_replicate];rfl
 rw [← en,← es] at w
 (refine ds_callF id (w) rfl rfl rfl rfl ⟨rfl,rfl,trivial⟩ rfl rfl rfl rfl rfl rfl ?_ ?_)
 ·rintro k2 res H2 ⟨rfl,rfl,rfl⟩;exact⟨rfl,rfl⟩
 rintro k2 res H2 ⟨rfl,rfl,rfl⟩
 change DS _ _ _ _ _ _ _ _
 clear w en es
 unfold rawW
 cases hm:manyW S r with
 | false =>
  rw [if_neg (by simp)]
  repeat' (first|refine z0 ?_|apply ds_nil|apply dw_seq2|refine z16 ?_|refine z18 ?_|apply thenD_n)
  all_goals try (exfalso;omega)
  refine dw_ent (ent_nild 4 1 rfl) ?_
  repeat' (first|apply dw_ret|apply thenD_r)
  exact⟨.inl rfl,_,rfl,rfl,rfl⟩
 | true =>
  have hl2:fw.length≤2000:=by rw [← hlen];unfold manyW at hm;exact of_decide_eq_true hm
  rw [if_pos rfl,List.take_of_length_le hl2]
  repeat' (first|refine z0 ?_|apply ds_nil|apply dw_seq2|refine z16 ?_|apply dw_block|apply dw_skip|refine z19 ?_|apply thenD_n)
  all_goals try (exfalso;omega)
  refine ds_loop (ι:=Nat × List (List Int)) (fun x=>⟨2,[(6,.loc 0 0),(7,.d (.int .i64 x.1))],fndH r S x.2 false⟩)
   (fun x=>1≤x.1∧x.1≤fw.length + 1∧x.2.Perm fw∧sortedTo x.2 x.1) (fun x=>fw.length + 1 - x.1) (1,fw) ⟨Nat.le_refl _,by dsimp only;omega,.refl _,fun p q _ _ _ _=>by dsimp only at *;omega⟩ (ent_ren (fun j=>match j with|1=>10|j=>j) ⟨rfl,rfl,trivial⟩ ⟨rfl,rfl,trivial⟩ rfl rfl rfl rfl rfl rfl) ?_
  rintro⟨i,o⟩ ⟨g1,g2,g3,g4⟩
  dsimp only at g1 g2 g3 g4 ⊢
  have lo:(o.map encW).length=o.length:=List.length_map _
  have lof:=g3.length_eq
  by_cases hi:i < o.length
  ·repeat' (first|refine z0 ?_|apply ds_nil|apply dw_seq2|refine z16 ?_|apply dw_block|apply dw_skip|apply dw_exit|apply dw_ret|apply thenD_n|apply thenD_e|refine z17 ?_|(refine z23 ?_ ?_ <;> intro hg)|fail)
   all_goals try (exfalso;omega)
   refine ds_loop (ι:=Nat × List (List Int)) (fun x=>⟨2,[(6,.loc 0 0),(7,.d (.int .i64 i)),(8,.d (.int .i64 x.1))],fndH r S x.2 false⟩)
    (fun x=>x.1≤i∧x.2.Perm fw∧insOk x.2 x.1 i) (fun x=>x.1) (i,o) ⟨Nat.le_refl _,g3,sortedTo_ins g4⟩ (ent_ren id ⟨rfl,rfl,rfl,trivial⟩ ⟨rfl,rfl,trivial⟩ rfl rfl rfl rfl rfl rfl) ?_
   clear g3 g4 lo
   rintro⟨k,o⟩ ⟨f1,f2,f3⟩
   dsimp only at f1 f2 f3 ⊢
   have lo:(o.map encW).length=o.length:=List.length_map _
   have lof2:=f2.length_eq
   cases k with
   | zero =>
    repeat' (first|refine z0 ?_|apply ds_nil|refine z5 ?_|refine z14 ?_|refine z10 ?_|apply dw_seq2|refine z16 ?_|refine z20 ?_|apply dw_exit|refine z19 ?_|apply thenD_n|apply thenD_e|apply inB_n|refine z17 ?_|fail)
    all_goals try (exfalso;omega)
    exact⟨(i + 1,o),⟨by dsimp only;omega,by dsimp only;omega,f2,fun p q a b h1 h2=>insOk_done f3 (.inl rfl) p q a b h1 (by dsimp only at h2;omega)⟩,ent_ren id ⟨rfl,rfl,trivial⟩ ⟨rfl,rfl,trivial⟩ rfl rfl rfl rfl rfl rfl,by show fw.length + 1 - (i + 1) < fw.length + 1 - i;omega⟩
   | succ j =>
    have hj1:j + 1 < o.length:=by omega
    have hj0:j < o.length:=by omega
    have e1:o[j + 1]? = some o[j + 1]:=List.getElem?_eq_getElem hj1
    have e0:o[j]? = some o[j]:=List.getElem?_eq_getElem hj0
    have w3:=lessInts_fn o[j + 1] o[j] ((hlens _ (f2.mem_iff.1 (List.getElem_mem hj1))).trans (hlens _ (f2.mem_iff.1 (List.getElem_mem hj0))).symm)
    have hpm:j + 1 < (o.map encW).length∧∀ y∈o.map encW,y.length=1:=rowOk hj1 fun _=>rfl
    have hpk:j < ((o.map encW).set (j + 1) [D.slice 1 (o[j].map encI)]).length∧∀ y∈(o.map encW).set (j + 1) [D.slice 1 (o[j].map encI)],y.length=1:=⟨by rw [List.length_set];omega,fun y hy=>by
     rcases List.mem_or_eq_of_mem_set hy with h|h
     ·exact hpm.2 y h
     ·rw [h];rfl⟩
    cases hb:decide (ordL o[j + 1] o[j] < 0) with
    | false =>
     rw [hb] at w3
     repeat' (first|refine z0 ?_|apply ds_nil|refine z5 ?_|refine z14 ?_|refine z10 ?_|apply dw_seq2|refine z16 ?_|refine z20 ?_|apply dw_exit|refine z19 ?_|apply thenD_n|apply thenD_e|apply inB_n|refine z17 ?_|refine z22 ?_ (hc:=by apply w3)|((fail_if_success (apply dt_known;exact rfl));apply dt_guardP;exact rfl;exact rfl;exact rfl;all_goals intro hg))
     all_goals try (exfalso;omega)
     exact⟨(i + 1,o),⟨by dsimp only;omega,by dsimp only;omega,f2,fun p q a b h1 h2=>insOk_done f3 (.inr ⟨_,_,Nat.succ_pos j,e0,e1,of_decide_eq_false hb⟩) p q a b h1 (by dsimp only at h2;omega)⟩,ent_ren id ⟨rfl,rfl,trivial⟩ ⟨rfl,rfl,trivial⟩ rfl rfl rfl rfl rfl rfl,by show fw.length + 1 - (i + 1) < fw.length + 1 - i;omega⟩
    | true =>
     rw [hb] at w3
     repeat' (first|refine z0 ?_|apply ds_nil|refine z5 ?_|refine z14 ?_|refine z6 ?_|refine z10 ?_|apply dw_seq2|refine z16 ?_|refine z20 ?_|apply dw_block|apply dw_skip|apply dw_exit|refine z18 ?_|refine z19 ?_|apply thenD_n|apply thenD_e|apply inB_n|refine z17 ?_|refine z22 ?_ (hc:=by apply w3)|((fail_if_success (apply dt_known;exact rfl));apply dt_guardP;exact rfl;exact rfl;exact rfl;all_goals intro hg))
     all_goals try (exfalso;omega)
     have hsw:=swap_set (o:=o) (k:=j + 1) (a:=o[j]) (b:=o[j + 1])
     exact⟨(j,swapW o (j + 1) o[j] o[j + 1]),⟨by dsimp only;omega,(swapW_perm (Nat.succ_pos j) e0 e1).trans f2,insOk_swap (Nat.succ_pos j) hj1 f1 e0 e1 (of_decide_eq_true hb) f3⟩,ent_ren id ⟨rfl,rfl,congrArg (fun z=>SV.d (D.int .i64 z)) (nat_sub_1 j),trivial⟩ ⟨rfl,by rw [← hsw];rfl,trivial⟩ rfl rfl rfl rfl rfl rfl,Nat.lt_succ_self j⟩
  ·have hall:=huniq o (sortedTo_all (sortedTo_le g4 (by omega))) g3
   rw [← hall]
   repeat' (first|refine z0 ?_|apply ds_nil|apply dw_seq2|refine z16 ?_|apply dw_block|apply dw_skip|apply dw_exit|apply thenD_n|apply thenD_e|refine z17 ?_|(refine z23 ?_ ?_ <;> intro hg)|fail)
   all_goals try (exfalso;omega)
   refine dw_ent (ent_seal 4 rfl rfl rfl) ?_
   repeat' (apply dw_ret)
   exact⟨.inl rfl,_,rfl,rfl,rfl⟩
end Go.Proofs.YtapciiffpnociacGreat

/- The document's checkRule and CheckProgram. Condition: none. -/
namespace Go.Proofs.YtapciiffpnociacGreat
open Go Go.RowKit
attribute [local irreducible] DW DS DL DQ Ev FnOk FnP thenD inBlockD DT
set_option maxHeartbeats 8000000 in
theorem rrule_fn (p:Prg) (r:Rul):Fn 105 [elPrg p,elRul r] (fun x=>x = .d (.int .i64 (ruleE p.arity r))):=by
 refine fnp_enter' _ Tryz.func105 rfl rfl (by kernel_rfl) ?_
 intro O w0 E0 β0
 have la:(p.arity.map encI).length=p.arity.length:=List.length_map _
 have lb:(r.terms.map encTrm).length=r.terms.length:=List.length_map _
 have lc:(r.body.map encLtl).length=r.body.length:=List.length_map _
 refine dw_lenA 0 0 rfl rfl (fun hk=>?_)
 refine dw_lenA 1 1 rfl rfl (fun hk2=>?_)
 refine dw_lenA 1 3 rfl rfl (fun hk3=>?_)
 have w1:=sbetween_fn r.pred 0 (((p.arity.map encI).length:Int) - 1)
 have w2:=sbetween_fn r.vars 0 8
 have w3:=sbetween_fn r.fold 0 4
 have hR:ruleE p.arity r=ruleE p.arity r:=rfl
 conv at hR=>rhs;unfold ruleE
 rw [hR]
 rw [← la,← lb,← lc]
 by_cases hp:inR r.pred 0 (((p.arity.map encI).length:Int) - 1)=true
 ·have hp':=inR_spec hp
  have hA:=arity_at (p:=p) (n:=r.pred) (by omega) (by omega)
  rw [hp] at w1 ⊢
  rw [if_neg (show ¬ (true=false) by decide),hA]
  by_cases hv:inR r.vars 0 8=true
  ·have hv':=inR_spec hv
   rw [hv] at w2 ⊢
   rw [if_neg (show ¬ (true=false) by decide)]
   have w4:=rterms_fn r.terms r.vars hv'.1 hv'.2
   clear hv hp hA hR
   generalize termsE r.vars r.terms=te at w4 ⊢
   by_cases hfo:inR r.fold 0 4=true
   ·have hf':=inR_spec hfo
    rw [hfo] at w3 ⊢
    rw [if_neg (show ¬ (true=false) by decide)]
    repeat' (first|refine z0 ?_|refine z12 ?_|apply ds_nil|refine z5 ?_|refine z10 ?_|apply dw_seq2|refine z16 ?_|refine z20 ?_|apply dw_block|apply dw_skip|apply dw_ret|refine z18 ?_|refine z19 ?_|apply thenD_n|apply thenD_r|refine z21 ?_ (hc:=by apply w1)|refine z21 ?_ (hc:=by apply w2)|refine z21 ?_ (hc:=by apply w3)|refine z21 ?_ (hc:=by apply w4)|refine z1 ?_|(refine z23 ?_ ?_ <;> intro hg)|((fail_if_success (apply ds_known;exact rfl));apply ds_guardP;exact rfl;exact rfl;exact rfl;all_goals intro hg))
    all_goals try (refine ret_i rfl ?_;(repeat' split) <;> (first|rfl|(exfalso;omega)))
    all_goals
     have hb4:r.body.length≤4:=by omega
     have hfin:∀ e,firstL (litE p.arity r.vars) r.body=e→(if (((r.terms.map encTrm).length:Nat):Int)≠p.arity[r.pred.toNat]'(by omega) then 1 else if te≠0 then te else if r.fold≠0∧((r.terms.map encTrm).length=0∨(r.body.map encLtl).length=0) then 1 else if 4 < (r.body.map encLtl).length then 2 else if firstL (litE p.arity r.vars) r.body≠0 then firstL (litE p.arity r.vars) r.body else if safeB r=false then 4 else 0)=if e≠0 then e else if safeB r=false then 4 else 0:=by
      rintro e rfl
      (repeat' split) <;> (first|rfl|(exfalso;omega))
     generalize (if (((r.terms.map encTrm).length:Nat):Int)≠p.arity[r.pred.toNat]'(by omega) then 1 else if te≠0 then te else if r.fold≠0∧((r.terms.map encTrm).length=0∨(r.body.map encLtl).length=0) then 1 else if 4 < (r.body.map encLtl).length then 2 else if firstL (litE p.arity r.vars) r.body≠0 then firstL (litE p.arity r.vars) r.body else if safeB r=false then 4 else 0)=res at hfin ⊢
     refine ds_loop (ι:=Nat) (fun i=>⟨2,[(2,.loc 0 0),(3,.loc 1 0),(4,.d (.int .i64 0)),(5,.d (.int .i64 (p.arity.map encI).length)),(7,.d (.int .i64 i))],[(0,prgB p),(1,ruleB r)]⟩)
      (fun i=>i≤r.body.length∧firstL (litE p.arity r.vars) r.body=firstL (litE p.arity r.vars) (r.body.drop i)) (fun i=>r.body.length - i) 0 ⟨Nat.zero_le _,rfl⟩ (ent_ren id ⟨rfl,rfl,rfl,rfl,rfl,trivial⟩ ⟨rfl,rfl,trivial⟩ rfl rfl rfl rfl rfl rfl) ?_
     rintro i ⟨g1,g2⟩
     by_cases hi:i < r.body.length
     ·rw [firstL_step hi] at g2
      repeat' ((fail_if_success (apply dw_stopR 21));(first|refine z0 ?_|apply ds_nil|apply dw_seq2|refine z16 ?_|apply dw_block|apply dw_skip|apply dw_exit|apply thenD_n|apply thenD_e|refine z17 ?_|refine z1 ?_|refine z3 ?_|(refine z23 ?_ ?_ <;> intro hg)|fail))
      all_goals try (exfalso;omega)
      generalize r.body[i]=l at g2 ⊢
      have hret:∀ e,litE p.arity r.vars l=e→e≠0→e=res:=by
       rintro e rfl he
       rw [if_pos he] at g2
       rw [hfin _ g2,if_pos he]
      obtain⟨NX,hN,hnext⟩:∃ NX:Prop,(NX→firstL (litE p.arity r.vars) r.body=firstL (litE p.arity r.vars) (r.body.drop (i + 1)))∧(litE p.arity r.vars l=0→NX):=by
       refine⟨_,id,fun he=>?_⟩
       rw [if_neg (by rw [he];decide)] at g2
       exact g2
      clear hfin g2
      refine dw_ent (ent_ren (k':=3) (L':=[(2,.loc 0 0),(3,.loc 1 0),(4,.d (.int .i64 0)),(5,.d (.int .i64 (p.arity.map encI).length)),(7,.d (.int .i64 i)),(8,.loc 2 0)]) (H':=[(0,prgB p),(1,ruleB r),(2,litB l)]) id ⟨rfl,rfl,rfl,rfl,rfl,rfl,trivial⟩ ⟨rfl,rfl,rfl,trivial⟩ rfl rfl rfl rfl rfl rfl) ?_
      obtain⟨kind,op,pred,terms⟩:=l
      have lt:(terms.map encTrm).length=terms.length:=List.length_map _
      have wt:=rterms_fn terms r.vars hv'.1 hv'.2
      have k1:=sbetween_fn kind 1 4
      have wp:=sbetween_fn pred 0 (((p.arity.map encI).length:Int) - 1)
      have wo3:=sbetween_fn op 1 4
      have wo4:=sbetween_fn op 5 7
      unfold litE opB at hret hnext
      dsimp only [litB] at hret hnext ⊢
      rw [← la,← lt] at hret hnext
      generalize termsE r.vars terms=tl at wt hret hnext
      generalize inR op 1 4=o3 at wo3 hret hnext
      generalize inR op 5 7=o4 at wo4 hret hnext
      by_cases hk1:inR kind 1 4=true
      ·have hk':=inR_spec hk1
       rw [hk1] at hret hnext k1
       by_cases hpp:inR pred 0 (((p.arity.map encI).length:Int) - 1)=true
       ·have hpp':=inR_spec hpp
        have hA':=arity_at (p:=p) (n:=pred) (by omega) (by omega)
        rw [hpp] at hret hnext wp
        rw [hA'] at hret hnext
        clear hpp hA' hk1
        rcases (show kind=1∨kind=2∨kind=3∨kind=4 by omega) with rfl|rfl|rfl|rfl
        all_goals repeat' (first|refine z0 ?_|refine z12 ?_|apply ds_nil|refine z5 ?_|refine z10 ?_|apply dw_seq2|refine z16 ?_|refine z20 ?_|apply dw_skip|apply dw_ret|refine z18 ?_|refine z19 ?_|apply thenD_n|apply thenD_r|apply inB_n|apply inB_r|refine z21 ?_ (hc:=by apply k1)|refine z21 ?_ (hc:=by apply wp)|refine z21 ?_ (hc:=by apply wo3)|refine z21 ?_ (hc:=by apply wo4)|refine z21 ?_ (hc:=by apply wt)|(refine z23 ?_ ?_ <;> intro hg)|(apply dw_cond;exact rfl;all_goals intro hg)|((fail_if_success (apply ds_known;exact rfl));apply ds_guardP;exact rfl;exact rfl;exact rfl;all_goals intro hg)|((fail_if_success (apply ds_known;exact rfl));apply ds_guardB;exact rfl;exact rfl;exact rfl;all_goals intro hg))
        all_goals first
         | (exfalso;omega)
         | (refine ret_i rfl (hret _ ?_ ?_) <;> (clear hret hnext hN k1 wp wo3 wo4 wt w1 w2 w3 w4;(repeat' split) <;> (first|rfl|assumption|decide|(exfalso;omega)|contradiction|(exfalso;simp_all;done))))
         | (refine⟨i + 1,⟨by omega,hN (hnext ?_)⟩,ent_ren id ⟨rfl,rfl,rfl,rfl,rfl,trivial⟩ ⟨rfl,rfl,trivial⟩ rfl rfl rfl rfl rfl rfl,by show r.body.length - (i + 1) < r.body.length - i;omega⟩;(clear hret hnext hN k1 wp wo3 wo4 wt w1 w2 w3 w4;(repeat' split) <;> (first|omega|contradiction|(exfalso;simp_all;done))))
       ·rw [Bool.not_eq_true] at hpp
        rw [hpp] at hret hnext wp
        clear hpp hk1
        rcases (show kind=1∨kind=2∨kind=3∨kind=4 by omega) with rfl|rfl|rfl|rfl
        all_goals repeat' (first|refine z0 ?_|refine z12 ?_|apply ds_nil|apply dw_seq2|refine z16 ?_|apply dw_skip|apply dw_ret|refine z18 ?_|refine z19 ?_|apply thenD_n|apply thenD_r|apply inB_n|apply inB_r|refine z21 ?_ (hc:=by apply k1)|refine z21 ?_ (hc:=by apply wp)|refine z21 ?_ (hc:=by apply wo3)|refine z21 ?_ (hc:=by apply wo4)|refine z21 ?_ (hc:=by apply wt)|(refine z23 ?_ ?_ <;> intro hg)|(apply dw_cond;exact rfl;all_goals intro hg)|((fail_if_success (apply ds_known;exact rfl));apply ds_guardP;exact rfl;exact rfl;exact rfl;all_goals intro hg)|((fail_if_success (apply ds_known;exact rfl));apply ds_guardB;exact rfl;exact rfl;exact rfl;all_goals intro hg))
        all_goals first
         | (exfalso;omega)
         | (refine ret_i rfl (hret _ ?_ ?_) <;> (clear hret hnext hN k1 wp wo3 wo4 wt w1 w2 w3 w4;(repeat' split) <;> (first|rfl|assumption|decide|(exfalso;omega)|contradiction|(exfalso;simp_all;done))))
         | (refine⟨i + 1,⟨by omega,hN (hnext ?_)⟩,ent_ren id ⟨rfl,rfl,rfl,rfl,rfl,trivial⟩ ⟨rfl,rfl,trivial⟩ rfl rfl rfl rfl rfl rfl,by show r.body.length - (i + 1) < r.body.length - i;omega⟩;(clear hret hnext hN k1 wp wo3 wo4 wt w1 w2 w3 w4;(repeat' split) <;> (first|omega|contradiction|(exfalso;simp_all;done))))
      ·rw [Bool.not_eq_true] at hk1
       rw [hk1] at hret k1
       repeat' (first|refine z0 ?_|apply ds_nil|apply dw_seq2|refine z16 ?_|apply dw_ret|refine z18 ?_|apply thenD_n|apply thenD_r|apply inB_r|refine z21 ?_ (hc:=by apply k1)|fail)
       all_goals exact ret_i rfl (hret _ rfl (by decide))
     ·rw [firstL_end (by omega)] at g2
      have hall:=firstL_zero g2
      have w7:=safe_fn r hb4 hv'.1 hv'.2 (fun l hl=>(litE_ok hv'.1 (hall l hl)).1) (fun l hl=>(litE_ok hv'.1 (hall l hl)).2)
      rw [hfin 0 g2,if_neg (by decide)]
      generalize safeB r=sb at w7 ⊢
      repeat' (first|refine z0 ?_|apply ds_nil|apply dw_seq2|refine z16 ?_|apply dw_block|apply dw_skip|apply dw_exit|apply dw_ret|apply thenD_n|apply thenD_e|apply thenD_r|refine z17 ?_|refine z21 ?_ (hc:=by apply w7)|refine z1 ?_|refine z3 ?_|(refine z23 ?_ ?_ <;> intro hg)|(apply dw_cond;exact rfl;all_goals intro hg))
      all_goals first
       | (exfalso;omega)
       | (refine ret_i rfl ?_;simp_all;done)
   ·rw [Bool.not_eq_true] at hfo
    rw [hfo] at w3 ⊢
    repeat' (first|refine z0 ?_|apply ds_nil|refine z5 ?_|refine z10 ?_|apply dw_seq2|refine z16 ?_|refine z20 ?_|apply dw_skip|apply dw_ret|refine z18 ?_|refine z19 ?_|apply thenD_n|apply thenD_r|refine z21 ?_ (hc:=by apply w1)|refine z21 ?_ (hc:=by apply w2)|refine z21 ?_ (hc:=by apply w3)|refine z21 ?_ (hc:=by apply w4)|refine z1 ?_|(refine z23 ?_ ?_ <;> intro hg)|fail)
    all_goals (refine ret_i rfl ?_;(repeat' split) <;> (first|rfl|(exfalso;omega)|contradiction))
  ·rw [Bool.not_eq_true] at hv
   rw [hv] at w2 ⊢
   repeat' (first|refine z0 ?_|apply ds_nil|refine z5 ?_|refine z10 ?_|apply dw_seq2|refine z16 ?_|refine z20 ?_|apply dw_skip|apply dw_ret|refine z18 ?_|refine z19 ?_|apply thenD_n|apply thenD_r|refine z21 ?_ (hc:=by apply w1)|refine z21 ?_ (hc:=by apply w2)|refine z1 ?_|(refine z23 ?_ ?_ <;> intro hg)|fail)
   all_goals (refine ret_i rfl ?_;(repeat' split) <;> (first|rfl|(exfalso;omega)|contradiction))
 ·rw [Bool.not_eq_true] at hp
  rw [hp] at w1 ⊢
  rw [if_pos rfl]
  repeat' (first|refine z0 ?_|apply ds_nil|apply dw_seq2|refine z16 ?_|apply dw_ret|refine z18 ?_|apply thenD_n|apply thenD_r|refine z21 ?_ (hc:=by apply w1)|refine z1 ?_|fail)
  all_goals exact ret_i rfl rfl
end Go.Proofs.YtapciiffpnociacGreat

/- The document's CheckProgram. Condition: none. -/
namespace Go.Proofs.YtapciiffpnociacGreat
open Go Go.RowKit
attribute [local irreducible] DW DS DL DQ Ev FnOk FnP thenD inBlockD DT
set_option maxHeartbeats 8000000 in
theorem rcheck_fn (p:Prg):Fn 66 [elPrg p] (fun x=>x = .d (.int .i64 (progE nameR p))):=by
 refine fnp_enter' _ Tryz.func66 rfl rfl (by kernel_rfl) ?_
 intro O w0 E0 β0
 have la:(p.arity.map encI).length=p.arity.length:=List.length_map _
 have lb:(p.names.map encT).length=p.names.length:=List.length_map _
 have lc:(p.rules.map encRul).length=p.rules.length:=List.length_map _
 refine dw_lenA 0 0 rfl rfl (fun hk=>?_)
 refine dw_lenA 0 1 rfl rfl (fun hk1=>?_)
 refine dw_lenA 0 2 rfl rfl (fun hk2=>?_)
 unfold progE
 by_cases h1:10 < p.arity.length∨12 < p.rules.length
 ·rw [if_pos h1]
  repeat' (first|refine z0 ?_|refine z12 ?_|apply ds_nil|apply dw_seq2|refine z16 ?_|apply dw_block|apply dw_skip|apply dw_ret|refine z18 ?_|apply thenD_n|apply thenD_r|refine z1 ?_|(refine z23 ?_ ?_ <;> intro hg)|((fail_if_success (apply ds_known;exact rfl));apply ds_guardP;exact rfl;exact rfl;exact rfl;all_goals intro hg))
  all_goals first
   | (exfalso;omega)
   | exact ret_i rfl rfl
 ·rw [if_neg h1]
  by_cases h2:p.names.length≠p.arity.length
  ·rw [if_pos h2]
   repeat' (first|refine z0 ?_|refine z12 ?_|apply ds_nil|apply dw_seq2|refine z16 ?_|apply dw_block|apply dw_skip|apply dw_ret|refine z18 ?_|apply thenD_n|apply thenD_r|refine z1 ?_|(refine z23 ?_ ?_ <;> intro hg)|((fail_if_success (apply ds_known;exact rfl));apply ds_guardP;exact rfl;exact rfl;exact rfl;all_goals intro hg))
   all_goals first
    | (exfalso;omega)
    | exact ret_i rfl rfl
  ·rw [if_neg h2]
   generalize hres:(if firstI (nameE nameR p) 0 p.names.length≠0 then firstI (nameE nameR p) 0 p.names.length else firstL (ruleE p.arity) p.rules)=res
   repeat' (first|refine z0 ?_|refine z12 ?_|apply ds_nil|apply dw_seq2|refine z16 ?_|apply dw_block|apply dw_skip|apply dw_ret|refine z18 ?_|apply thenD_n|apply thenD_r|refine z1 ?_|(refine z23 ?_ ?_ <;> intro hg)|((fail_if_success (apply ds_known;exact rfl));apply ds_guardP;exact rfl;exact rfl;exact rfl;all_goals intro hg))
   all_goals try (exfalso;omega)
   refine ds_loop (ι:=Nat) (fun i=>⟨1,[(1,.loc 0 0),(2,.d (.int .i64 0)),(3,.d (.int .i64 i))],[(0,prgB p)]⟩)
    (fun i=>i≤p.names.length∧firstI (nameE nameR p) 0 p.names.length=firstI (nameE nameR p) i (p.names.length - i)) (fun i=>p.names.length - i) 0 ⟨Nat.zero_le _,rfl⟩ (ent_ren id ⟨rfl,rfl,rfl,trivial⟩ ⟨rfl,trivial⟩ rfl rfl rfl rfl rfl rfl) ?_
   rintro i ⟨g1,g2⟩
   by_cases hi:i < p.names.length
   ·have ha:p.arity.getD i 0=p.arity[i]'(by omega):=by rw [List.getD,List.getElem?_eq_getElem (by omega)];rfl
    have hn:p.names.getD i ⟨#[]⟩=p.names[i]:=by rw [List.getD,List.getElem?_eq_getElem hi];rfl
    rw [firstI_step hi,show nameE nameR p i=if inR (p.arity.getD i 0) 0 3=false then 3 else if nameR (p.names.getD i ⟨#[]⟩)=false then 1 else if (p.names.take i).any (fun s=>decide (s=p.names.getD i ⟨#[]⟩)) then 6 else 0 from rfl,ha,hn] at g2
    have wn:=isName_fn p.names[i]
    have wa:=sbetween_fn (p.arity[i]'(by omega)) 0 3
    generalize inR (p.arity[i]'(by omega)) 0 3=ba at g2 wa
    generalize nameR p.names[i]=bn at g2 wn
    have hret:∀ e,e≠0→firstI (nameE nameR p) 0 p.names.length=e→e=res:=by
     rintro e he h
     rw [← hres,h,if_pos he]
    cases ba with
    | false =>
     repeat' (first|refine z0 ?_|apply ds_nil|apply dw_seq2|refine z16 ?_|apply dw_block|apply dw_skip|apply dw_exit|apply dw_ret|refine z18 ?_|apply thenD_n|apply thenD_e|apply thenD_r|apply inB_r|refine z17 ?_|refine z21 ?_ (hc:=by apply wa)|(refine z23 ?_ ?_ <;> intro hg)|fail)
     all_goals first
      | (exfalso;omega)
      | exact ret_i rfl (hret 3 (by decide) g2)
    | true =>
     cases bn with
     | false =>
      repeat' (first|refine z0 ?_|apply ds_nil|apply dw_seq2|refine z16 ?_|apply dw_block|apply dw_skip|apply dw_exit|apply dw_ret|refine z18 ?_|refine z19 ?_|apply thenD_n|apply thenD_e|apply thenD_r|apply inB_r|refine z17 ?_|refine z21 ?_ (hc:=by apply wa)|refine z21 ?_ (hc:=by apply wn)|(refine z23 ?_ ?_ <;> intro hg)|fail)
      all_goals first
       | (exfalso;omega)
       | exact ret_i rfl (hret 1 (by decide) g2)
     | true =>
      have lt:(p.names.take i).length=i:=by simp;omega
      repeat' (first|refine z0 ?_|apply ds_nil|apply dw_seq2|refine z16 ?_|apply dw_block|apply dw_skip|apply dw_exit|refine z19 ?_|apply thenD_n|apply thenD_e|refine z17 ?_|refine z21 ?_ (hc:=by apply wa)|refine z21 ?_ (hc:=by apply wn)|(refine z23 ?_ ?_ <;> intro hg)|fail)
      all_goals try (exfalso;omega)
      refine ds_loop (ι:=Nat) (fun j=>⟨1,[(1,.loc 0 0),(2,.d (.int .i64 0)),(3,.d (.int .i64 i)),(4,.d (.int .i64 j))],[(0,prgB p)]⟩)
       (fun j=>j≤i∧(p.names.take i).any (fun s=>decide (s=p.names[i]))=((p.names.take i).drop j).any (fun s=>decide (s=p.names[i]))) (fun j=>i - j) 0 ⟨Nat.zero_le _,rfl⟩ (ent_ren id ⟨rfl,rfl,rfl,rfl,trivial⟩ ⟨rfl,trivial⟩ rfl rfl rfl rfl rfl rfl) ?_
      rintro j ⟨e1,e2⟩
      by_cases hj:j < i
      ·rw [List.drop_eq_getElem_cons (by omega),List.any_cons,List.getElem_take] at e2
       repeat' (first|refine z0 ?_|apply ds_nil|refine z5 ?_|refine z10 ?_|apply dw_seq2|refine z16 ?_|refine z20 ?_|apply dw_block|apply dw_skip|apply dw_exit|apply dw_ret|apply thenD_n|apply thenD_e|apply thenD_r|apply inB_n|apply inB_r|refine z17 ?_|(refine z23 ?_ ?_ <;> intro hg)|fail)
       all_goals try (exfalso;omega)
       ·have hh:p.names[j]'(by omega)=p.names[i]:=by assumption
        rw [decide_eq_true hh,Bool.true_or] at e2
        rw [e2] at g2
        exact ret_i rfl (hret 6 (by decide) g2)
       ·have hh:¬ p.names[j]'(by omega)=p.names[i]:=by assumption
        rw [decide_eq_false hh,Bool.false_or] at e2
        exact⟨j + 1,⟨by omega,e2⟩,ent_ren id ⟨rfl,rfl,rfl,rfl,trivial⟩ ⟨rfl,trivial⟩ rfl rfl rfl rfl rfl rfl,by show i - (j + 1) < i - j;omega⟩
      ·rw [List.drop_of_length_le (by omega)] at e2
       rw [e2] at g2
       repeat' (first|refine z0 ?_|apply ds_nil|refine z5 ?_|refine z10 ?_|apply dw_seq2|refine z16 ?_|refine z20 ?_|apply dw_block|apply dw_skip|apply dw_exit|apply dw_ret|apply thenD_n|apply thenD_e|apply thenD_r|apply inB_n|apply inB_r|refine z17 ?_|(refine z23 ?_ ?_ <;> intro hg)|fail)
       all_goals try (exfalso;omega)
       exact⟨i + 1,⟨by omega,g2⟩,ent_ren id ⟨rfl,rfl,rfl,trivial⟩ ⟨rfl,trivial⟩ rfl rfl rfl rfl rfl rfl,by show p.names.length - (i + 1) < p.names.length - i;omega⟩
   ·rw [firstI_end (by omega)] at g2
    have hres:firstL (ruleE p.arity) p.rules=res:=by rw [← hres,g2,if_neg (by decide)]
    repeat' (first|refine z0 ?_|apply ds_nil|apply dw_seq2|refine z16 ?_|apply dw_block|apply dw_skip|apply dw_exit|apply thenD_n|apply thenD_e|refine z17 ?_|(refine z23 ?_ ?_ <;> intro hg)|fail)
    all_goals try (exfalso;omega)
    refine ds_loop (ι:=Nat) (fun j=>⟨1,[(1,.loc 0 0),(2,.d (.int .i64 0)),(5,.d (.int .i64 j))],[(0,prgB p)]⟩)
     (fun j=>j≤p.rules.length∧res=firstL (ruleE p.arity) (p.rules.drop j)) (fun j=>p.rules.length - j) 0 ⟨Nat.zero_le _,hres.symm⟩ (ent_ren id ⟨rfl,rfl,rfl,trivial⟩ ⟨rfl,trivial⟩ rfl rfl rfl rfl rfl rfl) ?_
    rintro j ⟨e1,e2⟩
    by_cases hj:j < p.rules.length
    ·rw [firstL_step hj] at e2
     have w6:=rrule_fn p p.rules[j]
     generalize ruleE p.arity p.rules[j]=le at w6 e2
     repeat' (first|refine z0 ?_|apply ds_nil|refine z5 ?_|refine z10 ?_|apply dw_seq2|refine z16 ?_|refine z20 ?_|apply dw_block|apply dw_skip|apply dw_exit|apply dw_ret|apply thenD_n|apply thenD_e|apply thenD_r|apply inB_n|apply inB_r|refine z17 ?_|refine z22 ?_ (hc:=by apply w6)|(refine z23 ?_ ?_ <;> intro hg)|fail)
     all_goals first
      | (exfalso;omega)
      | (refine ret_i rfl ?_;rw [e2,if_pos (by assumption)];done)
      | exact⟨j + 1,⟨by omega,by rw [e2,if_neg (by assumption)]⟩,ent_ren id ⟨rfl,rfl,rfl,trivial⟩ ⟨rfl,trivial⟩ rfl rfl rfl rfl rfl rfl,by show p.rules.length - (j + 1) < p.rules.length - j;omega⟩
    ·rw [firstL_end (by omega)] at e2
     repeat' (first|refine z0 ?_|apply ds_nil|refine z5 ?_|apply dw_seq2|refine z16 ?_|refine z20 ?_|apply dw_block|apply dw_skip|apply dw_exit|apply dw_ret|apply thenD_n|apply thenD_e|refine z17 ?_|(refine z23 ?_ ?_ <;> intro hg)|fail)
     all_goals first
      | (exfalso;omega)
      | exact ret_i rfl e2.symm
end Go.Proofs.YtapciiffpnociacGreat

/- Plain laws on tokens: what is scanned is a token by itself; what is joined is scanned as it was. Condition: none. -/
namespace Go.Proofs.YtapciiffpnociacGreat
open Go Go.RowKit
theorem tokAt_37 (l:List UInt8):(tokAt (37::l)).1=0:=by
 rw [tokAt_cons,if_neg (by unfold letterB smallB greatB;decide),if_neg (by unfold digitB;decide),if_neg (by unfold pairB;cases l <;> simp),if_neg (by decide)]
theorem tokAt_32 (l:List UInt8):(tokAt (32::l)).1=0:=by
 rw [tokAt_cons,if_neg (by unfold letterB smallB greatB;decide),if_neg (by unfold digitB;decide),if_neg (by unfold pairB;cases l <;> simp),if_neg (by decide)]
theorem tokAt_9 (l:List UInt8):(tokAt (9::l)).1=0:=by
 rw [tokAt_cons,if_neg (by unfold letterB smallB greatB;decide),if_neg (by unfold digitB;decide),if_neg (by unfold pairB;cases l <;> simp),if_neg (by decide)]
theorem tokAt_10 (l:List UInt8):(tokAt (10::l)).1=0:=by
 rw [tokAt_cons,if_neg (by unfold letterB smallB greatB;decide),if_neg (by unfold digitB;decide),if_neg (by unfold pairB;cases l <;> simp),if_neg (by decide)]
theorem tokErr_kind {k:Int} {n:Nat} {c:UInt8} (h:tokErr k n c=0):k≠0:=by
 intro hk
 rw [tokErr_eq,if_pos hk] at h
 cases h
theorem drop_byte (s:ByteArray) (i:Nat) (h:i < s.size):s.data.toList.drop i=s[i]::s.data.toList.drop (i + 1):=by
 rw [List.drop_eq_getElem_cons (by simpa using h)];rfl
theorem ext_list (s:ByteArray) (i n:Nat):(s.extract i (i + n)).data.toList=(s.data.toList.drop i).take n:=by
 simp [ByteArray.data_extract,Array.toList_extract,List.extract_eq_take_drop]
theorem bytes_inj {a b:ByteArray} (h:a.data.toList=b.data.toList):a=b:=ByteArray.ext (Array.ext' h)
theorem scan_one (s:ByteArray) (i:Nat) (k:Int) (n:Nat) (h:i < s.size) (ht:tokAt (s.data.toList.drop i)=(k,n)) (he:tokErr k n s[i]=0) :
  scanAt s false i=(scanAt s false (i + n)).map (Tok.mk k i (s.extract i (i + n))::·):=by
 have hk:=tokErr_kind he
 have hd:=drop_byte s i h
 have hb:∀ c:UInt8,(∀ l,(tokAt (c::l)).1=0)→s[i]≠c:=by
  intro c hc e
  rw [hd,e] at ht
  have:=hc (s.data.toList.drop (i + 1))
  rw [ht] at this
  exact hk this
 have h37:=hb 37 tokAt_37
 have h32:=hb 32 tokAt_32
 have h9:=hb 9 tokAt_9
 have h10:=hb 10 tokAt_10
 have:=scanAt_tok s i h (by simpa using h37) (by simp [h32,h9,h10]) (by rw [ht];exact he)
 rw [ht] at this
 exact this
def Chain (s:ByteArray):Nat→List Tok→Prop
 | _,[]=>True
 | i,t::l=>∃ j,i≤j∧t.at_=j∧(∃ h:j < s.size,tokAt (s.data.toList.drop j)=(t.kind,t.text.size)∧tokErr t.kind t.text.size s[j]=0)∧j + t.text.size≤s.size∧t.text=s.extract j (j + t.text.size)∧Chain s (j + t.text.size) l
theorem Chain.mono {s:ByteArray} {i i':Nat} {l:List Tok} (h:Chain s i' l) (hi:i≤i'):Chain s i l:=by
 cases l with
 | nil=>trivial
 | cons t l =>
  obtain⟨j,h1,h2⟩:=h
  exact⟨j,Nat.le_trans hi h1,h2⟩
theorem scanGo_chain (s:ByteArray):∀ (f:Nat) (note:Bool) (i:Nat) (l:List Tok),scanGo s f note i = .ok l→Chain s i l:=by
 intro f
 induction f with
 | zero =>
  intro note i l h
  simp only [scanGo] at h
  cases h
  trivial
 | succ f ih =>
  intro note i l h
  simp only [scanGo] at h
  by_cases hi:i < s.size
  ·rw [dif_pos hi] at h
   split at h
   ·exact (ih _ _ _ h).mono (by omega)
   ·split at h
    ·exact (ih _ _ _ h).mono (by omega)
    ·split at h
     ·rename_i he
      cases hr:scanGo s f false (i + (tokAt (s.data.toList.drop i)).2) with
      | error e=>rw [hr] at h;cases h
      | ok l' =>
       rw [hr] at h
       cases h
       have hle:=tokAt_le (s.data.toList.drop i)
       rw [List.length_drop,show s.data.toList.length=s.size from Array.length_toList] at hle
       have hsz:(s.extract i (i + (tokAt (s.data.toList.drop i)).2)).size=(tokAt (s.data.toList.drop i)).2:=by rw [ByteArray.size_extract];omega
       exact⟨i,Nat.le_refl _,rfl,⟨hi,by rw [hsz],by rw [hsz];exact he⟩,by rw [hsz];omega,by rw [hsz],by rw [hsz];exact ih _ _ _ hr⟩
     ·cases h
  ·rw [dif_neg hi] at h
   cases h
   trivial
theorem scanGo_err (s:ByteArray):∀ (f:Nat) (note:Bool) (i:Nat) (p e:Int),scanGo s f note i = .error (p,e)→e≠0:=by
 intro f
 induction f with
 | zero =>
  intro note i p e h
  simp only [scanGo] at h
  cases h
 | succ f ih =>
  intro note i p e h
  simp only [scanGo] at h
  by_cases hi:i < s.size
  ·rw [dif_pos hi] at h
   split at h
   ·exact ih _ _ _ _ h
   ·split at h
    ·exact ih _ _ _ _ h
    ·split at h
     ·cases hr:scanGo s f false (i + (tokAt (s.data.toList.drop i)).2) with
      | error e'=>rw [hr] at h;cases h;exact ih _ _ _ _ hr
      | ok l'=>rw [hr] at h;cases h
     ·rename_i he
      injection h with h
      injection h with h1 h2
      rw [← h2];exact he
  ·rw [dif_neg hi] at h
   cases h
theorem scanS_chain (s:ByteArray) (l:List Tok) (p:Int) (h:scanS s=(l,p,0)):Chain s 0 l∧s.size≤5000∧p=0:=by
 unfold scanS at h
 split at h
 ·injection h with h1 h2;injection h2 with h2 h3;cases h3
 ·rename_i hs
  split at h
  ·rename_i l' hl
   injection h with h1 h2
   injection h2 with h2 h3
   subst h1
   unfold scanAt at hl
   exact⟨scanGo_chain _ _ _ _ _ hl,by omega,h2.symm⟩
  ·rename_i p' e hl
   injection h with h1 h2
   injection h2 with h2 h3
   subst h1
   unfold scanAt at hl
   exact absurd h3 (scanGo_err _ _ _ _ _ _ hl)
theorem isTok_eq (kind:Int) (s:ByteArray):isTok kind s=true↔∃ h:0 < s.size,s.size≤5000∧tokAt s.data.toList=(kind,s.size)∧tokErr kind s.size s[0]=0:=by
 unfold isTok
 by_cases h:0 < s.size
 ·rw [dif_pos h]
  simp only [Bool.and_eq_true,decide_eq_true_eq]
  constructor
  ·rintro⟨⟨⟨⟨h1,h2⟩,h3⟩,h4⟩,h5⟩
   exact⟨h,h1,Prod.ext h3 h4,h5⟩
  ·rintro⟨_,h1,h2,h3⟩
   exact⟨⟨⟨⟨h1,tokErr_kind h3⟩,by rw [h2]⟩,by rw [h2]⟩,h3⟩
 ·rw [dif_neg h]
  exact⟨fun h'=>absurd h' Bool.false_ne_true,fun⟨h',_⟩=>absurd h' h⟩
theorem oneS_eq (kind:Int) (s:ByteArray):oneS kind s=isTok kind s:=by
 rw [Bool.eq_iff_iff,isTok_eq]
 constructor
 ·intro h
  unfold oneS at h
  split at h
  ·rename_i t p e hs
   simp only [Bool.and_eq_true,decide_eq_true_eq] at h
   obtain⟨h1,h2,h3⟩:=h
   subst h1
   obtain⟨⟨j,g1,g2,⟨g3,g4,g5⟩,g6,g7,_⟩,hsz,_⟩:=scanS_chain s [t] p hs
   rw [h3] at g4 g5 g6
   have hj:j=0:=by omega
   subst hj
   rw [h2] at g4 g5
   exact⟨g3,hsz,g4,g5⟩
  ·cases h
 ·rintro⟨h,h1,h2,h3⟩
  have:=scan_one s 0 kind s.size h h2 h3
  rw [scanAt_end s false (0 + s.size) (by omega)] at this
  have hext:s.extract 0 (0 + s.size)=s:=bytes_inj (by rw [ext_list,List.drop_zero];exact List.take_of_length_le (Nat.le_of_eq (Array.length_toList (xs:=s.data))))
  rw [hext] at this
  unfold oneS
  rw [scanS_ok s (by omega) _ this]
  simp
end Go.Proofs.YtapciiffpnociacGreat

/- Programs: Check and the document's CheckProgram say the same. Condition: none. -/
namespace Go.Proofs.YtapciiffpnociacGreat
open Go Go.RowKit
theorem name_eq:nameS=nameR:=by
 funext s
 unfold nameS nameR
 rw [oneS_eq]
theorem scheck_fn (p:Prg):Fn 85 [elPrg p] (fun x=>x = .d (.int .i64 (progE nameR p))):=name_eq▸check_fn p
end Go.Proofs.YtapciiffpnociacGreat


/- What is wrong with facts, and ahead of ways: the program's and the document's. Condition: none. -/
namespace Go.Proofs.YtapciiffpnociacGreat
open Go Go.RowKit
def factsE (arity:List Int) (l:List Fct):Int:=if 60 < l.length then 2 else firstL (factE arity) l
attribute [local irreducible] DW DS DL DQ Ev FnOk FnP thenD inBlockD DT
set_option maxHeartbeats 8000000 in
theorem right1_fn (n:Int):Fn 114 [.d (.int .i64 n)] (fun r=>r = .d (.bool (!numB n))):=by
 refine fnp_enter' _ Tryz.func114 rfl rfl (by kernel_rfl) ?_
 intro O w0 E0 β0
 repeat' (first|refine z0 ?_|apply ds_nil|apply dw_seq2|refine z16 ?_|apply dw_ret|apply thenD_n|refine z21 ?_ (hc:=by apply snumber_fn)|fail)
 exact⟨.inl rfl,_,rfl,rfl,rfl⟩
set_option maxHeartbeats 8000000 in
theorem fright_fn (p:Prg) (x:Fct):Fn 75 [elPrg p,elFct x] (fun r=>r = .d (.int .i64 (factE p.arity x))):=by
 refine fnp_enter' _ Tryz.func75 rfl rfl (by kernel_rfl) ?_
 intro O w0 E0 β0
 have la:(p.arity.map encI).length=p.arity.length:=List.length_map _
 have lx:(x.args.map encI).length=x.args.length:=List.length_map _
 refine dw_lenA 0 0 rfl rfl fun hk=>?_
 have w1:=containsFuncInt_fn (caps:=[]) (f:=114) (fun n=>!numB n) x.args rfl (fun n _=>right1_fn n)
 have w0:Fn 112 [.d (.int .i64 x.pred),.d (.int .i64 0),.d (.int .i64 (((p.arity.map encI).length:Int) - 1))] (fun r=>r = .d (.bool (inR x.pred 0 ((p.arity.length:Int) - 1)))):=by rw [la];exact swithin_fn _ _ _
 unfold factE
 cases h1:inR x.pred 0 ((p.arity.length:Int) - 1) with
 | false =>
  rw [h1] at w0
  rw [if_pos rfl]
  repeat' (first|refine z0 ?_|apply ds_nil|apply dw_seq2|refine z16 ?_|apply dw_block|apply dw_ret|refine z18 ?_|apply thenD_n|apply thenD_r|apply inB_r|refine z21 ?_ (hc:=by apply w0)|refine z1 ?_|fail)
  all_goals try (exfalso;omega)
  exact⟨.inl rfl,_,rfl,rfl,rfl⟩
 | true =>
  rw [h1] at w0
  rw [if_neg (by simp)]
  have hr:0≤x.pred∧x.pred < p.arity.length:=by unfold inR at h1;simp at h1;omega
  have hlt:x.pred.toNat < p.arity.length:=by omega
  have hg':p.arity.getD x.pred.toNat 0=p.arity[x.pred.toNat]:=by rw [List.getD,List.getElem?_eq_getElem hlt];rfl
  rw [hg']
  by_cases h2:(x.args.length:Int)≠p.arity[x.pred.toNat]
  ·rw [if_pos h2]
   repeat' (first|refine z0 ?_|apply ds_nil|refine z5 ?_|refine z10 ?_|apply dw_seq2|refine z16 ?_|refine z20 ?_|apply dw_block|apply dw_ret|refine z19 ?_|apply thenD_n|apply thenD_r|apply inB_r|refine z21 ?_ (hc:=by apply w0)|refine z1 ?_|(refine z23 ?_ ?_ <;> intro hg)|fail)
   all_goals try (exfalso;omega)
   exact⟨.inl rfl,_,rfl,rfl,rfl⟩
  ·rw [if_neg h2]
   cases h3:x.args.any (fun n=>!numB n) with
   | true =>
    rw [h3] at w1
    repeat' (first|refine z0 ?_|apply ds_nil|refine z5 ?_|refine z10 ?_|apply dw_seq2|refine z16 ?_|refine z20 ?_|apply dw_block|apply dw_ret|refine z18 ?_|refine z19 ?_|apply thenD_n|apply thenD_r|apply inB_r|refine z21 ?_ (hc:=by apply w0)|refine z21 ?_ (hc:=by apply w1)|refine z1 ?_|(refine z23 ?_ ?_ <;> intro hg)|fail)
    all_goals try (exfalso;omega)
    exact⟨.inl rfl,_,rfl,rfl,rfl⟩
   | false =>
    rw [h3] at w1
    repeat' (first|refine z0 ?_|apply ds_nil|refine z5 ?_|refine z10 ?_|apply dw_seq2|refine z16 ?_|refine z20 ?_|apply dw_block|apply dw_skip|apply dw_ret|refine z19 ?_|apply thenD_n|apply thenD_r|apply inB_n|apply inB_r|refine z21 ?_ (hc:=by apply w0)|refine z21 ?_ (hc:=by apply w1)|refine z1 ?_|(refine z23 ?_ ?_ <;> intro hg)|fail)
    all_goals try (exfalso;omega)
    exact⟨.inl rfl,_,rfl,rfl,rfl⟩
set_option maxHeartbeats 8000000 in
theorem checkFact_fn (p:Prg) (x:Fct):Fn 41 [elPrg p,elFct x] (fun r=>r = .d (.int .i64 (factE p.arity x))):=by
 refine fnp_enter' _ Tryz.func41 rfl rfl (by kernel_rfl) ?_
 intro O w0 E0 β0
 have la:(p.arity.map encI).length=p.arity.length:=List.length_map _
 have lx:(x.args.map encI).length=x.args.length:=List.length_map _
 refine dw_lenA 0 0 rfl rfl fun hk=>?_
 refine dw_lenA 1 1 rfl rfl fun hk1=>?_
 have w0:Fn 53 [.d (.int .i64 x.pred),.d (.int .i64 0),.d (.int .i64 (((p.arity.map encI).length:Int) - 1))] (fun r=>r = .d (.bool (inR x.pred 0 ((p.arity.length:Int) - 1)))):=by rw [la];exact rbetween_fn _ _ _
 unfold factE
 cases h1:inR x.pred 0 ((p.arity.length:Int) - 1) with
 | false =>
  rw [h1] at w0
  rw [if_pos rfl]
  repeat' (first|refine z0 ?_|apply ds_nil|apply dw_seq2|refine z16 ?_|apply dw_ret|refine z18 ?_|apply thenD_n|apply thenD_r|refine z21 ?_ (hc:=by apply w0)|refine z1 ?_|fail)
  all_goals try (exfalso;omega)
  exact⟨.inl rfl,_,rfl,rfl,rfl⟩
 | true =>
  rw [h1] at w0
  rw [if_neg (by simp)]
  have hr:0≤x.pred∧x.pred < p.arity.length:=by unfold inR at h1;simp at h1;omega
  have hlt:x.pred.toNat < p.arity.length:=by omega
  have hg':p.arity.getD x.pred.toNat 0=p.arity[x.pred.toNat]:=by rw [List.getD,List.getElem?_eq_getElem hlt];rfl
  rw [hg']
  by_cases h2:(x.args.length:Int)≠p.arity[x.pred.toNat]
  ·rw [if_pos h2]
   repeat' (first|refine z0 ?_|apply ds_nil|refine z5 ?_|refine z10 ?_|apply dw_seq2|refine z16 ?_|refine z20 ?_|apply dw_block|apply dw_skip|apply dw_ret|refine z19 ?_|apply thenD_n|apply thenD_r|refine z21 ?_ (hc:=by apply w0)|refine z1 ?_|(refine z23 ?_ ?_ <;> intro hg)|fail)
   all_goals try (exfalso;omega)
   exact⟨.inl rfl,_,rfl,rfl,rfl⟩
  ·rw [if_neg h2]
   repeat' (first|refine z0 ?_|apply ds_nil|refine z5 ?_|refine z10 ?_|apply dw_seq2|refine z16 ?_|refine z20 ?_|apply dw_block|apply dw_skip|apply dw_ret|refine z19 ?_|apply thenD_n|apply thenD_r|refine z21 ?_ (hc:=by apply w0)|refine z1 ?_|(refine z23 ?_ ?_ <;> intro hg)|fail)
   all_goals try (exfalso;omega)
   refine ds_loop (ι:=Nat) (fun i=>⟨2,[(3,.loc 1 0),(5,.d (.int .i64 i))],[(1,.blk 48 [.d (.int .i64 x.pred),.d (.slice 1 (x.args.map encI))])]⟩)
    (fun i=>i≤x.args.length∧∀ j (_:j < x.args.length),j < i→numB x.args[j]=true) (fun i=>x.args.length - i) 0 ⟨Nat.zero_le _,fun _ _ h=>by omega⟩ (ent_ren id ⟨rfl,rfl,trivial⟩ ⟨rfl,trivial⟩ rfl rfl rfl rfl rfl rfl) ?_
   rintro i ⟨g1,g2⟩
   dsimp only at g1 g2 ⊢
   by_cases hi:i < x.args.length
   ·have w2:=sisNumber_fn x.args[i]
    cases hb:numB x.args[i] with
    | false =>
     rw [hb] at w2
     rw [if_pos (List.any_eq_true.2 ⟨_,List.getElem_mem hi,by rw [hb];rfl⟩)]
     repeat' (first|refine z0 ?_|apply ds_nil|apply dw_seq2|refine z16 ?_|apply dw_block|apply dw_skip|apply dw_exit|apply dw_ret|refine z18 ?_|apply thenD_n|apply thenD_e|apply thenD_r|apply inB_r|refine z17 ?_|refine z21 ?_ (hc:=by apply w2)|(refine z23 ?_ ?_ <;> intro hg)|fail)
     all_goals try (exfalso;omega)
     all_goals exact⟨.inl rfl,_,rfl,rfl,rfl⟩
    | true =>
     rw [hb] at w2
     repeat' (first|refine z0 ?_|apply ds_nil|apply dw_seq2|refine z16 ?_|apply dw_block|apply dw_skip|apply dw_exit|apply dw_ret|refine z19 ?_|apply thenD_n|apply thenD_e|apply inB_n|refine z17 ?_|refine z21 ?_ (hc:=by apply w2)|(refine z23 ?_ ?_ <;> intro hg)|fail)
     all_goals try (exfalso;omega)
     exact⟨i + 1,⟨hi,fun j hj hji=>by
      by_cases hq:j=i
      ·subst hq;exact hb
      ·exact g2 j hj (by omega)⟩,ent_ren id ⟨rfl,rfl,trivial⟩ ⟨rfl,trivial⟩ rfl rfl rfl rfl rfl rfl,by omega⟩
   ·have hno:¬ x.args.any (fun n=>!numB n)=true:=by
     rw [List.any_eq_true]
     rintro⟨n,hn,hb⟩
     obtain⟨j,hj,rfl⟩:=List.mem_iff_getElem.1 hn
     rw [g2 j hj (by omega)] at hb;cases hb
    rw [if_neg hno]
    repeat' (first|refine z0 ?_|apply ds_nil|apply dw_seq2|refine z16 ?_|apply dw_block|apply dw_skip|apply dw_exit|apply dw_ret|apply thenD_n|apply thenD_e|refine z17 ?_|(refine z23 ?_ ?_ <;> intro hg)|fail)
    all_goals try (exfalso;omega)
    all_goals exact⟨.inl rfl,_,rfl,rfl,rfl⟩
set_option maxHeartbeats 8000000 in
theorem checkFacts_fn (p:Prg) (l:List Fct):Fn 25 [elPrg p,.d (.slice 2 (l.map encFct))] (fun r=>r = .d (.int .i64 (factsE p.arity l))):=by
 refine fnp_enter' _ Tryz.func25 rfl rfl (by kernel_rfl) ?_
 intro O w0 E0 β0
 have ll:(l.map encFct).length=l.length:=List.length_map _
 unfold factsE
 by_cases h2:60 < l.length
 ·rw [if_pos h2]
  repeat' (first|refine z0 ?_|apply ds_nil|apply dw_seq2|refine z16 ?_|apply dw_block|apply dw_skip|apply dw_ret|apply thenD_n|apply thenD_r|refine z1 ?_|(refine z23 ?_ ?_ <;> intro hg)|fail)
  all_goals try (exfalso;omega)
  all_goals exact⟨.inl rfl,_,rfl,rfl,rfl⟩
 ·rw [if_neg h2]
  repeat' (first|refine z0 ?_|apply ds_nil|apply dw_seq2|refine z16 ?_|apply dw_block|apply dw_skip|apply dw_ret|apply thenD_n|apply thenD_r|refine z1 ?_|(refine z23 ?_ ?_ <;> intro hg)|fail)
  all_goals try (exfalso;omega)
  refine ds_loop (ι:=Nat) (fun i=>⟨1,[(1,.d (.slice 2 (l.map encFct))),(2,.loc 0 0),(5,.d (.int .i64 i))],[(0,.blk 26 [.d (.slice 1 (p.arity.map encI)),.d (.slice 1 (p.names.map encT)),.d (.slice 5 (p.rules.map encRul))])]⟩)
   (fun i=>i≤l.length∧firstL (factE p.arity) l=firstL (factE p.arity) (l.drop i)) (fun i=>l.length - i) 0 ⟨Nat.zero_le _,rfl⟩ (ent_ren id ⟨rfl,rfl,rfl,trivial⟩ ⟨rfl,trivial⟩ rfl rfl rfl rfl rfl rfl) ?_
  rintro i ⟨g1,g2⟩
  dsimp only at g1 g2 ⊢
  by_cases hi:i < l.length
  ·rw [firstL_step hi] at g2
   have w2:=checkFact_fn p l[i]
   by_cases h3:factE p.arity l[i]≠0
   ·rw [if_pos h3] at g2
    rw [g2]
    repeat' (first|refine z0 ?_|apply ds_nil|refine z5 ?_|refine z10 ?_|apply dw_seq2|refine z16 ?_|refine z20 ?_|apply dw_block|apply dw_skip|apply dw_exit|apply dw_ret|apply thenD_n|apply thenD_e|apply thenD_r|apply inB_n|apply inB_r|refine z17 ?_|refine z22 ?_ (hc:=by apply w2)|(refine z23 ?_ ?_ <;> intro hg)|fail)
    all_goals try (exfalso;omega)
    all_goals exact⟨.inl rfl,_,rfl,rfl,rfl⟩
   ·rw [if_neg h3] at g2
    repeat' (first|refine z0 ?_|apply ds_nil|refine z5 ?_|refine z10 ?_|apply dw_seq2|refine z16 ?_|refine z20 ?_|apply dw_block|apply dw_skip|apply dw_exit|apply dw_ret|apply thenD_n|apply thenD_e|apply thenD_r|apply inB_n|apply inB_r|refine z17 ?_|refine z22 ?_ (hc:=by apply w2)|(refine z23 ?_ ?_ <;> intro hg)|fail)
    all_goals try (exfalso;omega)
    exact⟨i + 1,⟨hi,g2⟩,ent_ren id ⟨rfl,rfl,rfl,trivial⟩ ⟨rfl,trivial⟩ rfl rfl rfl rfl rfl rfl,by omega⟩
  ·rw [firstL_end (by omega)] at g2
   rw [g2]
   repeat' (first|refine z0 ?_|apply ds_nil|refine z5 ?_|apply dw_seq2|refine z16 ?_|refine z20 ?_|apply dw_block|apply dw_skip|apply dw_exit|apply dw_ret|apply thenD_n|apply thenD_e|refine z17 ?_|(refine z23 ?_ ?_ <;> intro hg)|fail)
   all_goals try (exfalso;omega)
   all_goals exact⟨.inl rfl,_,rfl,rfl,rfl⟩
end Go.Proofs.YtapciiffpnociacGreat

/- relation.keep. Condition: none. -/
namespace Go.Proofs.YtapciiffpnociacGreat
open Go Go.RowKit
attribute [local irreducible] DW DS DL DQ Ev FnOk FnP thenD inBlockD DT
set_option maxHeartbeats 8000000 in
theorem keep_fn (l:List Fct) (g:FuncId) (caps:List SV) (pr:Fct→Bool) (hlow:SV.lowL 0 caps=true) (hl:l.length≤4398046511104) (hargs:∀ x∈l,x.args.length≤17592186044416) (hg:∀ x∈l,Fn g ([elFct x]++caps) (fun r=>r = .d (.bool (pr x)))) :
  Fn 91 [.d (.slice 2 (l.map encFct)),.fn g caps] (fun r=>∃ s:List Fct,s.Perm (l.filter pr)∧s.Pairwise (fun a b=>ordF b a ≥ 0)∧r = .d (.slice 2 ((cmpF s).map encFct))):=by
 refine fnp_enter' _ Tryz.func91 rfl rfl (by kernel_rfl) ?_
 intro O w0 E0 β0
 have ll:(l.map encFct).length=l.length:=List.length_map _
 have hlows:∀ k,SV.lowL k caps=true:=fun k=>SV.lowL_mono k caps hlow
 repeat' ((fail_if_success (apply dw_stop 0));(first|refine z0 ?_|apply ds_nil|apply dw_seq2|refine z16 ?_|apply dw_block|apply thenD_n))
 refine dw_ent (ent_nilrow (t:=5) 48 2 rfl) ?_
 repeat' fail
 refine ds_loop (ι:=Nat × List Fct) (fun x=>⟨1,[(1,.fn g caps),(5,.row 0),(8,.d (.slice 2 (l.map encFct))),(9,.d (.int .i64 l.length)),(10,.d (.int .i64 x.1))],[(0,.row 48 2 (x.2.map encFct))]⟩)
  (fun x=>x.1≤l.length∧x.2=(l.take x.1).filter pr) (fun x=>l.length - x.1) (0,[]) ⟨Nat.zero_le _,rfl⟩ (ent_ren id ⟨(SV.ren_id _).symm,rfl,rfl,by rw [← ll];rfl,rfl,trivial⟩ ⟨rfl,trivial⟩ (by simp [Sl.low,SV.low,hlows]) rfl rfl rfl rfl rfl) ?_
 rintro⟨i,o⟩ ⟨g1,g2⟩
 dsimp only at g1 g2 ⊢
 have lo:(o.map encFct).length=o.length:=List.length_map _
 have hol:o.length≤i:=by rw [g2];have:=List.length_filter_le pr (l.take i);rw [List.length_take] at this;omega
 by_cases hi:i < l.length
 ·have hm:=List.getElem_mem hi
  have hx:=hg _ hm
  have hw:=own_fn l[i] (hargs _ hm)
  have hll:SV.lowL 0 ([elFct l[i]]++caps)=true:=by simp [SV.lowL,SV.low,hlow]
  have hstep:(l.take (i + 1)).filter pr=o++(if pr l[i] then [l[i]] else []):=by
   rw [List.take_succ_eq_append_getElem hi,List.filter_append,← g2]
   congr 1
   simp [List.filter_cons]
  cases hb:pr l[i] with
  | true =>
   rw [hb] at hx
   rw [hb,if_pos rfl] at hstep
   repeat' (first|refine z0 ?_|apply ds_nil|apply dw_seq2|refine z16 ?_|apply dw_block|apply dw_skip|apply dw_exit|refine z18 ?_|apply thenD_n|apply thenD_e|apply inB_n|refine z17 ?_|(apply ds_callV;exact rfl;exact rfl;exact rfl;exact rfl;apply hx;exact rfl;(assumption);exact rfl;rintro _ rfl)|refine z21 ?_ (hc:=by apply hw)|refine z1 ?_|refine z3 ?_|refine z4 ?_|refine z2 ?_|(refine z23 ?_ ?_ <;> intro hg)|fail)
   all_goals try (exfalso;omega)
   exact⟨(i + 1,o++[l[i]]),⟨by dsimp only;omega,hstep.symm⟩,ent_ren (fun j=>match j with|0=>2|j=>j) ⟨(SV.ren_low0 _ (.fn g caps) hlow).symm,rfl,rfl,rfl,rfl,trivial⟩ ⟨by rw [List.map_append];rfl,trivial⟩ (by simp [Sl.low,SV.low,hlows]) rfl rfl rfl rfl rfl,by show l.length - (i + 1) < l.length - i;omega⟩
  | false =>
   rw [hb] at hx
   rw [hb,if_neg (by simp),List.append_nil] at hstep
   repeat' (first|refine z0 ?_|apply ds_nil|apply dw_seq2|refine z16 ?_|apply dw_block|apply dw_skip|apply dw_exit|refine z19 ?_|apply thenD_n|apply thenD_e|apply inB_n|refine z17 ?_|(apply ds_callV;exact rfl;exact rfl;exact rfl;exact rfl;apply hx;exact rfl;(assumption);exact rfl;rintro _ rfl)|refine z1 ?_|refine z3 ?_|(refine z23 ?_ ?_ <;> intro hg)|fail)
   all_goals try (exfalso;omega)
   exact⟨(i + 1,o),⟨by dsimp only;omega,hstep.symm⟩,ent_ren id ⟨(SV.ren_low0 _ (.fn g caps) hlow).symm,rfl,rfl,rfl,rfl,trivial⟩ ⟨rfl,trivial⟩ (by simp [Sl.low,SV.low,hlows]) rfl rfl rfl rfl rfl,by show l.length - (i + 1) < l.length - i;omega⟩
 ·rw [List.take_of_length_le (by omega)] at g2
  repeat' (first|refine z0 ?_|apply ds_nil|apply dw_seq2|refine z16 ?_|apply dw_block|apply dw_skip|apply dw_exit|apply thenD_n|apply thenD_e|refine z17 ?_|refine z1 ?_|refine z3 ?_|(refine z23 ?_ ?_ <;> intro hg)|fail)
  all_goals try (exfalso;omega)
  refine ds_sort sortFacts_c o (by kernel_rfl) rfl rfl rfl rfl rfl rfl (by omega) ?_
  intro s hp hs
  have hsl:s.length≤4398046511104:=by rw [hp.length_eq];omega
  refine ds_ent (ent_ren (k':=1) (L':=[(5,.row 0)]) (H':=[(0,.row 48 2 (s.map encFct))]) id ⟨rfl,trivial⟩ ⟨rfl,trivial⟩ rfl rfl rfl rfl rfl rfl) ?_
  repeat' (first|refine z0 ?_|apply ds_nil|apply dw_seq2|refine z16 ?_|apply thenD_n)
  all_goals try (exfalso;omega)
  (refine ds_callF id (compact_fn s hsl) rfl rfl rfl rfl ⟨rfl,trivial⟩ rfl rfl rfl rfl rfl rfl ?_ ?_)
  ·rintro k2 r H2 ⟨rfl,rfl⟩;exact⟨rfl,rfl⟩
  rintro k2 r H2 ⟨rfl,rfl⟩
  change DS _ _ _ _ _ _ _ _
  repeat' (first|refine z0 ?_|apply ds_nil|apply dw_ret|apply thenD_n)
  exact⟨.inl rfl,_,rfl,rfl,s,g2▸hp,hs,rfl⟩
end Go.Proofs.YtapciiffpnociacGreat
