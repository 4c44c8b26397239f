/- Several texts in one: TreH TreI TreK ShI ShwA GxWin GxLit GxStr ShwB ShwJ ShwC. Condition: none. -/
import Derived.Test.YtapciiffpnociabGreatDoorR11
import Derived.Test.YtapciiffpnociabGreatDoorR10
import Derived.Shelf.LaysM
import Derived.Shelf.Strconv.Itoa3
import Derived.Ground.NamesProg
import Derived.Test.YtapciiffpnociabGreatDoorProg
import Derived.Test.YtapciiffpnociabGreatDoorR09
import Derived.Lib.ItoaLen
import Derived.Lib.AppendIntMem
namespace Go.Proofs.YtapciiffpnociabGreatDoor
open Go Go.RowKit
abbrev tlV (x:TLt):SV:=.agg [.d (.int .i64 x.kind),.d (.int .i64 x.at_),.d (.int .i64 x.op),.d (.str x.name),.d (.slice 2 (x.terms.map encTTm))]
attribute [local irreducible] DW DS DL DQ Ev FnOk FnP FnOkE thenD inBlockD
set_option maxHeartbeats 8000000 in
theorem plit_fn (l:List Tok) (i:Nat) (e:Int) (hi:i≤l.length) (hl:l.length≤900000) (hok:l.all tokOk=true):FnOkE false Tryz.prog tab tab_ok 92 [.loc 0 0] 1 1 (prH l i e) (fun k r H=>∃ x j,litT l e i = .ok (x,j)∧k=1∧r=tlV x∧H=prH l j e) (fun v=>∃ j,litT l e i = .error j∧v=plV (hereT l e j)):=by
 refine fn_enterRE _ Tryz.func92 rfl rfl (by kernel_rfl) ?_
 intro O w0 E0 β0
 have ll:(l.map encTok).length=l.length:=List.length_map _
 have w0:=here_fn l i e
 repeat' (first|refine z0 ?_|apply ds_nil|apply dw_seq2|refine z16 ?_|apply thenD_n|refine z1 ?_|fail)
 (refine ds_callF id (w0) rfl rfl rfl rfl ⟨rfl,trivial⟩ rfl rfl rfl rfl rfl rfl ?_ ?_)
 ·rintro k2 res H2 ⟨rfl,rfl,rfl⟩;exact⟨rfl,rfl⟩
 rintro k2 res H2 ⟨rfl,rfl,rfl⟩
 change DS _ _ _ _ _ _ _ _
 clear w0
 have w1:=ptake_fn l i e ⟨#[110,111,116]⟩ (by omega)
 repeat' (first|refine z0 ?_|apply ds_nil|apply dw_seq2|refine z16 ?_|apply thenD_n|refine z1 ?_|refine z3 ?_|fail)
 (refine ds_callF id (w1) rfl rfl rfl rfl ⟨rfl,trivial⟩ rfl rfl rfl rfl rfl rfl ?_ ?_)
 ·rintro k2 res H2 ⟨rfl,rfl,rfl⟩;exact⟨rfl,rfl⟩
 rintro k2 res H2 ⟨rfl,rfl,rfl⟩
 change DS _ _ _ _ _ _ _ _
 clear w1
 unfold litT
 cases hn:seesT l i ⟨#[110,111,116]⟩ with
 | true =>
  have:=seesT_lt hn
  have w2:=pname_fn l (i + 1) e (by omega)
  dsimp only
  repeat' (first|refine z0 ?_|apply ds_nil|refine z5 ?_|refine z14 ?_|refine z10 ?_|apply dw_seq2|refine z16 ?_|refine z20 ?_|apply dw_skip|refine z18 ?_|refine z19 ?_|apply thenD_n|refine z3 ?_|fail)
  all_goals try (exfalso;omega)
  (refine ds_callE id (w2) rfl rfl rfl rfl ⟨rfl,trivial⟩ rfl rfl rfl rfl rfl rfl ?_ ?_ ?_)
  ·rintro v ⟨h,rfl⟩;exact⟨_,by rw [h],rfl⟩
  ·rintro k2 res H2 ⟨s,_,rfl,rfl,rfl⟩;exact⟨rfl,rfl⟩
  rintro k2 res H2 ⟨s,h2,rfl,rfl,rfl⟩
  change DS _ _ _ _ _ _ _ _
  clear w2
  rw [h2]
  dsimp only
  obtain⟨_,h2l⟩:=nameT_lt h2
  have w3:=pterms_fn l (i + 1 + 1) e false (by omega) hl hok
  repeat' (first|refine z0 ?_|apply ds_nil|apply dw_seq2|refine z16 ?_|apply thenD_n|refine z3 ?_|fail)
  all_goals try (exfalso;omega)
  (refine ds_callE id (w3) rfl rfl rfl rfl ⟨rfl,trivial⟩ rfl rfl rfl rfl rfl rfl ?_ ?_ ?_)
  ·rintro v ⟨m,h,rfl⟩;exact⟨m,by rw [h],rfl⟩
  ·rintro k2 res H2 ⟨x,f,j,_,_,rfl,rfl,rfl⟩;exact⟨rfl,rfl⟩
  rintro k2 res H2 ⟨x,f,j,h3,h3l,rfl,rfl,rfl⟩
  change DS _ _ _ _ _ _ _ _
  clear w3
  rw [h3]
  dsimp only
  repeat' (first|refine z0 ?_|apply ds_nil|apply dw_seq2|refine z16 ?_|apply dw_ret|apply thenD_n|refine z3 ?_|fail)
  all_goals try (exfalso;omega)
  exact⟨.inl rfl,_,rfl,id,1,_,prH l j e,rfl,⟨rfl,trivial⟩,rfl,rfl,rfl,rfl,rfl,rfl,⟨2,hereT l e i,0,s,x⟩,j,rfl,rfl,rfl,rfl⟩
 | false =>
  dsimp only
  by_cases hil:i < l.length
  ·by_cases hk:l[i].kind=1
   ·have ht:isTestT l i=false:=by unfold isTestT;rw [List.getElem?_eq_getElem hil];exact decide_eq_false (by omega)
    rw [ht]
    have w2:=pname_fn l (i) e (by omega)
    dsimp only
    repeat' (first|refine z0 ?_|apply ds_nil|refine z5 ?_|refine z14 ?_|refine z10 ?_|apply dw_seq2|refine z16 ?_|refine z20 ?_|apply dw_skip|refine z18 ?_|refine z19 ?_|apply thenD_n|(refine z23 ?_ ?_ <;> intro hg)|((fail_if_success (apply dt_known;exact rfl));apply dt_guardP;exact rfl;exact rfl;exact rfl;all_goals intro hg))
    all_goals try (exfalso;omega)
    (refine ds_callE id (w2) rfl rfl rfl rfl ⟨rfl,trivial⟩ rfl rfl rfl rfl rfl rfl ?_ ?_ ?_)
    ·rintro v ⟨h,rfl⟩;exact⟨_,by rw [h],rfl⟩
    ·rintro k2 res H2 ⟨s,_,rfl,rfl,rfl⟩;exact⟨rfl,rfl⟩
    rintro k2 res H2 ⟨s,h2,rfl,rfl,rfl⟩
    change DS _ _ _ _ _ _ _ _
    clear w2
    rw [h2]
    dsimp only
    obtain⟨_,h2l⟩:=nameT_lt h2
    have w3:=pterms_fn l (i + 1) e false (by omega) hl hok
    repeat' (first|refine z0 ?_|apply ds_nil|apply dw_seq2|refine z16 ?_|apply thenD_n|refine z3 ?_|fail)
    all_goals try (exfalso;omega)
    (refine ds_callE id (w3) rfl rfl rfl rfl ⟨rfl,trivial⟩ rfl rfl rfl rfl rfl rfl ?_ ?_ ?_)
    ·rintro v ⟨m,h,rfl⟩;exact⟨m,by rw [h],rfl⟩
    ·rintro k2 res H2 ⟨x,f,j,_,_,rfl,rfl,rfl⟩;exact⟨rfl,rfl⟩
    rintro k2 res H2 ⟨x,f,j,h3,h3l,rfl,rfl,rfl⟩
    change DS _ _ _ _ _ _ _ _
    clear w3
    rw [h3]
    dsimp only
    repeat' (first|refine z0 ?_|apply ds_nil|apply dw_seq2|refine z16 ?_|apply dw_ret|apply thenD_n|refine z3 ?_|fail)
    all_goals try (exfalso;omega)
    exact⟨.inl rfl,_,rfl,id,1,_,prH l j e,rfl,⟨rfl,trivial⟩,rfl,rfl,rfl,rfl,rfl,rfl,⟨1,hereT l e i,0,s,x⟩,j,rfl,rfl,rfl,rfl⟩
   ·have ht:isTestT l i=true:=by unfold isTestT;rw [List.getElem?_eq_getElem hil];exact decide_eq_true (by omega)
    rw [ht]
    have w4:=ptest_fn l i e (hereT l e i) hi hl hok
    dsimp only
    repeat' (first|refine z0 ?_|apply ds_nil|refine z5 ?_|refine z14 ?_|refine z10 ?_|apply dw_seq2|refine z16 ?_|refine z20 ?_|apply dw_skip|refine z18 ?_|refine z19 ?_|apply thenD_n|(refine z23 ?_ ?_ <;> intro hg)|((fail_if_success (apply dt_known;exact rfl));apply dt_guardP;exact rfl;exact rfl;exact rfl;all_goals intro hg))
    all_goals try (exfalso;omega)
    refine ds_callE (fun x=>match x with|0=>0|_=>2) w4 rfl rfl rfl rfl ⟨rfl,rfl,trivial⟩ rfl rfl rfl rfl rfl rfl ?_ ?_ ?_
    ·rintro v ⟨m,h,rfl⟩;exact⟨m,by rw [h],rfl⟩
    ·rintro k2 res H2 ⟨kd,op,ts,j,_,_,rfl,rfl,rfl⟩;exact⟨rfl,rfl⟩
    rintro k2 res H2 ⟨kd,op,ts,j,h4,h4l,rfl,rfl,rfl⟩
    change DS _ _ _ _ _ _ _ _
    clear w4
    rw [h4]
    dsimp only
    repeat' (first|refine z0 ?_|apply ds_nil|apply dw_seq2|refine z16 ?_|apply dw_ret|apply thenD_n|apply thenD_r|refine z3 ?_|fail)
    all_goals try (exfalso;omega)
    exact⟨.inl rfl,_,rfl,id,1,_,prH l j e,rfl,⟨rfl,trivial⟩,rfl,rfl,rfl,rfl,rfl,rfl,⟨kd,hereT l e i,op,⟨#[]⟩,ts⟩,j,rfl,rfl,rfl,rfl⟩
  ·have ht:isTestT l i=true:=by unfold isTestT;rw [List.getElem?_eq_none (by omega)]
   rw [ht]
   have w4:=ptest_fn l i e (hereT l e i) hi hl hok
   dsimp only
   repeat' (first|refine z0 ?_|apply ds_nil|refine z5 ?_|refine z14 ?_|refine z10 ?_|apply dw_seq2|refine z16 ?_|refine z20 ?_|apply dw_skip|refine z18 ?_|refine z19 ?_|apply thenD_n|(refine z23 ?_ ?_ <;> intro hg)|((fail_if_success (apply dt_known;exact rfl));apply dt_guardP;exact rfl;exact rfl;exact rfl;all_goals intro hg))
   all_goals try (exfalso;omega)
   refine ds_callE (fun x=>match x with|0=>0|_=>2) w4 rfl rfl rfl rfl ⟨rfl,rfl,trivial⟩ rfl rfl rfl rfl rfl rfl ?_ ?_ ?_
   ·rintro v ⟨m,h,rfl⟩;exact⟨m,by rw [h],rfl⟩
   ·rintro k2 res H2 ⟨kd,op,ts,j,_,_,rfl,rfl,rfl⟩;exact⟨rfl,rfl⟩
   rintro k2 res H2 ⟨kd,op,ts,j,h4,h4l,rfl,rfl,rfl⟩
   change DS _ _ _ _ _ _ _ _
   clear w4
   rw [h4]
   dsimp only
   repeat' (first|refine z0 ?_|apply ds_nil|apply dw_seq2|refine z16 ?_|apply dw_ret|apply thenD_n|apply thenD_r|refine z3 ?_|fail)
   all_goals try (exfalso;omega)
   exact⟨.inl rfl,_,rfl,id,1,_,prH l j e,rfl,⟨rfl,trivial⟩,rfl,rfl,rfl,rfl,rfl,rfl,⟨kd,hereT l e i,op,⟨#[]⟩,ts⟩,j,rfl,rfl,rfl,rfl⟩
abbrev truV (x:TRu):SV:=.agg [.d (.int .i64 x.at_),.d (.str x.name),.d (.slice 2 (x.terms.map encTTm)),.d (.int .i64 x.fold),.d (.slice 5 (x.body.map encTLt))]
set_option maxHeartbeats 8000000 in
theorem prule_fn (l:List Tok) (i:Nat) (e:Int) (hi:i≤l.length) (hl:l.length≤900000) (hok:l.all tokOk=true):FnOkE false Tryz.prog tab tab_ok 58 [.loc 0 0] 1 1 (prH l i e) (fun k r H=>∃ x j,ruleT l e i = .ok (x,j)∧k=1∧r=truV x∧H=prH l j e) (fun v=>∃ j,ruleT l e i = .error j∧v=plV (hereT l e j)):=by
 refine fn_enterRE _ Tryz.func58 rfl rfl (by kernel_rfl) ?_
 intro O w0 E0 β0
 have ll:(l.map encTok).length=l.length:=List.length_map _
 have w0:=here_fn l i e
 repeat' (first|refine z0 ?_|apply ds_nil|apply dw_seq2|refine z16 ?_|apply thenD_n|refine z1 ?_|fail)
 (refine ds_callF id (w0) rfl rfl rfl rfl ⟨rfl,trivial⟩ rfl rfl rfl rfl rfl rfl ?_ ?_)
 ·rintro k2 res H2 ⟨rfl,rfl,rfl⟩;exact⟨rfl,rfl⟩
 rintro k2 res H2 ⟨rfl,rfl,rfl⟩
 change DS _ _ _ _ _ _ _ _
 clear w0
 unfold ruleT
 have w2:=pname_fn l i e (by omega)
 repeat' (first|refine z0 ?_|apply ds_nil|apply dw_seq2|refine z16 ?_|apply thenD_n|refine z1 ?_|refine z3 ?_|fail)
 (refine ds_callE id (w2) rfl rfl rfl rfl ⟨rfl,trivial⟩ rfl rfl rfl rfl rfl rfl ?_ ?_ ?_)
 ·rintro v ⟨h,rfl⟩;exact⟨_,by rw [h],rfl⟩
 ·rintro k2 res H2 ⟨s,_,rfl,rfl,rfl⟩;exact⟨rfl,rfl⟩
 rintro k2 res H2 ⟨s,h2,rfl,rfl,rfl⟩
 change DS _ _ _ _ _ _ _ _
 clear w2
 rw [h2]
 dsimp only
 obtain⟨_,h2l⟩:=nameT_lt h2
 have w3:=pterms_fn l (i + 1) e true (by omega) hl hok
 repeat' (first|refine z0 ?_|apply ds_nil|apply dw_seq2|refine z16 ?_|apply thenD_n|refine z3 ?_|fail)
 (refine ds_callE id (w3) rfl rfl rfl rfl ⟨rfl,trivial⟩ rfl rfl rfl rfl rfl rfl ?_ ?_ ?_)
 ·rintro v ⟨m,h,rfl⟩;exact⟨m,by rw [h],rfl⟩
 ·rintro k2 res H2 ⟨x,f,j,_,_,rfl,rfl,rfl⟩;exact⟨rfl,rfl⟩
 rintro k2 res H2 ⟨ts,f,m,h3,h3l,rfl,rfl,rfl⟩
 change DS _ _ _ _ _ _ _ _
 clear w3
 rw [h3]
 dsimp only
 repeat' ((fail_if_success (apply dw_stopS 4));(first|refine z0 ?_|apply ds_nil|apply dw_seq2|apply thenD_n|refine z3 ?_|fail))
 refine dw_cut (ι:=Bool) (fun b=>⟨3,[(0,.loc 0 0),(2,.loc 1 0),(3,.loc 2 0),(24,.d (.bool b))],[(0,prB l (match b with|true=>m + 1|false=>m) e),(1,.blk 47 [.d (.int .i64 0),.d (.str ⟨#[]⟩),.nils,.d (.int .i64 0),.nils]),(2,.blk 47 [.d (.int .i64 (hereT l e i)),.d (.str s),.d (.slice 2 (ts.map encTTm)),.d (.int .i64 f),.nils])]⟩) (fun b=>b=decide (f=0∧seesT l m ⟨#[46]⟩=true)) ?_ ?_
 ·by_cases hf:f=0
  ·have w4:=ptake_fn l m e ⟨#[46]⟩ (by omega)
   repeat' (first|refine z0 ?_|refine z12 ?_|apply ds_nil|refine z16 ?_|apply thenD_n|((fail_if_success (apply ds_known;exact rfl));apply ds_guardP;exact rfl;exact rfl;exact rfl;all_goals intro hg))
   all_goals try (exfalso;omega)
   (refine ds_callF id (w4) rfl rfl rfl rfl ⟨rfl,trivial⟩ rfl rfl rfl rfl rfl rfl ?_ ?_)
   ·rintro k2 res H2 ⟨rfl,rfl,rfl⟩;exact⟨rfl,rfl⟩
   rintro k2 res H2 ⟨rfl,rfl,rfl⟩
   change DS _ _ _ _ _ _ _ _
   clear w4
   cases hd:seesT l m ⟨#[46]⟩ with
   | true =>
    repeat' (first|refine z0 ?_|apply ds_nil|apply thenD_n)
    exact⟨true,(decide_eq_true ⟨hf,rfl⟩).symm,ent_ren id ⟨rfl,rfl,rfl,rfl,trivial⟩ ⟨rfl,rfl,rfl,trivial⟩ rfl rfl rfl rfl rfl rfl⟩
   | false =>
    repeat' (first|refine z0 ?_|apply ds_nil|apply thenD_n)
    exact⟨false,(decide_eq_false (fun h=>by cases h.2)).symm,ent_ren id ⟨rfl,rfl,rfl,rfl,trivial⟩ ⟨rfl,rfl,rfl,trivial⟩ rfl rfl rfl rfl rfl rfl⟩
  ·repeat' (first|refine z0 ?_|refine z12 ?_|apply ds_nil|refine z16 ?_|apply thenD_n|((fail_if_success (apply ds_known;exact rfl));apply ds_guardP;exact rfl;exact rfl;exact rfl;all_goals intro hg))
   all_goals try (exfalso;omega)
   exact⟨false,(decide_eq_false (fun h=>hf h.1)).symm,ent_ren id ⟨rfl,rfl,rfl,rfl,trivial⟩ ⟨rfl,rfl,rfl,trivial⟩ rfl rfl rfl rfl rfl rfl⟩
 ·intro b hb
  cases b with
  | true =>
   obtain⟨hf,hd⟩:=of_decide_eq_true hb.symm
   rw [if_pos ⟨hf,hd⟩]
   have:=seesT_lt hd
   dsimp only
   refine dw_ent (ent_cellnil 2 4 5 rfl rfl rfl) ?_
   repeat' (first|refine z0 ?_|apply ds_nil|apply dw_seq2|refine z16 ?_|apply dw_ret|refine z18 ?_|apply thenD_n|apply thenD_r|refine z3 ?_|fail)
   exact⟨.inl rfl,_,rfl,id,1,_,prH l (m + 1) e,rfl,⟨rfl,trivial⟩,rfl,rfl,rfl,rfl,rfl,rfl,⟨hereT l e i,s,ts,f,[]⟩,m + 1,rfl,rfl,rfl,rfl⟩
  | false =>
   rw [if_neg (of_decide_eq_false hb.symm)]
   clear hb
   dsimp only
   have w5:=need_fn l m e ⟨#[58,45]⟩ (by omega)
   refine dw_ent (ent_cellrow 2 4 51 5 rfl rfl rfl) ?_
   repeat' (first|refine z0 ?_|apply dw_seq2|refine z16 ?_|apply dw_skip|refine z19 ?_|apply thenD_n)
   (refine ds_callE id (w5) rfl rfl rfl rfl ⟨rfl,trivial⟩ rfl rfl rfl rfl rfl rfl ?_ ?_ ?_)
   ·rintro v ⟨hs,rfl⟩;exact⟨m,by rw [hs];rfl,rfl⟩
   ·rintro k2 res H2 ⟨_,rfl,rfl,rfl⟩;exact⟨rfl,rfl⟩
   rintro k2 res H2 ⟨hs,rfl,rfl,rfl⟩
   change DS _ _ _ _ _ _ _ _
   clear w5
   have hml:=seesT_lt hs
   rw [hs,if_pos rfl]
   repeat' (first|apply ds_nil|apply dw_seq2|apply dw_block|apply thenD_n)
   refine ds_loop (ι:=Nat × List TLt × Nat) (fun x=>⟨4,[(0,.loc 0 0),(2,.loc 1 0),(3,.loc 2 0)],[(0,prB l x.1 e),(1,.blk 47 [.d (.int .i64 0),.d (.str ⟨#[]⟩),.nils,.d (.int .i64 0),.nils]),(2,.blk 47 [.d (.int .i64 (hereT l e i)),.d (.str s),.d (.slice 2 (ts.map encTTm)),.d (.int .i64 f),.row 3]),(3,.row 51 5 (x.2.1.map encTLt))]⟩)
    (fun x=>litsGo l e (l.length + 1) (m + 1) []=litsGo l e x.2.2 x.1 x.2.1∧x.1≤l.length∧l.length < x.2.2 + x.1∧x.2.1.length≤x.1) (fun x=>x.2.2) (m + 1,[],l.length + 1) ⟨rfl,by show m + 1≤l.length;omega,by show l.length < l.length + 1 + (m + 1);omega,Nat.zero_le _⟩ (ent_ren id ⟨rfl,rfl,rfl,trivial⟩ ⟨rfl,rfl,rfl,rfl,trivial⟩ rfl rfl rfl rfl rfl rfl) ?_
   rintro⟨j,acc,n⟩ ⟨ht,hj,hn,ha⟩
   dsimp only at ht hj hn ha ⊢
   obtain⟨n,rfl⟩:∃ m,n=m + 1:=⟨n - 1,by omega⟩
   rw [ht,litsGo_succ]
   have w6:=plit_fn l j e hj hl hok
   repeat' (first|refine z0 ?_|apply dw_seq2|refine z16 ?_|apply dw_block)
   (refine ds_callE id (w6) rfl rfl rfl rfl ⟨rfl,trivial⟩ rfl rfl rfl rfl rfl rfl ?_ ?_ ?_)
   ·rintro v ⟨q,h,rfl⟩;exact⟨q,by rw [h],rfl⟩
   ·rintro k2 res H2 ⟨x,q,_,rfl,rfl,rfl⟩;exact⟨rfl,rfl⟩
   rintro k2 res H2 ⟨x,q,h6,rfl,rfl,rfl⟩
   change DS _ _ _ _ _ _ _ _
   clear w6
   obtain⟨q1,q2⟩:=litT_lt h6
   rw [h6]
   dsimp only
   have lac:(acc.map encTLt).length=acc.length:=List.length_map _
   have hap:(acc++[x]).map encTLt=acc.map encTLt++[encTLt x]:=List.map_append
   have w7:=ptake_fn l q e ⟨#[44]⟩ (by omega)
   repeat' (first|refine z0 ?_|apply ds_nil|apply dw_seq2|refine z16 ?_|apply thenD_n|refine z1 ?_|refine z3 ?_|refine z4 ?_|refine z2 ?_|fail)
   (refine ds_callF id (w7) rfl rfl rfl rfl ⟨rfl,trivial⟩ rfl rfl rfl rfl rfl rfl ?_ ?_)
   ·rintro k2 res H2 ⟨rfl,rfl,rfl⟩;exact⟨rfl,rfl⟩
   rintro k2 res H2 ⟨rfl,rfl,rfl⟩
   change DS _ _ _ _ _ _ _ _
   clear w7
   cases hc:seesT l q ⟨#[44]⟩ with
   | true =>
    have:=seesT_lt hc
    repeat' (first|refine z0 ?_|apply ds_nil|apply dw_skip|refine z19 ?_|apply thenD_n|apply inB_n)
    exact⟨(q + 1,acc++[x],n),⟨if_pos rfl,by show q + 1≤l.length;omega,by show l.length < n + (q + 1);omega,by show (acc++[x]).length≤q + 1;rw [List.length_append];simp;omega⟩,ent_ren (fun x=>match x with|0=>0|1=>1|2=>2|_=>_) ⟨rfl,rfl,rfl,trivial⟩ ⟨rfl,rfl,rfl,by dsimp only;rw [hap];rfl,trivial⟩ rfl rfl rfl rfl rfl rfl,by show n < n + 1;omega⟩
   | false =>
    rw [if_neg (fun h=>Bool.noConfusion h)]
    dsimp only
    have w8:=need_fn l q e ⟨#[46]⟩ (by omega)
    repeat' (first|refine z0 ?_|apply ds_nil|apply dw_seq2|refine z16 ?_|apply dw_exit|refine z18 ?_|apply thenD_n|apply thenD_e|refine z17 ?_|(apply inB_x;exact rfl))
    (refine ds_callE id (w8) rfl rfl rfl rfl ⟨rfl,trivial⟩ rfl rfl rfl rfl rfl rfl ?_ ?_ ?_)
    ·rintro v ⟨h,rfl⟩;exact⟨q,by rw [h];rfl,rfl⟩
    ·rintro k2 res H2 ⟨_,rfl,rfl,rfl⟩;exact⟨rfl,rfl⟩
    rintro k2 res H2 ⟨h8,rfl,rfl,rfl⟩
    change DS _ _ _ _ _ _ _ _
    clear w8
    have:=seesT_lt h8
    rw [h8,if_pos rfl]
    repeat' ((fail_if_success (apply dw_stopS 11));(first|apply ds_nil|apply thenD_n))
    refine dw_ent (ent_cellseal 2 4 6 rfl rfl rfl rfl rfl) ?_
    repeat' (first|refine z0 ?_|apply ds_nil|apply dw_seq2|refine z16 ?_|apply dw_ret|apply thenD_n|refine z3 ?_|fail)
    exact⟨.inl rfl,_,rfl,id,1,.agg [.d (.int .i64 (hereT l e i)),.d (.str s),.d (.slice 2 (ts.map encTTm)),.d (.int .i64 f),.d (.slice 5 (acc.map encTLt++[encTLt x]))],prH l (q + 1) e,rfl,⟨rfl,trivial⟩,rfl,rfl,rfl,rfl,rfl,rfl,⟨hereT l e i,s,ts,f,acc++[x]⟩,q + 1,rfl,rfl,by dsimp only [truV];rw [hap],rfl⟩
abbrev elTTm (t:TTm):SV:=.agg [.d (.str t.var),.d (.int .i64 t.n)]
abbrev elTLt (x:TLt):SV:=.agg [.d (.int .i64 x.kind),.d (.int .i64 x.at_),.d (.int .i64 x.op),.d (.str x.name),.d (.slice 2 (x.terms.map encTTm))]
abbrev elTRu (x:TRu):SV:=.agg [.d (.int .i64 x.at_),.d (.str x.name),.d (.slice 2 (x.terms.map encTTm)),.d (.int .i64 x.fold),.d (.slice 5 (x.body.map encTLt))]
attribute [local irreducible] DT
set_option maxHeartbeats 8000000 in
theorem indexTm_fn {f:FuncId} {caps:List SV} (p:TTm→Bool) (l:List (TTm)) (hcap:SV.lowL 0 caps=true) (hp:∀ x∈l,Fn f (elTTm x::caps) (fun r=>r = .d (.bool (p x)))):Fn 111 [.d (.slice 2 (l.map encTTm)),.fn f caps] (fun r=>r = .d (.int .i64 (idxF p l))):=by
 refine fnp_enter' _ Tryz.func111 rfl rfl (by kernel_rfl) ?_
 intro O w0 E0 β0
 refine dw_len_map (t:=0) rfl fun hb=>?_
 repeat' (first|refine z0 ?_|apply ds_nil|apply dw_seq2|refine z16 ?_|apply dw_block|apply thenD_n)
 refine ds_loop (ι:=Nat) (fun i=>⟨0,[(0,.d (.slice 2 (l.map encTTm))),(1,.fn f caps),(7,.d (.int .i64 l.length)),(8,.d (.int .i64 i))],[]⟩)
  (fun i=>i≤l.length∧∀ j (hj:j < l.length),j < i→p l[j]=false) (fun i=>l.length - i) 0 ⟨Nat.zero_le _,fun j _ h=>absurd h (Nat.not_lt_zero j)⟩
  (ent_ren id ⟨rfl,congrArg (SV.fn f) (SV.renL_id caps).symm,by simp;rfl,rfl,trivial⟩ trivial (by simp [Sl.low,SV.low,hcap]) rfl rfl rfl rfl rfl) ?_
 rintro i ⟨h1,h2⟩
 repeat' (first|refine z0 ?_|apply ds_nil|apply dw_seq2|refine z16 ?_|apply thenD_n)
 refine dw_condP rfl (fun h=>?_) (fun h=>?_)
 ·have hi:i < l.length:=by omega
  have hpx:=hp l[i] (List.getElem_mem hi)
  repeat' (first|refine z0 ?_|apply ds_nil|apply dw_seq2|refine z16 ?_|apply dw_block|apply dw_skip|apply thenD_n|(apply ds_callV;exact rfl;exact rfl;exact rfl;exact rfl;apply hpx;exact rfl;(assumption);exact rfl;rintro _ rfl))
  refine dw_cond rfl (fun hb=>?_) (fun hb=>?_)
  ·repeat' (first|refine z0 ?_|apply ds_nil|apply dw_seq2|refine z16 ?_|apply dw_ret|apply thenD_n|apply thenD_r|apply inB_r)
   exact ret_i rfl (idxF_hit h2 hi hb).symm
  ·repeat' (first|refine z0 ?_|apply ds_nil|refine z16 ?_|apply dw_skip|apply thenD_n|apply inB_n)
   exact⟨i + 1,⟨hi,none_step h2 hi hb⟩,ent_ren id ⟨rfl,congrArg (SV.fn f) (SV.renL_id caps).symm,rfl,rfl,trivial⟩ trivial (by simp [Sl.low,SV.low,hcap]) rfl rfl rfl rfl rfl,by omega⟩
 ·repeat' (first|refine z0 ?_|apply ds_nil|apply dw_seq2|refine z16 ?_|apply dw_exit|apply dw_ret|apply thenD_n|apply thenD_e|refine z17 ?_|fail)
  exact ret_i rfl (idxF_none fun j hj=>h2 j hj (by omega)).symm
set_option maxHeartbeats 8000000 in
theorem containsTm_fn {f:FuncId} {caps:List SV} (p:TTm→Bool) (l:List (TTm)) (hcap:SV.lowL 0 caps=true) (hp:∀ x∈l,Fn f (elTTm x::caps) (fun r=>r = .d (.bool (p x)))):Fn 98 [.d (.slice 2 (l.map encTTm)),.fn f caps] (fun r=>r = .d (.bool (l.any p))):=by
 refine fnp_enter' _ Tryz.func98 rfl rfl (by kernel_rfl) ?_
 intro O w0 E0 β0
 have hx:=indexTm_fn p l hcap hp
 have hlow:SV.lowL 0 [.d (.slice 2 (l.map encTTm)),.fn f caps]=true:=by simp [SV.lowL,SV.low,hcap]
 repeat' (first|refine z0 ?_|apply ds_nil|apply dw_seq2|refine z16 ?_|apply dw_ret|apply thenD_n|refine z21 ?_ (hc:=by apply hx)|fail)
 exact ret_b rfl (idxF_any p l)
set_option maxHeartbeats 8000000 in
theorem indexTl_fn {f:FuncId} {caps:List SV} (p:TLt→Bool) (l:List (TLt)) (hcap:SV.lowL 0 caps=true) (hp:∀ x∈l,Fn f (elTLt x::caps) (fun r=>r = .d (.bool (p x)))):Fn 95 [.d (.slice 5 (l.map encTLt)),.fn f caps] (fun r=>r = .d (.int .i64 (idxF p l))):=by
 refine fnp_enter' _ Tryz.func95 rfl rfl (by kernel_rfl) ?_
 intro O w0 E0 β0
 refine dw_len_map (t:=0) rfl fun hb=>?_
 repeat' (first|refine z0 ?_|apply ds_nil|apply dw_seq2|refine z16 ?_|apply dw_block|apply thenD_n)
 refine ds_loop (ι:=Nat) (fun i=>⟨0,[(0,.d (.slice 5 (l.map encTLt))),(1,.fn f caps),(7,.d (.int .i64 l.length)),(8,.d (.int .i64 i))],[]⟩)
  (fun i=>i≤l.length∧∀ j (hj:j < l.length),j < i→p l[j]=false) (fun i=>l.length - i) 0 ⟨Nat.zero_le _,fun j _ h=>absurd h (Nat.not_lt_zero j)⟩
  (ent_ren id ⟨rfl,congrArg (SV.fn f) (SV.renL_id caps).symm,by simp;rfl,rfl,trivial⟩ trivial (by simp [Sl.low,SV.low,hcap]) rfl rfl rfl rfl rfl) ?_
 rintro i ⟨h1,h2⟩
 repeat' (first|refine z0 ?_|apply ds_nil|apply dw_seq2|refine z16 ?_|apply thenD_n)
 refine dw_condP rfl (fun h=>?_) (fun h=>?_)
 ·have hi:i < l.length:=by omega
  have hpx:=hp l[i] (List.getElem_mem hi)
  repeat' (first|refine z0 ?_|apply ds_nil|apply dw_seq2|refine z16 ?_|apply dw_block|apply dw_skip|apply thenD_n|(apply ds_callV;exact rfl;exact rfl;exact rfl;exact rfl;apply hpx;exact rfl;(assumption);exact rfl;rintro _ rfl))
  refine dw_cond rfl (fun hb=>?_) (fun hb=>?_)
  ·repeat' (first|refine z0 ?_|apply ds_nil|apply dw_seq2|refine z16 ?_|apply dw_ret|apply thenD_n|apply thenD_r|apply inB_r)
   exact ret_i rfl (idxF_hit h2 hi hb).symm
  ·repeat' (first|refine z0 ?_|apply ds_nil|refine z16 ?_|apply dw_skip|apply thenD_n|apply inB_n)
   exact⟨i + 1,⟨hi,none_step h2 hi hb⟩,ent_ren id ⟨rfl,congrArg (SV.fn f) (SV.renL_id caps).symm,rfl,rfl,trivial⟩ trivial (by simp [Sl.low,SV.low,hcap]) rfl rfl rfl rfl rfl,by omega⟩
 ·repeat' (first|refine z0 ?_|apply ds_nil|apply dw_seq2|refine z16 ?_|apply dw_exit|apply dw_ret|apply thenD_n|apply thenD_e|refine z17 ?_|fail)
  exact ret_i rfl (idxF_none fun j hj=>h2 j hj (by omega)).symm
set_option maxHeartbeats 8000000 in
theorem containsTl_fn {f:FuncId} {caps:List SV} (p:TLt→Bool) (l:List (TLt)) (hcap:SV.lowL 0 caps=true) (hp:∀ x∈l,Fn f (elTLt x::caps) (fun r=>r = .d (.bool (p x)))):Fn 63 [.d (.slice 5 (l.map encTLt)),.fn f caps] (fun r=>r = .d (.bool (l.any p))):=by
 refine fnp_enter' _ Tryz.func63 rfl rfl (by kernel_rfl) ?_
 intro O w0 E0 β0
 have hx:=indexTl_fn p l hcap hp
 have hlow:SV.lowL 0 [.d (.slice 5 (l.map encTLt)),.fn f caps]=true:=by simp [SV.lowL,SV.low,hcap]
 repeat' (first|refine z0 ?_|apply ds_nil|apply dw_seq2|refine z16 ?_|apply dw_ret|apply thenD_n|refine z21 ?_ (hc:=by apply hx)|fail)
 exact ret_b rfl (idxF_any p l)
set_option maxHeartbeats 8000000 in
theorem indexTr_fn {f:FuncId} {caps:List SV} (p:TRu→Bool) (l:List (TRu)) (hcap:SV.lowL 0 caps=true) (hp:∀ x∈l,Fn f (elTRu x::caps) (fun r=>r = .d (.bool (p x)))):Fn 62 [.d (.slice 5 (l.map encTRu)),.fn f caps] (fun r=>r = .d (.int .i64 (idxF p l))):=by
 refine fnp_enter' _ Tryz.func62 rfl rfl (by kernel_rfl) ?_
 intro O w0 E0 β0
 refine dw_len_map (t:=0) rfl fun hb=>?_
 repeat' (first|refine z0 ?_|apply ds_nil|apply dw_seq2|refine z16 ?_|apply dw_block|apply thenD_n)
 refine ds_loop (ι:=Nat) (fun i=>⟨0,[(0,.d (.slice 5 (l.map encTRu))),(1,.fn f caps),(7,.d (.int .i64 l.length)),(8,.d (.int .i64 i))],[]⟩)
  (fun i=>i≤l.length∧∀ j (hj:j < l.length),j < i→p l[j]=false) (fun i=>l.length - i) 0 ⟨Nat.zero_le _,fun j _ h=>absurd h (Nat.not_lt_zero j)⟩
  (ent_ren id ⟨rfl,congrArg (SV.fn f) (SV.renL_id caps).symm,by simp;rfl,rfl,trivial⟩ trivial (by simp [Sl.low,SV.low,hcap]) rfl rfl rfl rfl rfl) ?_
 rintro i ⟨h1,h2⟩
 repeat' (first|refine z0 ?_|apply ds_nil|apply dw_seq2|refine z16 ?_|apply thenD_n)
 refine dw_condP rfl (fun h=>?_) (fun h=>?_)
 ·have hi:i < l.length:=by omega
  have hpx:=hp l[i] (List.getElem_mem hi)
  repeat' (first|refine z0 ?_|apply ds_nil|apply dw_seq2|refine z16 ?_|apply dw_block|apply dw_skip|apply thenD_n|(apply ds_callV;exact rfl;exact rfl;exact rfl;exact rfl;apply hpx;exact rfl;(assumption);exact rfl;rintro _ rfl))
  refine dw_cond rfl (fun hb=>?_) (fun hb=>?_)
  ·repeat' (first|refine z0 ?_|apply ds_nil|apply dw_seq2|refine z16 ?_|apply dw_ret|apply thenD_n|apply thenD_r|apply inB_r)
   exact ret_i rfl (idxF_hit h2 hi hb).symm
  ·repeat' (first|refine z0 ?_|apply ds_nil|refine z16 ?_|apply dw_skip|apply thenD_n|apply inB_n)
   exact⟨i + 1,⟨hi,none_step h2 hi hb⟩,ent_ren id ⟨rfl,congrArg (SV.fn f) (SV.renL_id caps).symm,rfl,rfl,trivial⟩ trivial (by simp [Sl.low,SV.low,hcap]) rfl rfl rfl rfl rfl,by omega⟩
 ·repeat' (first|refine z0 ?_|apply ds_nil|apply dw_seq2|refine z16 ?_|apply dw_exit|apply dw_ret|apply thenD_n|apply thenD_e|refine z17 ?_|fail)
  exact ret_i rfl (idxF_none fun j hj=>h2 j hj (by omega)).symm
set_option maxHeartbeats 8000000 in
theorem containsTr_fn {f:FuncId} {caps:List SV} (p:TRu→Bool) (l:List (TRu)) (hcap:SV.lowL 0 caps=true) (hp:∀ x∈l,Fn f (elTRu x::caps) (fun r=>r = .d (.bool (p x)))):Fn 40 [.d (.slice 5 (l.map encTRu)),.fn f caps] (fun r=>r = .d (.bool (l.any p))):=by
 refine fnp_enter' _ Tryz.func40 rfl rfl (by kernel_rfl) ?_
 intro O w0 E0 β0
 have hx:=indexTr_fn p l hcap hp
 have hlow:SV.lowL 0 [.d (.slice 5 (l.map encTRu)),.fn f caps]=true:=by simp [SV.lowL,SV.low,hcap]
 repeat' (first|refine z0 ?_|apply ds_nil|apply dw_seq2|refine z16 ?_|apply dw_ret|apply thenD_n|refine z21 ?_ (hc:=by apply hx)|fail)
 exact ret_b rfl (idxF_any p l)
theorem not_any {α:Type} (p:α→Bool):∀ l:List α,(!l.any fun t=>!p t)=l.all p
 | []=>rfl
 | a::l=>by rw [List.any_cons,List.all_cons,← not_any p l];cases p a <;> rfl
set_option maxHeartbeats 8000000 in
theorem tokenVar_fn (s:ByteArray):Fn 112 [.d (.str s)] (fun r=>r = .d (.bool (oneS 2 s))):=by
 refine fnp_enter' _ Tryz.func112 rfl rfl (by kernel_rfl) ?_
 intro O w0 E0 β0
 repeat' (first|refine z0 ?_|apply ds_nil|apply dw_seq2|refine z16 ?_|apply dw_ret|apply thenD_n|refine z21 ?_ (hc:=by apply one_fn)|fail)
 exact ret_b rfl rfl
set_option maxHeartbeats 8000000 in
theorem ttm_fn (t:TTm):Fn 100 [elTTm t] (fun r=>r = .d (.bool (tmOk t))):=by
 refine fnp_enter' _ Tryz.func100 rfl rfl (by kernel_rfl) ?_
 intro O w0 E0 β0
 have w1:=tokenVar_fn t.var
 unfold tmOk
 by_cases hv:t.var=⟨#[]⟩
 ·rw [if_pos hv]
  repeat' (first|refine z0 ?_|refine z12 ?_|apply ds_nil|apply dw_seq2|refine z16 ?_|apply dw_skip|apply dw_ret|apply thenD_n|apply thenD_r|refine z21 ?_ (hc:=by apply w1)|refine z1 ?_|(refine z23 ?_ ?_ <;> intro hg)|((fail_if_success (apply ds_known;exact rfl));apply ds_guardP;exact rfl;exact rfl;exact rfl;all_goals intro hg)|((fail_if_success (apply ds_known;exact rfl));apply ds_guardB;exact rfl;exact rfl;exact rfl;all_goals intro hg))
  all_goals try (exfalso;exact absurd hv (by assumption))
  all_goals exact ret_b rfl (by first|(simp_all;done)|(simp_all;omega))
 ·rw [if_neg hv]
  cases ho:oneS 2 t.var
  all_goals
   rw [ho] at w1
   repeat' (first|refine z0 ?_|refine z12 ?_|apply ds_nil|apply dw_seq2|refine z16 ?_|apply dw_skip|apply dw_ret|apply thenD_n|apply thenD_r|refine z21 ?_ (hc:=by apply w1)|refine z1 ?_|(refine z23 ?_ ?_ <;> intro hg)|((fail_if_success (apply ds_known;exact rfl));apply ds_guardP;exact rfl;exact rfl;exact rfl;all_goals intro hg))
  all_goals try (exfalso;exact absurd (by assumption) hv)
  all_goals exact ret_b rfl (by first|(simp_all;done)|(simp_all;omega))
set_option maxHeartbeats 8000000 in
theorem ttm1_fn (t:TTm):Fn 99 [elTTm t] (fun r=>r = .d (.bool (!tmOk t))):=by
 refine fnp_enter' _ Tryz.func99 rfl rfl (by kernel_rfl) ?_
 intro O w0 E0 β0
 have w1:=ttm_fn t
 repeat' (first|refine z0 ?_|apply ds_nil|apply dw_seq2|refine z16 ?_|apply dw_ret|apply thenD_n|refine z21 ?_ (hc:=by apply w1)|refine z1 ?_|fail)
 exact ret_b rfl rfl
set_option maxHeartbeats 8000000 in
theorem ttms_fn (l:List TTm):Fn 66 [.d (.slice 2 (l.map encTTm))] (fun r=>r = .d (.bool (tmsOk l))):=by
 refine fnp_enter' _ Tryz.func66 rfl rfl (by kernel_rfl) ?_
 intro O w0 E0 β0
 have w1:=containsTm_fn (caps:=[]) (f:=99) (fun t=>!tmOk t) l rfl (fun x _=>ttm1_fn x)
 repeat' (first|refine z0 ?_|apply ds_nil|apply dw_seq2|refine z16 ?_|apply dw_ret|apply thenD_n|refine z21 ?_ (hc:=by apply w1)|fail)
 refine ret_b rfl ?_
 exact not_any tmOk l
set_option maxHeartbeats 8000000 in
theorem twithin_fn (n a b:Int):Fn 67 [.d (.int .i64 n),.d (.int .i64 a),.d (.int .i64 b)] (fun r=>r = .d (.bool (decide (a≤n∧n≤b)))):=by
 refine fnp_enter' _ Tryz.func67 rfl rfl (by kernel_rfl) ?_
 intro O w0 E0 β0
 repeat' (first|refine z0 ?_|refine z12 ?_|apply ds_nil|apply dw_seq2|refine z16 ?_|apply dw_ret|apply thenD_n|((fail_if_success (apply ds_known;exact rfl));apply ds_guardP;exact rfl;exact rfl;exact rfl;all_goals intro hg))
 all_goals exact ret_b rfl (by first|(simp_all;done)|(simp_all;omega))
set_option maxHeartbeats 8000000 in
theorem tlit_fn (x:TLt):Fn 69 [elTLt x] (fun r=>r = .d (.bool (tlOk x))):=by
 refine fnp_enter' _ Tryz.func69 rfl rfl (by kernel_rfl) ?_
 intro O w0 E0 β0
 have w1:=ttms_fn x.terms
 have w2:=treeName_fn x.name
 have w3:=twithin_fn x.op 1 4
 have w4:=twithin_fn x.op 5 7
 have lt:(x.terms.map encTTm).length=x.terms.length:=List.length_map _
 unfold tlOk
 generalize tmsOk x.terms=b1 at *
 generalize nameS x.name=b2 at *
 cases b1 <;> cases b2 <;> repeat' (first|refine z0 ?_|refine z12 ?_|apply ds_nil|apply dw_seq2|refine z16 ?_|apply dw_block|apply dw_skip|apply dw_ret|apply thenD_n|apply inB_n|refine z21 ?_ (hc:=by apply w1)|refine z21 ?_ (hc:=by apply w2)|refine z21 ?_ (hc:=by apply w3)|refine z21 ?_ (hc:=by apply w4)|refine z1 ?_|(refine z23 ?_ ?_ <;> intro hg)|((fail_if_success (apply ds_known;exact rfl));apply ds_guardP;exact rfl;exact rfl;exact rfl;all_goals intro hg))
 all_goals try (exfalso;omega)
 all_goals first|exact ret_b rfl (by first|(simp_all;done)|(simp_all;omega))
set_option maxHeartbeats 8000000 in
theorem tlit1_fn (x:TLt):Fn 68 [elTLt x] (fun r=>r = .d (.bool (!tlOk x))):=by
 refine fnp_enter' _ Tryz.func68 rfl rfl (by kernel_rfl) ?_
 intro O w0 E0 β0
 have w1:=tlit_fn x
 repeat' (first|refine z0 ?_|apply ds_nil|apply dw_seq2|refine z16 ?_|apply dw_ret|apply thenD_n|refine z21 ?_ (hc:=by apply w1)|refine z1 ?_|fail)
 exact ret_b rfl rfl
set_option maxHeartbeats 8000000 in
theorem muchL_fn (x:TLt):Fn 64 [elTLt x] (fun r=>r = .d (.bool (decide (3 < x.terms.length)))):=by
 refine fnp_enter' _ Tryz.func64 rfl rfl (by kernel_rfl) ?_
 intro O w0 E0 β0
 have lt:(x.terms.map encTTm).length=x.terms.length:=List.length_map _
 repeat' (first|refine z0 ?_|apply ds_nil|apply dw_seq2|refine z16 ?_|apply dw_ret|apply thenD_n|refine z1 ?_|fail)
 exact ret_b rfl (by rw [lt];apply decide_eq_decide.2;omega)
set_option maxHeartbeats 8000000 in
theorem much_fn (r:TRu):Fn 41 [elTRu r] (fun o=>o = .d (.bool (muchT r))):=by
 refine fnp_enter' _ Tryz.func41 rfl rfl (by kernel_rfl) ?_
 intro O w0 E0 β0
 have lt:(r.terms.map encTTm).length=r.terms.length:=List.length_map _
 have lb:(r.body.map encTLt).length=r.body.length:=List.length_map _
 have w1:=containsTl_fn (caps:=[]) (f:=64) (fun x=>decide (3 < x.terms.length)) r.body rfl (fun x _=>muchL_fn x)
 unfold muchT
 generalize (r.body.any fun x=>decide (3 < x.terms.length))=b at *
 cases b <;> repeat' (first|refine z0 ?_|refine z12 ?_|apply ds_nil|apply dw_seq2|refine z16 ?_|apply dw_ret|apply thenD_n|refine z21 ?_ (hc:=by apply w1)|refine z1 ?_|((fail_if_success (apply ds_known;exact rfl));apply ds_guardP;exact rfl;exact rfl;exact rfl;all_goals intro hg))
 all_goals try (exfalso;omega)
 all_goals first|exact ret_b rfl (by first|(simp_all;done)|(simp_all;omega))
set_option maxHeartbeats 8000000 in
theorem trule0_fn (r:TRu):Fn 43 [elTRu r] (fun o=>o = .d (.bool (truOk r))):=by
 refine fnp_enter' _ Tryz.func43 rfl rfl (by kernel_rfl) ?_
 intro O w0 E0 β0
 have lt:(r.terms.map encTTm).length=r.terms.length:=List.length_map _
 have lb:(r.body.map encTLt).length=r.body.length:=List.length_map _
 have w1:=treeName_fn r.name
 have w2:=ttms_fn r.terms
 have w3:=twithin_fn r.fold 0 4
 have w4:=containsTl_fn (caps:=[]) (f:=68) (fun x=>!tlOk x) r.body rfl (fun x _=>tlit1_fn x)
 have e4:=not_any tlOk r.body
 have e1:(r.terms=[])↔r.terms.length=0:=List.length_eq_zero_iff.symm
 have e2:(r.body=[])↔r.body.length=0:=List.length_eq_zero_iff.symm
 unfold truOk
 rw [← e4]
 generalize (r.body.any fun x=>!tlOk x)=b4 at *
 generalize tmsOk r.terms=b1 at *
 generalize nameS r.name=b2 at *
 clear e4
 cases b1 <;> cases b2 <;> cases b4 <;> repeat' (first|refine z0 ?_|refine z12 ?_|apply ds_nil|apply dw_seq2|refine z16 ?_|apply dw_skip|apply dw_ret|refine z18 ?_|refine z19 ?_|apply thenD_n|apply thenD_r|refine z21 ?_ (hc:=by apply w1)|refine z21 ?_ (hc:=by apply w2)|refine z21 ?_ (hc:=by apply w3)|refine z21 ?_ (hc:=by apply w4)|refine z1 ?_|(refine z23 ?_ ?_ <;> intro hg)|(apply dw_cond;exact rfl;all_goals intro hg)|((fail_if_success (apply ds_known;exact rfl));apply ds_guardP;exact rfl;exact rfl;exact rfl;all_goals intro hg))
 all_goals try (exfalso;omega)
 all_goals first|exact ret_b rfl (by first|(simp_all;done)|(simp_all;omega))
set_option maxHeartbeats 8000000 in
theorem trule1_fn (r:TRu):Fn 42 [elTRu r] (fun o=>o = .d (.bool (!truOk r))):=by
 refine fnp_enter' _ Tryz.func42 rfl rfl (by kernel_rfl) ?_
 intro O w0 E0 β0
 have w1:=trule0_fn r
 repeat' (first|refine z0 ?_|apply ds_nil|apply dw_seq2|refine z16 ?_|apply dw_ret|apply thenD_n|refine z21 ?_ (hc:=by apply w1)|refine z1 ?_|fail)
 exact ret_b rfl rfl
set_option maxHeartbeats 8000000 in
theorem tcheck_fn (rs:List TRu):Fn 17 [.agg [.d (.slice 5 (rs.map encTRu))]] (fun o=>o = .d (.int .i64 (checkT rs))):=by
 refine fnp_enter' _ Tryz.func17 rfl rfl (by kernel_rfl) ?_
 intro O w0 E0 β0
 have lr:(rs.map encTRu).length=rs.length:=List.length_map _
 have w1:=containsTr_fn (caps:=[]) (f:=41) muchT rs rfl (fun x _=>much_fn x)
 have w2:=containsTr_fn (caps:=[]) (f:=42) (fun x=>!truOk x) rs rfl (fun x _=>trule1_fn x)
 unfold checkT
 rw [← not_any truOk rs]
 generalize (rs.any fun x=>!truOk x)=b1 at *
 generalize rs.any muchT=b2 at *
 cases b1 <;> cases b2 <;> repeat' (first|refine z0 ?_|refine z12 ?_|apply ds_nil|apply dw_seq2|refine z16 ?_|apply dw_block|apply dw_skip|apply dw_ret|refine z18 ?_|refine z19 ?_|apply thenD_n|apply thenD_r|apply inB_n|apply inB_r|refine z21 ?_ (hc:=by apply w1)|refine z21 ?_ (hc:=by apply w2)|refine z1 ?_|((fail_if_success (apply ds_known;exact rfl));apply ds_guardP;exact rfl;exact rfl;exact rfl;all_goals intro hg))
 all_goals try (exfalso;omega)
 all_goals exact ret_i rfl (by first|(simp_all;done)|(simp_all;omega))
end Go.Proofs.YtapciiffpnociabGreatDoor
namespace Go.Proofs
open Go.Shelf
def Tryz.laysM171_ren:Go.Shelf.Ren:=⟨fun|171=>86|243=>105|246=>115|283=>117|284=>118|285=>119|286=>120|129=>124|317=>123|318=>125|319=>126|320=>127|337=>133|338=>134|n=>n,fun|3=>3|9=>9|2=>2|4=>4|171=>130|0=>0|53=>131|37=>54|5=>5|173=>134|212=>139|51=>140|20=>20|213=>141|46=>143|232=>158|233=>159|n=>n,fun|17=>1|18=>4|19=>5|n=>n⟩
theorem Tryz.laysM171:Go.Proofs.LaysM.n171 Tryz.prog Tryz.laysM171_ren:={
 mixed:=by kernel_rfl
 f129:=Tryz.func124.trans (congrArg some (by kernel_rfl))
 f171:=Tryz.func86.trans (congrArg some (by kernel_rfl))
 f243:=Tryz.func105.trans (congrArg some (by kernel_rfl))
 f246:=Tryz.func115.trans (congrArg some (by kernel_rfl))
 f283:=Tryz.func117.trans (congrArg some (by kernel_rfl))
 f284:=Tryz.func118.trans (congrArg some (by kernel_rfl))
 f285:=Tryz.func119.trans (congrArg some (by kernel_rfl))
 f286:=Tryz.func120.trans (congrArg some (by kernel_rfl))
 f317:=Tryz.func123.trans (congrArg some (by kernel_rfl))
 f318:=Tryz.func125.trans (congrArg some (by kernel_rfl))
 f319:=Tryz.func126.trans (congrArg some (by kernel_rfl))
 f320:=Tryz.func127.trans (congrArg some (by kernel_rfl))
 f337:=Tryz.func133.trans (congrArg some (by kernel_rfl))
 f338:=Tryz.func134.trans (congrArg some (by kernel_rfl))
 t0:=Tryz.underlying0
 a0:=Tryz.isAgg0
 z0:=Tryz.sizeOf0
 v0:=Tryz.zeroValue0
 t2:=Tryz.underlying2
 a2:=Tryz.isAgg2
 z2:=Tryz.sizeOf2
 v2:=Tryz.zeroValue2
 t3:=Tryz.underlying3
 a3:=Tryz.isAgg3
 z3:=Tryz.sizeOf3
 v3:=Tryz.zeroValue3
 t4:=Tryz.underlying4
 a4:=Tryz.isAgg4
 z4:=Tryz.sizeOf4
 v4:=Tryz.zeroValue4
 t5:=Tryz.underlying5
 a5:=Tryz.isAgg5
 z5:=Tryz.sizeOf5
 v5:=Tryz.zeroValue5
 t9:=Tryz.underlying9
 a9:=Tryz.isAgg9
 z9:=Tryz.sizeOf9
 v9:=Tryz.zeroValue9
 t20:=Tryz.underlying20
 a20:=Tryz.isAgg20
 z20:=Tryz.sizeOf20
 v20:=Tryz.zeroValue20
 t37:=Tryz.underlying54
 a37:=Tryz.isAgg54
 z37:=Tryz.sizeOf54
 v37:=Tryz.zeroValue54
 t46:=Tryz.underlying143
 a46:=Tryz.isAgg143
 z46:=Tryz.sizeOf143
 v46:=Tryz.zeroValue143
 t51:=Tryz.underlying140
 a51:=Tryz.isAgg140
 z51:=Tryz.sizeOf140
 v51:=Tryz.zeroValue140
 t53:=Tryz.underlying131
 a53:=Tryz.isAgg131
 z53:=Tryz.sizeOf131
 v53:=Tryz.zeroValue131
 t171:=Tryz.underlying130
 a171:=Tryz.isAgg130
 z171:=Tryz.sizeOf130
 v171:=Tryz.zeroValue130
 t173:=Tryz.underlying134
 a173:=Tryz.isAgg134
 z173:=Tryz.sizeOf134
 v173:=Tryz.zeroValue134
 t212:=Tryz.underlying139
 a212:=Tryz.isAgg139
 z212:=Tryz.sizeOf139
 v212:=Tryz.zeroValue139
 t213:=Tryz.underlying141
 a213:=Tryz.isAgg141
 z213:=Tryz.sizeOf141
 t232:=Tryz.underlying158
 a232:=Tryz.isAgg158
 z232:=Tryz.sizeOf158
 v232:=Tryz.zeroValue158
 t233:=Tryz.underlying159
 a233:=Tryz.isAgg159
 z233:=Tryz.sizeOf159
 v233:=Tryz.zeroValue159
 g17:=by kernel_rfl
 g18:=by kernel_rfl
 g19:=by kernel_rfl
 i0:=by kernel_rfl
 i2:=by kernel_rfl
 i3:=by kernel_rfl
 i4:=by kernel_rfl
 i5:=by kernel_rfl
 i9:=by kernel_rfl
 i20:=by kernel_rfl
 i37:=by kernel_rfl
 i46:=by kernel_rfl
 i51:=by kernel_rfl
 i53:=by kernel_rfl
 i171:=by kernel_rfl
 i173:=by kernel_rfl
 i212:=by kernel_rfl
 i232:=by kernel_rfl
 i233:=by kernel_rfl
 m17:=by kernel_rfl
 m18:=by kernel_rfl
 m19:=by kernel_rfl }
end Go.Proofs
namespace Go.Proofs.YtapciiffpnociabGreatDoor
open Go Go.RowKit
theorem fnp_of_callsT {P : Program} {τ : List (Nat × TI)} {τok : TabOk P τ} {f : FuncId} {args : List SV} {R : SV → Prop} (hcall : callable P f = true) {g : Nat} (hg : P.globalNamed "internal/strconv.uint64pow10" = some g)
  (h : ∀ (X : Nat → Prop) (e : Env) (w : World) (vs : List Value), Lib.TabIs P w "internal/strconv.uint64pow10" .u64 Lib.pow10Tab → RelL X e w args vs → Calls P f vs.toArray w fun en w' => ∃ v r, en = .returned v ∧ R r ∧ r.low 0 = true ∧ (∀ Y, Rel Y e w' r v) ∧ Below w.heap.size w w') :
  FnP false P τ τok f args R:=by
 refine⟨hcall,fun O e w vs hH hr=>(h _ e w vs ?_ hr).mono ?_⟩
 ·obtain⟨_,a,b,hb⟩:=hH.tabs g hg
  have hb:w.heap[g]? = some (.cells (((List.range 20).map fun i=>Value.int .u64 ((10 ^ i:Nat):Int)).toArray) a b):=hb
  show w.var? P _=_
  unfold World.var?
  rw [hg]
  simp only [Option.bind_some,hb]
  kernel_rfl
 rintro en w' ⟨v,r,h1,h2,h3,h4,h5⟩
 refine⟨0,r,[],e,v,⟨rfl,h3,h2⟩,h1,?_,h4 _⟩
 exact { top:=hH.top,heap:=(fun p hp=>nomatch hp),ids:=.nil,nodup:=.nil,mine:=(fun b hb=>nomatch hb),os:=h5.os,tape:=h5.tape,output:=h5.output,drawn:=(fun h=>nomatch h),size:=h5.size,block:=(fun b hb _=>h5.block b hb),obound:=hH.obound,tabs:=hH.tabs,jle:=hH.jle,anchor:=hH.anchor }
def itoaB (n:Int):ByteArray:=⟨(Lib.itoa n).toArray⟩
theorem itoa_fn (n:Int) (h0:-9223372036854775808≤n) (h1:n≤9223372036854775807):Fn 86 [.d (.int .i64 n)] (fun r=>r = .d (.str (itoaB n))):=by
 refine fnp_of_callsT (by kernel_rfl) (g:=1) (by kernel_rfl) fun X e w vs ht hr=>?_
 obtain⟨v1,rfl,hv⟩:∃ v1,vs=[v1]∧Rel X e w (.d (.int .i64 n)) v1:=by
  match vs,hr with
  | [v1],⟨h1,_⟩=>exact⟨v1,rfl,h1⟩
 cases hv
 refine (Any.strconv_Itoa Tryz.laysM171 n h0 h1 w ht).mono ?_
 rintro en w' ⟨h3,k,os,rfl⟩
 have hl:=Lib.itoa_length_le n h0 h1
 have hs:(itoaB n).size≤maxLen:=by
  show (Lib.itoa n).toArray.size≤maxLen
  unfold maxLen
  simp only [List.size_toArray]
  omega
 exact⟨_,_,h3,rfl,rfl,fun _=>.str hs,Lib.below_grow _ w (Nat.le_refl _) k os⟩
end Go.Proofs.YtapciiffpnociabGreatDoor
namespace Go.Proofs.YtapciiffpnociabGreatDoor
open Go Go.RowKit
def flatD (xs:List (List D)):List SV:=xs.flatten.map .d
theorem flatD_len {es:Nat}:∀ {xs:List (List D)},(∀ x∈xs,x.length=es)→(flatD xs).length=xs.length * es
 | [],_=>by simp [flatD]
 | x::xs,h=>by
  have h1:=flatD_len (xs:=xs) fun y hy=>h y (List.mem_cons_of_mem _ hy)
  have h2:=h x (List.mem_cons_self ..)
  simp only [flatD,List.flatten_cons,List.map_append,List.length_append,List.length_map,List.length_cons,Nat.add_mul] at h1 ⊢
  omega
section
variable {P : Program} (w : World)
end
section
variable {Γ : Ctx} {k : Nat} {L : Sl} {H : Hp} {K : Next'} {ops : List Oper} {rest : List Oper} {t t' ty : TypeId} {x y : Operand}
end
end Go.Proofs.YtapciiffpnociabGreatDoor
namespace Go.Proofs.YtapciiffpnociabGreatDoor
open Go Go.RowKit
theorem flat_inv {X e w es}:∀ (xs:List (List D)) (us:List Value),(∀ x∈xs,x.length=es)→RelL X e w (flatD xs) us →
  ∀ i (hi:i < xs.length) j (hj:j < (xs[i]'hi).length),∃ v,us[i * es + j]? = some v∧RepC X w v ((xs[i]'hi)[j]'hj)
 | [],_,_,_,i,hi,_,_=>absurd hi (Nat.not_lt_zero _)
 | x::xs,us,hl,h,i,hi,j,hj=>by
  have hx:x.length=es:=hl x (List.mem_cons_self ..)
  have hcut:∀ (l:List D) (m:List SV) (us:List Value),RelL X e w (l.map .d++m) us→∃ a b,us=a++b∧a.length=l.length∧(∀ j (hj:j < l.length),∃ v,a[j]? = some v∧RepC X w v l[j])∧RelL X e w m b:=by
   intro l
   induction l with
   | nil=>intro m us h;exact⟨[],us,rfl,rfl,fun j hj=>absurd hj (Nat.not_lt_zero _),h⟩
   | cons y l ih =>
    intro m us h
    cases us with
    | nil=>exact h.elim
    | cons u us =>
     obtain⟨h1,h2⟩:=h
     obtain⟨a,b,rfl,q1,q2,q3⟩:=ih m us h2
     refine⟨u::a,b,rfl,by simp [q1],fun j hj=>?_,q3⟩
     cases j with
     | zero=>exact⟨u,rfl,h1⟩
     | succ j=>exact q2 j (Nat.lt_of_succ_lt_succ hj)
  have h':RelL X e w (x.map .d++flatD xs) us:=by
   have:flatD (x::xs)=x.map .d++flatD xs:=by simp [flatD]
   rw [← this];exact h
  obtain⟨a,b,rfl,q1,q2,q3⟩:=hcut x _ _ h'
  cases i with
  | zero =>
   obtain⟨v,hv,hr⟩:=q2 j hj
   have hja:j < a.length:=by rw [q1];exact hj
   refine⟨v,?_,hr⟩
   rw [Nat.zero_mul,Nat.zero_add,List.getElem?_append_left hja]
   exact hv
  | succ i =>
   obtain⟨v,hv,hr⟩:=flat_inv xs b (fun y hy=>hl y (List.mem_cons_of_mem _ hy)) q3 i (Nat.lt_of_succ_lt_succ hi) j hj
   refine⟨v,?_,hr⟩
   have:(i + 1) * es + j=a.length + (i * es + j):=by rw [q1,hx,Nat.succ_mul];omega
   rw [this,List.getElem?_append_right (Nat.le_add_right _ _),Nat.add_sub_cancel_left]
   exact hv
section
variable {Γ : Ctx} {k : Nat} {L : Sl} {H : Hp} {K : Next'} {ops : List Oper} {rest : List Oper} {t ty : TypeId}
theorem ds_bsR {d te es len:Nat} {pos:String} {af:Array Edge} {g:Option (Nat × Bool)} {ps:List (Nat × Operand)} {cs':List SV} (xs:List (List D)) (ht:Γ.sh t = .slice te) (hkn:(Γ.sh te).known=true) (hes:Γ.cells te=es) (hpos:Nat.blt 0 es=true) (hz:zeroOk (tiGet Γ.τ te).zero=true) (hzl:Nat.beq (tiGet Γ.τ te).zero.length (Γ.cells te)=true) (hok:partsOk ps=true)
  (hlen:Nat.ble (len * es) 16777216=true) (hf:fillSV (fun i=>some (i * es,es)) (initSV (zeroSV Γ.τ te) (len * es)) (partsSV L ps)=some cs') (hxs:cs' = flatD xs) (hxl:∀ x∈xs,x.length=es) (hln:xs.length=len) (hw:wantedSV ops L g=some true) (hd:Nat.blt d Γ.n=true)
  (hk:DS false Γ ops rest K (k + 1) ((d,.row k)::L) ((k,.row te es xs)::H)):DS false Γ ops (⟨some d,.buildSlice t len ps.toArray,ty,pos,af,g⟩::rest) K k L H:=by
 subst hxs
 refine dl_run hw fun e a w m=>?_
 obtain⟨vs',f2,f3,hrun⟩:=run_buildSlice (ty:=ty) ht hkn hes hpos hz hzl hok hlen hf m
 unfold Oper.wp
 rw [hrun]
 have hze:¬ e.dom k:=fun h=>lo_not k ((m.top k).1 h)
 have hlm:len≤maxLen:=by
  have h1:=Nat.le_of_ble_eq_true hlen
  have h2:=Nat.le_of_ble_eq_true hpos
  have:len≤len * es:=Nat.le_mul_of_pos_right _ h2
  unfold maxLen;omega
 have hvl:vs'.size=len * es:=by
  have:=RelL.length _ _ f2
  rw [flatD_len hxl,hln] at this
  simpa using this.symm
 have hη:(e.bindRow k (.slice (some ⟨w.heap.size,0,none⟩) len len)).η k = .slice (some ⟨w.heap.size,0,none⟩) len len:=if_pos rfl
 have m2:=(m.new (lo_not k) (hb:=.row te es xs) (e':=e.bindRow k (.slice (some ⟨w.heap.size,0,none⟩) len len)) (w':=w.alloc (.cells vs' te)) (fun i=>or_congr (m.top i) Iff.rfl) (e.bindRow_ext _ _ hze) (below_alloc Γ.dr _ _)
  (fun b hb=>by simp only [HB.owned,hη,Value.ownBlock,Option.some.injEq] at hb;omega) (fun hX=>by
   refine⟨vs'.toList,⟨by rw [hln];simpa using hvl,.inr ⟨w.heap.size,len,vs',by rw [hη,hln],Nat.zero_le _,heap_alloc_new w _,by rw [hln];exact Nat.le_refl _,hlm,hvl,List.take_of_length_le (by rw [Array.length_toList,hvl,hln];exact Nat.le_refl _)⟩⟩,fun i hi=>hxl _ (List.getElem_mem hi),fun v hv=>f3 v (by simpa using hv),?_⟩
   intro i hi j hj
   obtain⟨v,hv,hr⟩:=flat_inv xs _ hxl f2 i hi j hj
   exact⟨v,hv,RepC.keep (below_alloc Γ.dr w (.cells vs' te)).toBelow.size (fun b hb _=>(below_alloc Γ.dr w _).toBelow.block b hb) (fun b hb hy=>hX b hb hy) hr⟩)).cast (with1_lo k)
 exact⟨_,_,_,_,m2.put (s:=.row k) (v:=.slice (some ⟨w.heap.size,0,none⟩) len len) (Nat.le_of_ble_eq_true hd) ⟨.inr rfl,hη.symm,rfl⟩,hk⟩
end
end Go.Proofs.YtapciiffpnociabGreatDoor
namespace Go.Proofs.YtapciiffpnociabGreatDoor
open Go Go.RowKit
def strPs:Nat→List ByteArray→List (Nat × Operand)
 | _,[]=>[]
 | n,w::ws=>(n,.const (.string w))::strPs (n + 1) ws
theorem fill_strs (L:Sl):∀ (ws pre:List ByteArray) (z:SV),fillSV (fun i=>some (i * 1,1)) (pre.map (fun s=>SV.d (.str s))++List.replicate ws.length z) (partsSV L (strPs pre.length ws))=some ((pre++ws).map fun s=>SV.d (.str s))
 | [],pre,z=>by simp [fillSV,partsSV,strPs]
 | w::ws,pre,z=>by
  have ih:=fill_strs L ws (pre++[w]) z
  show fillSV _ _ ((pre.length,SV.d (.str w))::partsSV L (strPs (pre.length + 1) ws))=_
  have hl:(pre++[w]).length=pre.length + 1:=by simp
  rw [hl] at ih
  unfold fillSV
  dsimp only
  have hc:(Nat.beq (SV.d (.str w)).cells.length 1 && ((SV.d (.str w)).isVar && Nat.ble (pre.length * 1 + 1) (pre.map (fun s=>SV.d (.str s))++List.replicate (w::ws).length z).length))=true:=by
   have:Nat.ble (pre.length * 1 + 1) (pre.map (fun s=>SV.d (.str s))++List.replicate (w::ws).length z).length=true:=Nat.ble_eq_true_of_le (by simp)
   rw [this];rfl
  rw [hc]
  dsimp only
  have hs:splice (pre.map (fun s=>SV.d (.str s))++List.replicate (w::ws).length z) (pre.length * 1) (SV.d (.str w)).cells=(pre++[w]).map (fun s=>SV.d (.str s))++List.replicate ws.length z:=by
   unfold splice
   rw [Nat.mul_one]
   have h1:(pre.map (fun s=>SV.d (.str s))++List.replicate (w::ws).length z).take pre.length=pre.map fun s=>SV.d (.str s):=by
    rw [List.take_append_of_le_length (by simp)];rw [List.take_of_length_le (by simp)]
   have h2:(pre.map (fun s=>SV.d (.str s))++List.replicate (w::ws).length z).drop (pre.length + (SV.d (.str w)).cells.length)=List.replicate ws.length z:=by
    show (pre.map (fun s=>SV.d (.str s))++List.replicate (ws.length + 1) z).drop (pre.length + 1)=_
    rw [List.drop_append]
    simp
   rw [h1,h2]
   simp [SV.cells]
  rw [hs,ih]
  simp
theorem rows_strs:∀ (ws:List ByteArray),rowsOf [0] 1 ws.length (ws.map fun s=>SV.d (.str s))=some (ws.map fun s=>[D.str s])
 | []=>rfl
 | w::ws=>by
  show (match toDs [0] [SV.d (.str w)],rowsOf [0] 1 ws.length (ws.map fun s=>SV.d (.str s)) with
   | some x,some xs=>some (x::xs)
   | _,_=>none)=_
  rw [rows_strs ws]
  rfl
section
variable {Γ : Ctx} {k : Nat} {L : Sl} {H : Hp} {K : Next'} {ops : List Oper} {rest : List Oper} {t ty : TypeId}
theorem ds_bsS (ws:List ByteArray) {d te len:Nat} {pos:String} {af:Array Edge} {g:Option (Nat × Bool)} {ps:List (Nat × Operand)} (ht:Γ.sh t = .slice te) (hkn:(Γ.sh te).known=true) (hes:Γ.cells te=1) (hz:zeroOk (tiGet Γ.τ te).zero=true) (hzl:Nat.beq (tiGet Γ.τ te).zero.length (Γ.cells te)=true)
  (hps:ps=strPs 0 ws) (hok:partsOk (strPs 0 ws)=true) (hln:len=ws.length) (hlen:Nat.ble len 16777216=true) (hce:cellEs Γ.τ 4 te=[0]) (hw:wantedSV ops L g=some true) (hd:Nat.blt d Γ.n=true)
  (hk:DS false Γ ops rest K k ((d,.d (.slice 1 (ws.map fun s=>[D.str s])))::L) H):DS false Γ ops (⟨some d,.buildSlice t len ps.toArray,ty,pos,af,g⟩::rest) K k L H:=by
 subst hps
 subst hln
 have hzn:(zeroSV Γ.τ te).length=1:=by
  unfold zeroSV
  rw [List.length_map,Nat.eq_of_beq_eq_true hzl,hes]
 have hini:initSV (zeroSV Γ.τ te) (ws.length * 1)=List.replicate ws.length ((zeroSV Γ.τ te).getD 0 .junk):=by
  unfold initSV
  rw [Nat.mul_one]
  apply List.ext_getElem
  ·simp
  ·intro i h1 h2
   simp [hzn,Nat.mod_one]
 refine dl_buildSlice (cs':=ws.map fun s=>SV.d (.str s)) ht hkn hes rfl hz hzl hok (by rw [Nat.mul_one];exact hlen) ?_ ?_ (by rw [hce];exact rows_strs ws) hw hd hk
 ·rw [hini]
  have:=fill_strs L ws [] ((zeroSV Γ.τ te).getD 0 .junk)
  simpa using this
 ·rw [List.length_map,Nat.mul_one]
  exact Nat.beq_refl _
end
def cmS:ByteArray:=⟨#[44,32]⟩
def showTm (t:TTm):ByteArray:=if t.var=⟨#[]⟩ then itoaB t.n else t.var
abbrev nOk (t:TTm):Prop:=-9999999≤t.n∧t.n≤9999999∧t.var.size≤4294967296
theorem showTm_size {t:TTm} (h:nOk t):(showTm t).size≤4294967296:=by
 unfold showTm
 split
 ·have:=Lib.itoa_length_le t.n (by omega) (by omega)
  show (Lib.itoa t.n).toArray.size≤_
  simp only [List.size_toArray]
  omega
 ·exact h.2.2
def eachS (xs:List ByteArray):ByteArray:=joinB xs cmS
theorem join_size (sep:ByteArray) (hs:sep.size≤2):∀ (xs:List ByteArray) (B:Nat),(∀ x∈xs,x.size≤B)→(joinB xs sep).size≤xs.length * (B + 2)
 | [],B,_=>by simp [joinB,Lib.join,ByteArray.size]
 | [x],B,h=>by
  have:=h x (List.mem_singleton_self x)
  simp only [joinB,Lib.join,List.map_cons,List.map_nil,List.intercalate,List.intersperse,List.flatten,List.length_singleton]
  show (x.data.toList++[]).toArray.size≤_
  simp only [List.append_nil,List.size_toArray,Array.length_toList]
  have:x.data.size=x.size:=rfl
  omega
 | x::y::r,B,h=>by
  have h1:=h x (List.mem_cons_self ..)
  have ih:=join_size sep hs (y::r) B fun z hz=>h z (List.mem_cons_of_mem _ hz)
  have e1:(joinB (x::y::r) sep).size=x.size + sep.size + (joinB (y::r) sep).size:=by
   simp only [joinB,Lib.join,List.map_cons,List.intercalate,List.intersperse,List.flatten_cons,ByteArray.size,List.size_toArray,List.length_append,Array.length_toList]
   omega
  rw [e1,List.length_cons,Nat.succ_mul]
  omega
attribute [local irreducible] DW DS DL DQ Ev FnOk FnP thenD inBlockD DT
set_option maxHeartbeats 8000000 in
theorem sterm_fn (t:TTm) (h:nOk t):Fn 52 [elTTm t] (fun r=>r = .d (.str (showTm t))):=by
 refine fnp_enter' _ Tryz.func52 rfl rfl (by kernel_rfl) ?_
 intro O w0 E0 β0
 have w1:=itoa_fn t.n (by omega) (by omega)
 have hd:showTm t=if t.var=⟨#[]⟩ then itoaB t.n else t.var:=rfl
 by_cases hv:t.var=⟨#[]⟩
 ·rw [if_pos hv] at hd
  rw [hd]
  repeat' (first|refine z0 ?_|apply ds_nil|apply dw_seq2|refine z16 ?_|apply dw_skip|apply dw_ret|apply thenD_n|apply thenD_r|refine z21 ?_ (hc:=by apply w1)|refine z1 ?_|(refine z23 ?_ ?_ <;> intro hg)|fail)
  all_goals try (exfalso;exact hg hv)
  exact⟨.inl rfl,_,rfl,rfl,rfl⟩
 ·rw [if_neg hv] at hd
  rw [hd]
  repeat' (first|refine z0 ?_|apply ds_nil|apply dw_seq2|refine z16 ?_|apply dw_skip|apply dw_ret|apply thenD_n|apply thenD_r|refine z21 ?_ (hc:=by apply w1)|refine z1 ?_|(refine z23 ?_ ?_ <;> intro hg)|fail)
  all_goals try (exfalso;exact hg hv)
  all_goals try (exfalso;exact hv (Classical.not_not.1 hg))
  exact⟨.inl rfl,_,rfl,rfl,rfl⟩
set_option maxHeartbeats 8000000 in
theorem eachTm_fn (l:List TTm) (hl:l.length≤16) (hok:∀ t∈l,nOk t):Fn 51 [.d (.slice 2 (l.map encTTm)),.fn 52 []] (fun r=>r = .d (.str (eachS (l.map showTm)))):=by
 refine fnp_enter' _ Tryz.func51 rfl rfl (by kernel_rfl) ?_
 intro O w0 E0 β0
 have ll:(l.map encTTm).length=l.length:=List.length_map _
 repeat' (first|refine z0 ?_|apply ds_nil|apply dw_seq2|refine z16 ?_|apply dw_block|apply thenD_n)
 refine dw_ent (ent_nilrow (t:=5) 9 1 rfl) ?_
 repeat' fail
 refine ds_loop (ι:=Nat) (fun i=>⟨1,[(1,.fn 52 []),(5,.row 0),(8,.d (.slice 2 (l.map encTTm))),(9,.d (.int .i64 l.length)),(10,.d (.int .i64 i))],[(0,.row 9 1 ((l.take i).map fun t=>encT (showTm t)))]⟩)
  (fun i=>i≤l.length) (fun i=>l.length - i) 0 (Nat.zero_le _) (ent_ren id ⟨rfl,rfl,rfl,by rw [← ll];rfl,rfl,trivial⟩ ⟨rfl,trivial⟩ rfl rfl rfl rfl rfl rfl) ?_
 intro i hle
 dsimp only at hle ⊢
 by_cases hi:i < l.length
 ·have w1:Fn 52 ([elTTm l[i]]++[]) _:=sterm_fn l[i] (hok _ (List.getElem_mem hi))
  have lt:((l.take i).map fun t=>encT (showTm t)).length=i:=by rw [List.length_map,List.length_take];omega
  have hst:(l.take (i + 1)).map (fun t=>encT (showTm t))=(l.take i).map (fun t=>encT (showTm t))++[encT (showTm l[i])]:=by rw [List.take_succ_eq_append_getElem hi,List.map_append];rfl
  repeat' (first|refine z0 ?_|apply ds_nil|apply dw_seq2|refine z16 ?_|apply dw_block|apply dw_skip|apply dw_exit|apply thenD_n|apply thenD_e|apply inB_n|refine z17 ?_|(apply ds_callV;exact rfl;exact rfl;exact rfl;exact rfl;apply w1;exact rfl;(exact rfl);exact rfl;rintro _ rfl)|refine z1 ?_|refine z3 ?_|refine z4 ?_|refine z2 ?_|(refine z23 ?_ ?_ <;> intro hg)|fail)
  all_goals try (exfalso;omega)
  exact⟨i + 1,hi,ent_ren (fun j=>match j with|0=>_|j=>j) ⟨rfl,rfl,rfl,rfl,rfl,trivial⟩ ⟨by rw [hst];rfl,trivial⟩ rfl rfl rfl rfl rfl rfl,by omega⟩
 ·rw [List.take_of_length_le (by omega)]
  have hs:=join_size cmS (by decide) (l.map showTm) 4294967296 (fun x hx=>by
   obtain⟨t,ht,rfl⟩:=List.mem_map.1 hx
   exact showTm_size (hok t ht))
  rw [List.length_map] at hs
  have hs2:(joinB (l.map showTm) cmS).size≤140737488355328:=by
   have:l.length * (4294967296 + 2)≤16 * (4294967296 + 2):=Nat.mul_le_mul_right _ hl
   omega
  have w1:=join_fn (l.map showTm) cmS (by rw [List.length_map];omega) hs2
  rw [show encStrs (l.map showTm)=l.map (fun t=>encT (showTm t)) from List.map_map ..] at w1
  repeat' ((fail_if_success (apply dw_stopS 7));(first|refine z0 ?_|apply ds_nil|apply dw_seq2|refine z16 ?_|apply dw_block|apply dw_skip|apply dw_exit|apply thenD_n|apply thenD_e|refine z17 ?_|refine z1 ?_|refine z3 ?_|(refine z23 ?_ ?_ <;> intro hg)|fail))
  all_goals try (exfalso;omega)
  refine dw_ent (ent_seal 5 rfl rfl rfl) ?_
  repeat' (first|refine z0 ?_|apply ds_nil|apply dw_seq2|refine z16 ?_|apply dw_ret|apply thenD_n|refine z21 ?_ (hc:=by apply w1)|fail)
  exact⟨.inl rfl,_,rfl,rfl,rfl⟩
end Go.Proofs.YtapciiffpnociabGreatDoor
namespace Go.Proofs.YtapciiffpnociabGreatDoor
open Go Go.RowKit
theorem itoaB_nat (u:Nat):itoaB (u:Int)=⟨(Lib.decDigits u).toArray⟩:=by
 unfold itoaB Lib.itoa
 rw [if_neg (by omega),Int.toNat_natCast]
theorem itoaB_lt {u:Nat} (h:u < 10):itoaB (u:Int)=⟨#[UInt8.ofNat (48 + u)]⟩:=by
 rw [itoaB_nat]
 unfold Lib.decDigits
 rw [dif_pos h]
theorem itoaB_ge {u:Nat} (h:¬ u < 10):itoaB (u:Int)=itoaB ((u / 10:Nat):Int)++itoaB ((u % 10:Nat):Int):=by
 rw [itoaB_lt (u:=u % 10) (by omega),itoaB_nat u,itoaB_nat (u / 10)]
 conv=>lhs;unfold Lib.decDigits
 rw [dif_neg h]
 apply ByteArray.ext
 simp
theorem itoaB_neg {u:Nat} (h:0 < u):itoaB (-(u:Int))=⟨#[45]⟩++itoaB (u:Int):=by
 rw [itoaB_nat]
 unfold itoaB Lib.itoa
 rw [if_pos (by omega)]
 have:(-(u:Int)).natAbs=u:=by omega
 rw [this]
 apply ByteArray.ext
 simp
theorem itoaB_size {n:Int} (h0:-9999999≤n) (h1:n≤9999999):(itoaB n).size≤21:=by
 have:=Lib.itoa_length_le n (by omega) (by omega)
 show (Lib.itoa n).toArray.size≤_
 simp only [List.size_toArray]
 omega
theorem byte_lt:∀ u:Fin 10,bytesD [[.int .u8 (IntKind.u8.wrap (48 + ((u.val:Nat):Int)))]]=⟨#[UInt8.ofNat (48 + u.val)]⟩:=by decide
section
variable {Γ : Ctx} {k : Nat → Prop} {L : Sl} {H : Hp}
theorem ev_neg {t ty:TypeId} {x:Operand} {n:Int} (_:Γ.sh t = .int .i64) (hx:opSV L x = .d (.int .i64 n)) (h0:-9223372036854775808≤-n) (h1:-n≤9223372036854775807):Ev Γ k L H (.unOp .neg t x) ty (.d (.int .i64 (-n))):=by
 intro e a w m
 refine⟨.int .i64 (-n),fun _ _ _ _ w' _=>?_,.int (WalkArith.wf_i64 ⟨h0,h1⟩)⟩
 have hv:=evI m hx
 have hw:IntKind.i64.wrap (-n) = -n:=IntWalk.i64_in _ ⟨h0,h1⟩
 have hr:(Op.unary .neg (.int .i64 n)).run Γ.P w' = .ok (.int .i64 (-n)) w':=by
  unfold Op.unary Op.intArith
  simp [hw]
 simp [execOp,hv,hr]
end
attribute [local irreducible] DW DS DL DQ Ev FnOk FnP thenD inBlockD DT
set_option maxHeartbeats 8000000 in
theorem digits_nat (u:Nat) (hu:u≤9999999):Fn 56 [.d (.int .i64 u)] (fun r=>r = .d (.str (itoaB u))):=by
 induction u using Nat.strongRecOn with
 | _ u ih =>
 refine fnp_enter' _ Tryz.func56 rfl rfl (by kernel_rfl) ?_
 intro O w0 E0 β0
 by_cases h:u < 10
 ·rw [itoaB_lt h]
  rw [← byte_lt ⟨u,h⟩]
  repeat' (first|refine z0 ?_|apply ds_nil|apply dw_seq2|refine z16 ?_|apply dw_skip|apply dw_ret|refine z19 ?_|apply thenD_n|apply thenD_r|refine z4 ?_|(refine z23 ?_ ?_ <;> intro hg)|fail)
  all_goals try (exfalso;omega)
  exact⟨.inl rfl,_,rfl,rfl,rfl⟩
 ·have w1:=ih (u / 10) (by omega) (by omega)
  have w2:=ih (u % 10) (by omega) (by omega)
  have yz1:=itoaB_size (n:=((u / 10:Nat):Int)) (by omega) (by omega)
  have yz2:=itoaB_size (n:=((u % 10:Nat):Int)) (by omega) (by omega)
  rw [itoaB_ge h]
  generalize itoaB ((u / 10:Nat):Int)=A at *
  generalize itoaB ((u % 10:Nat):Int)=B at *
  have e1:(u:Int).tdiv 10=((u / 10:Nat):Int):=by rfl
  have e2:(u:Int).tmod 10=((u % 10:Nat):Int):=by rfl
  rw [← e1] at w1
  rw [← e2] at w2
  repeat' (first|refine z0 ?_|apply ds_nil|apply dw_seq2|refine z16 ?_|apply dw_skip|apply dw_ret|refine z19 ?_|apply thenD_n|apply thenD_r|refine z21 ?_ (hc:=by apply w1)|refine z21 ?_ (hc:=by apply w2)|refine z4 ?_|(refine z23 ?_ ?_ <;> intro hg)|fail)
  all_goals try (exfalso;omega)
  exact⟨.inl rfl,_,rfl,rfl,rfl⟩
set_option maxHeartbeats 8000000 in
theorem digits_fn (n:Int) (h0:-9999999≤n) (h1:n≤9999999):Fn 56 [.d (.int .i64 n)] (fun r=>r = .d (.str (itoaB n))):=by
 by_cases hn:0≤n
 ·obtain⟨u,rfl⟩:=Int.eq_ofNat_of_zero_le hn
  exact digits_nat u (by omega)
 ·obtain⟨u,rfl⟩:∃ u:Nat,n = -(u:Int):=⟨n.natAbs,by omega⟩
  refine fnp_enter' _ Tryz.func56 rfl rfl (by kernel_rfl) ?_
  intro O w0 E0 β0
  have s45:(⟨#[45]⟩:ByteArray).size=1:=rfl
  rw [itoaB_neg (by omega)]
  by_cases h:u < 10
  ·have w1:=digits_nat u (by omega)
   have yz1:=itoaB_size (n:=(u:Int)) (by omega) (by omega)
   generalize itoaB (u:Int)=A at *
   repeat' (first|refine z0 ?_|apply ds_nil|apply dw_seq2|refine z16 ?_|apply dw_skip|apply thenD_n|refine z4 ?_|(refine z23 ?_ ?_ <;> intro hg)|fail)
   all_goals try (exfalso;omega)
   refine ds_ev (s:=.d (.int .i64 u)) (by have h:=fun Γ k L H (x:Operand) h1 h2=>@ev_neg Γ k L H 3 3 x (-(u:Int)) h1 h2 (by omega) (by omega);simp only [Int.neg_neg] at h;exact h _ _ _ _ _ rfl rfl) rfl rfl ?_
   repeat' (first|refine z0 ?_|apply ds_nil|apply dw_ret|apply thenD_n|apply thenD_r|refine z21 ?_ (hc:=by apply w1)|fail)
   all_goals try (exfalso;omega)
   exact⟨.inl rfl,_,rfl,rfl,rfl⟩
  ·have w1:=digits_nat (u / 10) (by omega)
   have w2:=digits_nat (u % 10) (by omega)
   have yz1:=itoaB_size (n:=((u / 10:Nat):Int)) (by omega) (by omega)
   have yz2:=itoaB_size (n:=((u % 10:Nat):Int)) (by omega) (by omega)
   rw [itoaB_ge h]
   generalize itoaB ((u / 10:Nat):Int)=A at *
   generalize itoaB ((u % 10:Nat):Int)=B at *
   have e1:-((-(u:Int)).tdiv 10)=((u / 10:Nat):Int):=by rw [Int.neg_tdiv,Int.neg_neg];rfl
   have e2:-((-(u:Int)).tmod 10)=((u % 10:Nat):Int):=by rw [Int.neg_tmod,Int.neg_neg];rfl
   rw [← e1] at w1
   rw [← e2] at w2
   repeat' (first|refine z0 ?_|apply ds_nil|apply dw_seq2|refine z16 ?_|apply dw_skip|apply thenD_n|refine z4 ?_|(refine z23 ?_ ?_ <;> intro hg)|fail)
   all_goals try (exfalso;omega)
   refine ds_ev (ev_neg (n:=(-(u:Int)).tdiv 10) rfl rfl (by rw [e1];omega) (by rw [e1];omega)) rfl rfl ?_
   repeat' (first|refine z0 ?_|refine z21 ?_ (hc:=by apply w1)|fail)
   all_goals try (exfalso;omega)
   refine ds_ev (ev_neg (n:=(-(u:Int)).tmod 10) rfl rfl (by rw [e2];omega) (by rw [e2];omega)) rfl rfl ?_
   repeat' (first|refine z0 ?_|apply ds_nil|apply dw_ret|apply thenD_n|apply thenD_r|refine z21 ?_ (hc:=by apply w2)|fail)
   all_goals try (exfalso;omega)
   rw [ByteArray.append_assoc]
   exact⟨.inl rfl,_,rfl,rfl,rfl⟩
set_option maxHeartbeats 8000000 in
theorem termText_fn (t:TTm) (h:nOk t):Fn 30 [elTTm t] (fun r=>r = .d (.str (showTm t))):=by
 refine fnp_enter' _ Tryz.func30 rfl rfl (by kernel_rfl) ?_
 intro O w0 E0 β0
 have w1:=digits_fn t.n h.1 h.2.1
 have hd:showTm t=if t.var=⟨#[]⟩ then itoaB t.n else t.var:=rfl
 by_cases hv:t.var=⟨#[]⟩
 ·rw [if_pos hv] at hd
  rw [hd]
  repeat' (first|refine z0 ?_|apply ds_nil|apply dw_seq2|refine z16 ?_|apply dw_skip|apply dw_ret|apply thenD_n|apply thenD_r|refine z21 ?_ (hc:=by apply w1)|refine z1 ?_|(refine z23 ?_ ?_ <;> intro hg)|fail)
  all_goals try (exfalso;exact hg hv)
  exact⟨.inl rfl,_,rfl,rfl,rfl⟩
 ·rw [if_neg hv] at hd
  rw [hd]
  repeat' (first|refine z0 ?_|apply ds_nil|apply dw_seq2|refine z16 ?_|apply dw_skip|apply dw_ret|apply thenD_n|apply thenD_r|refine z21 ?_ (hc:=by apply w1)|refine z1 ?_|(refine z23 ?_ ?_ <;> intro hg)|fail)
  all_goals try (exfalso;exact hg hv)
  all_goals try (exfalso;exact hv (Classical.not_not.1 hg))
  exact⟨.inl rfl,_,rfl,rfl,rfl⟩
theorem eachTm_size (l:List TTm) (hl:l.length≤16) (hok:∀ t∈l,nOk t):(eachS (l.map showTm)).size≤68719476768:=by
 have hs:=join_size cmS (by decide) (l.map showTm) 4294967296 (fun x hx=>by
  obtain⟨t,ht,rfl⟩:=List.mem_map.1 hx
  exact showTm_size (hok t ht))
 rw [List.length_map] at hs
 have:l.length * (4294967296 + 2)≤16 * (4294967296 + 2):=Nat.mul_le_mul_right _ hl
 exact Nat.le_trans hs (Nat.le_trans this (by decide))
def atomS (name:ByteArray) (l:List TTm) (fold:Int):ByteArray :=
 if fold=0 then name++⟨#[40]⟩++eachS (l.map showTm)++⟨#[41]⟩
 else name++⟨#[40]⟩++(if 1 < l.length then eachS ((l.take (l.length - 1)).map showTm)++cmS else eachS ((l.take (l.length - 1)).map showTm))++wordsL.getD fold.toNat ⟨#[]⟩++⟨#[32]⟩++showTm (l.getD (l.length - 1) ⟨⟨#[]⟩,0⟩)++⟨#[41]⟩
set_option maxHeartbeats 8000000 in
theorem satom_fn (name:ByteArray) (l:List TTm) (fold:Int) (hl:l.length≤16) (hok:∀ t∈l,nOk t) (hn:name.size≤4294967296) (hf:fold=0∨(1≤fold∧fold≤4∧0 < l.length)):Fn 22 [.d (.str name),.d (.slice 2 (l.map encTTm)),.d (.int .i64 fold)] (fun r=>r = .d (.str (atomS name l fold))):=by
 refine fnp_enter' _ Tryz.func22 rfl rfl (by kernel_rfl) ?_
 intro O w0 E0 β0
 have ll:(l.map encTTm).length=l.length:=List.length_map _
 have s40:(⟨#[40]⟩:ByteArray).size=1:=rfl
 have s41:(⟨#[41]⟩:ByteArray).size=1:=rfl
 have s32:(⟨#[32]⟩:ByteArray).size=1:=rfl
 have scm:(⟨#[44,32]⟩:ByteArray).size=2:=rfl
 have hd:atomS name l fold=if fold=0 then name++⟨#[40]⟩++eachS (l.map showTm)++⟨#[41]⟩
  else name++⟨#[40]⟩++(if 1 < l.length then eachS ((l.take (l.length - 1)).map showTm)++cmS else eachS ((l.take (l.length - 1)).map showTm))++wordsL.getD fold.toNat ⟨#[]⟩++⟨#[32]⟩++showTm (l.getD (l.length - 1) ⟨⟨#[]⟩,0⟩)++⟨#[41]⟩:=rfl
 rw [hd]
 by_cases h0:fold=0
 ·subst h0
  rw [if_pos rfl]
  have w1:=eachTm_fn l hl hok
  have hs:=eachTm_size l hl hok
  generalize eachS (l.map showTm)=E at *
  repeat' (first|refine z0 ?_|apply ds_nil|apply dw_seq2|refine z16 ?_|apply dw_ret|refine z18 ?_|apply thenD_n|apply thenD_r|refine z21 ?_ (hc:=by apply w1)|fail)
  all_goals try (exfalso;omega)
  exact⟨.inl rfl,_,rfl,rfl,rfl⟩
 ·rw [if_neg h0]
  obtain⟨f1,f2,f3⟩:1≤fold∧fold≤4∧0 < l.length:=by rcases hf with h|h;exact absurd h h0;exact h
  have hok2:∀ t∈l.take (l.length - 1),nOk t:=fun t ht=>hok t (List.mem_of_mem_take ht)
  have hl2:(l.take (l.length - 1)).length≤16:=by rw [List.length_take];omega
  have w1:=eachTm_fn (l.take (l.length - 1)) hl2 hok2
  have hs:=eachTm_size (l.take (l.length - 1)) hl2 hok2
  generalize eachS ((l.take (l.length - 1)).map showTm)=E at *
  have e1:(((l.map encTTm).length:Int) - 1).toNat=l.length - 1:=by rw [ll];omega
  have hlast:(((l.map encTTm).length:Int) - 1).toNat < l.length:=by omega
  have hg:l.getD (l.length - 1) ⟨⟨#[]⟩,0⟩=l[(((l.map encTTm).length:Int) - 1).toNat]:=by rw [← e1,List.getD_eq_getElem?_getD,List.getElem?_eq_getElem hlast];rfl
  rw [hg]
  have w2:=sterm_fn l[(((l.map encTTm).length:Int) - 1).toNat] (hok _ (List.getElem_mem hlast))
  have hs2:=showTm_size (hok _ (List.getElem_mem hlast))
  generalize showTm l[(((l.map encTTm).length:Int) - 1).toNat]=T at *
  rw [← e1] at w1
  clear hg hd
  have hw:∀ x∈wordsL,x.size≤5:=by decide
  have hfw:fold.toNat < wordsL.length:=by show fold.toNat < 5;omega
  have hgw:wordsL.getD fold.toNat ⟨#[]⟩=wordsL[fold.toNat]:=by rw [List.getD_eq_getElem?_getD,List.getElem?_eq_getElem hfw];rfl
  rw [hgw]
  have hw2:=hw _ (List.getElem_mem hfw)
  by_cases h1:1 < l.length
  ·rw [if_pos h1]
   repeat' (first|(apply ds_slD;exact rfl;exact rfl;exact rfl;exact rfl;exact rfl;exact rfl;(refine⟨?_,?_,?_⟩ <;> (omega));((with_reducible apply hv_take);(exact (Int.toNat_of_nonneg (by omega)).symm));exact rfl;exact rfl)|refine z0 ?_|apply ds_nil|refine z5 ?_|refine z10 ?_|apply dw_seq2|refine z16 ?_|refine z20 ?_|apply dw_skip|apply dw_ret|apply thenD_n|refine z21 ?_ (hc:=by apply w1)|refine z22 ?_ (hc:=by apply w2)|refine z22 ?_ (hc:=by apply words_fn)|(refine z23 ?_ ?_ <;> intro hg)|fail)
   all_goals try (exfalso;omega)
   exact⟨.inl rfl,_,rfl,rfl,rfl⟩
  ·rw [if_neg h1]
   repeat' (first|(apply ds_slD;exact rfl;exact rfl;exact rfl;exact rfl;exact rfl;exact rfl;(refine⟨?_,?_,?_⟩ <;> (omega));((with_reducible apply hv_take);(exact (Int.toNat_of_nonneg (by omega)).symm));exact rfl;exact rfl)|refine z0 ?_|apply ds_nil|refine z5 ?_|refine z10 ?_|apply dw_seq2|refine z16 ?_|refine z20 ?_|apply dw_skip|apply dw_ret|apply thenD_n|refine z21 ?_ (hc:=by apply w1)|refine z22 ?_ (hc:=by apply w2)|refine z22 ?_ (hc:=by apply words_fn)|(refine z23 ?_ ?_ <;> intro hg)|fail)
   all_goals try (exfalso;omega)
   exact⟨.inl rfl,_,rfl,rfl,rfl⟩
end Go.Proofs.YtapciiffpnociabGreatDoor
