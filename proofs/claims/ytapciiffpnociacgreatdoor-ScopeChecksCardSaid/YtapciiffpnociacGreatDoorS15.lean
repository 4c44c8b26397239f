/- Several texts in one: TreK ScrC TreJ TreN. Condition: none. -/
import Derived.Test.YtapciiffpnociacGreatDoorS10
import Derived.Test.YtapciiffpnociacGreatDoorS14
import Derived.Test.YtapciiffpnociacGreatDoorS13
import Derived.Test.YtapciiffpnociacGreatDoorS11
import Derived.Test.YtapciiffpnociacGreatDoorS12
namespace Go.Proofs.YtapciiffpnociacGreatDoor
open Go Go.RowKit
abbrev elTTm (t:TTm):SV:=.agg [.d (.str t.var),.d (.int .i64 t.n)]
abbrev elTLt (x:TLt):SV:=.agg [.d (.int .i64 x.kind),.d (.int .i64 x.at_),.d (.int .i64 x.op),.d (.str x.name),.d (.slice 2 (x.terms.map encTTm))]
abbrev elTRu (x:TRu):SV:=.agg [.d (.int .i64 x.at_),.d (.str x.name),.d (.slice 2 (x.terms.map encTTm)),.d (.int .i64 x.fold),.d (.slice 5 (x.body.map encTLt))]
attribute [local irreducible] DW DS DL DQ Ev FnOk FnP thenD inBlockD DT
set_option maxHeartbeats 8000000 in
theorem indexTm_fn {f:FuncId} {caps:List SV} (p:TTm→Bool) (l:List (TTm)) (hcap:SV.lowL 0 caps=true) (hp:∀ x∈l,Fn f (elTTm x::caps) (fun r=>r = .d (.bool (p x)))):Fn 112 [.d (.slice 2 (l.map encTTm)),.fn f caps] (fun r=>r = .d (.int .i64 (idxF p l))):=by
 refine fnp_enter' _ Tryz.func112 rfl rfl (by kernel_rfl) ?_
 intro O w0 E0 β0
 refine dw_len_map (t:=0) rfl fun hb=>?_
 repeat' (first|refine z0 ?_|apply ds_nil|apply dw_seq2|refine z16 ?_|apply dw_block|apply thenD_n)
 refine ds_loop (ι:=Nat) (fun i=>⟨0,[(0,.d (.slice 2 (l.map encTTm))),(1,.fn f caps),(7,.d (.int .i64 l.length)),(8,.d (.int .i64 i))],[]⟩)
  (fun i=>i≤l.length∧∀ j (hj:j < l.length),j < i→p l[j]=false) (fun i=>l.length - i) 0 ⟨Nat.zero_le _,fun j _ h=>absurd h (Nat.not_lt_zero j)⟩
  (ent_ren id ⟨rfl,congrArg (SV.fn f) (SV.renL_id caps).symm,by simp;rfl,rfl,trivial⟩ trivial (by simp [Sl.low,SV.low,hcap]) rfl rfl rfl rfl rfl) ?_
 rintro i ⟨h1,h2⟩
 repeat' (first|refine z0 ?_|apply ds_nil|apply dw_seq2|refine z16 ?_|apply thenD_n)
 refine dw_condP rfl (fun h=>?_) (fun h=>?_)
 ·have hi:i < l.length:=by omega
  have hpx:=hp l[i] (List.getElem_mem hi)
  repeat' (first|refine z0 ?_|apply ds_nil|apply dw_seq2|refine z16 ?_|apply dw_block|apply dw_skip|apply thenD_n|(apply ds_callV;exact rfl;exact rfl;exact rfl;exact rfl;apply hpx;exact rfl;(assumption);exact rfl;rintro _ rfl))
  refine dw_cond rfl (fun hb=>?_) (fun hb=>?_)
  ·repeat' (first|refine z0 ?_|apply ds_nil|apply dw_seq2|refine z16 ?_|apply dw_ret|apply thenD_n|apply thenD_r|apply inB_r)
   exact ret_i rfl (idxF_hit h2 hi hb).symm
  ·repeat' (first|refine z0 ?_|apply ds_nil|refine z16 ?_|apply dw_skip|apply thenD_n|apply inB_n)
   exact⟨i + 1,⟨hi,none_step h2 hi hb⟩,ent_ren id ⟨rfl,congrArg (SV.fn f) (SV.renL_id caps).symm,rfl,rfl,trivial⟩ trivial (by simp [Sl.low,SV.low,hcap]) rfl rfl rfl rfl rfl,by omega⟩
 ·repeat' (first|refine z0 ?_|apply ds_nil|apply dw_seq2|refine z16 ?_|apply dw_exit|apply dw_ret|apply thenD_n|apply thenD_e|refine z17 ?_|fail)
  exact ret_i rfl (idxF_none fun j hj=>h2 j hj (by omega)).symm
set_option maxHeartbeats 8000000 in
theorem containsTm_fn {f:FuncId} {caps:List SV} (p:TTm→Bool) (l:List (TTm)) (hcap:SV.lowL 0 caps=true) (hp:∀ x∈l,Fn f (elTTm x::caps) (fun r=>r = .d (.bool (p x)))):Fn 91 [.d (.slice 2 (l.map encTTm)),.fn f caps] (fun r=>r = .d (.bool (l.any p))):=by
 refine fnp_enter' _ Tryz.func91 rfl rfl (by kernel_rfl) ?_
 intro O w0 E0 β0
 have hx:=indexTm_fn p l hcap hp
 have hlow:SV.lowL 0 [.d (.slice 2 (l.map encTTm)),.fn f caps]=true:=by simp [SV.lowL,SV.low,hcap]
 repeat' (first|refine z0 ?_|apply ds_nil|apply dw_seq2|refine z16 ?_|apply dw_ret|apply thenD_n|refine z21 ?_ (hc:=by apply hx)|fail)
 exact ret_b rfl (idxF_any p l)
set_option maxHeartbeats 8000000 in
theorem indexTl_fn {f:FuncId} {caps:List SV} (p:TLt→Bool) (l:List (TLt)) (hcap:SV.lowL 0 caps=true) (hp:∀ x∈l,Fn f (elTLt x::caps) (fun r=>r = .d (.bool (p x)))):Fn 90 [.d (.slice 5 (l.map encTLt)),.fn f caps] (fun r=>r = .d (.int .i64 (idxF p l))):=by
 refine fnp_enter' _ Tryz.func90 rfl rfl (by kernel_rfl) ?_
 intro O w0 E0 β0
 refine dw_len_map (t:=0) rfl fun hb=>?_
 repeat' (first|refine z0 ?_|apply ds_nil|apply dw_seq2|refine z16 ?_|apply dw_block|apply thenD_n)
 refine ds_loop (ι:=Nat) (fun i=>⟨0,[(0,.d (.slice 5 (l.map encTLt))),(1,.fn f caps),(7,.d (.int .i64 l.length)),(8,.d (.int .i64 i))],[]⟩)
  (fun i=>i≤l.length∧∀ j (hj:j < l.length),j < i→p l[j]=false) (fun i=>l.length - i) 0 ⟨Nat.zero_le _,fun j _ h=>absurd h (Nat.not_lt_zero j)⟩
  (ent_ren id ⟨rfl,congrArg (SV.fn f) (SV.renL_id caps).symm,by simp;rfl,rfl,trivial⟩ trivial (by simp [Sl.low,SV.low,hcap]) rfl rfl rfl rfl rfl) ?_
 rintro i ⟨h1,h2⟩
 repeat' (first|refine z0 ?_|apply ds_nil|apply dw_seq2|refine z16 ?_|apply thenD_n)
 refine dw_condP rfl (fun h=>?_) (fun h=>?_)
 ·have hi:i < l.length:=by omega
  have hpx:=hp l[i] (List.getElem_mem hi)
  repeat' (first|refine z0 ?_|apply ds_nil|apply dw_seq2|refine z16 ?_|apply dw_block|apply dw_skip|apply thenD_n|(apply ds_callV;exact rfl;exact rfl;exact rfl;exact rfl;apply hpx;exact rfl;(assumption);exact rfl;rintro _ rfl))
  refine dw_cond rfl (fun hb=>?_) (fun hb=>?_)
  ·repeat' (first|refine z0 ?_|apply ds_nil|apply dw_seq2|refine z16 ?_|apply dw_ret|apply thenD_n|apply thenD_r|apply inB_r)
   exact ret_i rfl (idxF_hit h2 hi hb).symm
  ·repeat' (first|refine z0 ?_|apply ds_nil|refine z16 ?_|apply dw_skip|apply thenD_n|apply inB_n)
   exact⟨i + 1,⟨hi,none_step h2 hi hb⟩,ent_ren id ⟨rfl,congrArg (SV.fn f) (SV.renL_id caps).symm,rfl,rfl,trivial⟩ trivial (by simp [Sl.low,SV.low,hcap]) rfl rfl rfl rfl rfl,by omega⟩
 ·repeat' (first|refine z0 ?_|apply ds_nil|apply dw_seq2|refine z16 ?_|apply dw_exit|apply dw_ret|apply thenD_n|apply thenD_e|refine z17 ?_|fail)
  exact ret_i rfl (idxF_none fun j hj=>h2 j hj (by omega)).symm
set_option maxHeartbeats 8000000 in
theorem containsTl_fn {f:FuncId} {caps:List SV} (p:TLt→Bool) (l:List (TLt)) (hcap:SV.lowL 0 caps=true) (hp:∀ x∈l,Fn f (elTLt x::caps) (fun r=>r = .d (.bool (p x)))):Fn 75 [.d (.slice 5 (l.map encTLt)),.fn f caps] (fun r=>r = .d (.bool (l.any p))):=by
 refine fnp_enter' _ Tryz.func75 rfl rfl (by kernel_rfl) ?_
 intro O w0 E0 β0
 have hx:=indexTl_fn p l hcap hp
 have hlow:SV.lowL 0 [.d (.slice 5 (l.map encTLt)),.fn f caps]=true:=by simp [SV.lowL,SV.low,hcap]
 repeat' (first|refine z0 ?_|apply ds_nil|apply dw_seq2|refine z16 ?_|apply dw_ret|apply thenD_n|refine z21 ?_ (hc:=by apply hx)|fail)
 exact ret_b rfl (idxF_any p l)
set_option maxHeartbeats 8000000 in
theorem indexTr_fn {f:FuncId} {caps:List SV} (p:TRu→Bool) (l:List (TRu)) (hcap:SV.lowL 0 caps=true) (hp:∀ x∈l,Fn f (elTRu x::caps) (fun r=>r = .d (.bool (p x)))):Fn 74 [.d (.slice 5 (l.map encTRu)),.fn f caps] (fun r=>r = .d (.int .i64 (idxF p l))):=by
 refine fnp_enter' _ Tryz.func74 rfl rfl (by kernel_rfl) ?_
 intro O w0 E0 β0
 refine dw_len_map (t:=0) rfl fun hb=>?_
 repeat' (first|refine z0 ?_|apply ds_nil|apply dw_seq2|refine z16 ?_|apply dw_block|apply thenD_n)
 refine ds_loop (ι:=Nat) (fun i=>⟨0,[(0,.d (.slice 5 (l.map encTRu))),(1,.fn f caps),(7,.d (.int .i64 l.length)),(8,.d (.int .i64 i))],[]⟩)
  (fun i=>i≤l.length∧∀ j (hj:j < l.length),j < i→p l[j]=false) (fun i=>l.length - i) 0 ⟨Nat.zero_le _,fun j _ h=>absurd h (Nat.not_lt_zero j)⟩
  (ent_ren id ⟨rfl,congrArg (SV.fn f) (SV.renL_id caps).symm,by simp;rfl,rfl,trivial⟩ trivial (by simp [Sl.low,SV.low,hcap]) rfl rfl rfl rfl rfl) ?_
 rintro i ⟨h1,h2⟩
 repeat' (first|refine z0 ?_|apply ds_nil|apply dw_seq2|refine z16 ?_|apply thenD_n)
 refine dw_condP rfl (fun h=>?_) (fun h=>?_)
 ·have hi:i < l.length:=by omega
  have hpx:=hp l[i] (List.getElem_mem hi)
  repeat' (first|refine z0 ?_|apply ds_nil|apply dw_seq2|refine z16 ?_|apply dw_block|apply dw_skip|apply thenD_n|(apply ds_callV;exact rfl;exact rfl;exact rfl;exact rfl;apply hpx;exact rfl;(assumption);exact rfl;rintro _ rfl))
  refine dw_cond rfl (fun hb=>?_) (fun hb=>?_)
  ·repeat' (first|refine z0 ?_|apply ds_nil|apply dw_seq2|refine z16 ?_|apply dw_ret|apply thenD_n|apply thenD_r|apply inB_r)
   exact ret_i rfl (idxF_hit h2 hi hb).symm
  ·repeat' (first|refine z0 ?_|apply ds_nil|refine z16 ?_|apply dw_skip|apply thenD_n|apply inB_n)
   exact⟨i + 1,⟨hi,none_step h2 hi hb⟩,ent_ren id ⟨rfl,congrArg (SV.fn f) (SV.renL_id caps).symm,rfl,rfl,trivial⟩ trivial (by simp [Sl.low,SV.low,hcap]) rfl rfl rfl rfl rfl,by omega⟩
 ·repeat' (first|refine z0 ?_|apply ds_nil|apply dw_seq2|refine z16 ?_|apply dw_exit|apply dw_ret|apply thenD_n|apply thenD_e|refine z17 ?_|fail)
  exact ret_i rfl (idxF_none fun j hj=>h2 j hj (by omega)).symm
set_option maxHeartbeats 8000000 in
theorem containsTr_fn {f:FuncId} {caps:List SV} (p:TRu→Bool) (l:List (TRu)) (hcap:SV.lowL 0 caps=true) (hp:∀ x∈l,Fn f (elTRu x::caps) (fun r=>r = .d (.bool (p x)))):Fn 53 [.d (.slice 5 (l.map encTRu)),.fn f caps] (fun r=>r = .d (.bool (l.any p))):=by
 refine fnp_enter' _ Tryz.func53 rfl rfl (by kernel_rfl) ?_
 intro O w0 E0 β0
 have hx:=indexTr_fn p l hcap hp
 have hlow:SV.lowL 0 [.d (.slice 5 (l.map encTRu)),.fn f caps]=true:=by simp [SV.lowL,SV.low,hcap]
 repeat' (first|refine z0 ?_|apply ds_nil|apply dw_seq2|refine z16 ?_|apply dw_ret|apply thenD_n|refine z21 ?_ (hc:=by apply hx)|fail)
 exact ret_b rfl (idxF_any p l)
theorem not_any {α:Type} (p:α→Bool):∀ l:List α,(!l.any fun t=>!p t)=l.all p
 | []=>rfl
 | a::l=>by rw [List.any_cons,List.all_cons,← not_any p l];cases p a <;> rfl
set_option maxHeartbeats 8000000 in
theorem tokenVar_fn (s:ByteArray):Fn 113 [.d (.str s)] (fun r=>r = .d (.bool (oneS 2 s))):=by
 refine fnp_enter' _ Tryz.func113 rfl rfl (by kernel_rfl) ?_
 intro O w0 E0 β0
 repeat' (first|refine z0 ?_|apply ds_nil|apply dw_seq2|refine z16 ?_|apply dw_ret|apply thenD_n|refine z21 ?_ (hc:=by apply one_fn)|fail)
 exact ret_b rfl rfl
set_option maxHeartbeats 8000000 in
theorem ttm_fn (t:TTm):Fn 93 [elTTm t] (fun r=>r = .d (.bool (tmOk t))):=by
 refine fnp_enter' _ Tryz.func93 rfl rfl (by kernel_rfl) ?_
 intro O w0 E0 β0
 have w1:=tokenVar_fn t.var
 unfold tmOk
 by_cases hv:t.var=⟨#[]⟩
 ·rw [if_pos hv]
  repeat' (first|refine z0 ?_|refine z12 ?_|apply ds_nil|apply dw_seq2|refine z16 ?_|apply dw_skip|apply dw_ret|apply thenD_n|apply thenD_r|refine z21 ?_ (hc:=by apply w1)|refine z1 ?_|(refine z23 ?_ ?_ <;> intro hg)|((fail_if_success (apply ds_known;exact rfl));apply ds_guardP;exact rfl;exact rfl;exact rfl;all_goals intro hg)|((fail_if_success (apply ds_known;exact rfl));apply ds_guardB;exact rfl;exact rfl;exact rfl;all_goals intro hg))
  all_goals try (exfalso;exact absurd hv (by assumption))
  all_goals exact ret_b rfl (by first|(simp_all;done)|(simp_all;omega))
 ·rw [if_neg hv]
  cases ho:oneS 2 t.var
  all_goals
   rw [ho] at w1
   repeat' (first|refine z0 ?_|refine z12 ?_|apply ds_nil|apply dw_seq2|refine z16 ?_|apply dw_skip|apply dw_ret|apply thenD_n|apply thenD_r|refine z21 ?_ (hc:=by apply w1)|refine z1 ?_|(refine z23 ?_ ?_ <;> intro hg)|((fail_if_success (apply ds_known;exact rfl));apply ds_guardP;exact rfl;exact rfl;exact rfl;all_goals intro hg))
  all_goals try (exfalso;exact absurd (by assumption) hv)
  all_goals exact ret_b rfl (by first|(simp_all;done)|(simp_all;omega))
set_option maxHeartbeats 8000000 in
theorem ttm1_fn (t:TTm):Fn 92 [elTTm t] (fun r=>r = .d (.bool (!tmOk t))):=by
 refine fnp_enter' _ Tryz.func92 rfl rfl (by kernel_rfl) ?_
 intro O w0 E0 β0
 have w1:=ttm_fn t
 repeat' (first|refine z0 ?_|apply ds_nil|apply dw_seq2|refine z16 ?_|apply dw_ret|apply thenD_n|refine z21 ?_ (hc:=by apply w1)|refine z1 ?_|fail)
 exact ret_b rfl rfl
set_option maxHeartbeats 8000000 in
theorem ttms_fn (l:List TTm):Fn 77 [.d (.slice 2 (l.map encTTm))] (fun r=>r = .d (.bool (tmsOk l))):=by
 refine fnp_enter' _ Tryz.func77 rfl rfl (by kernel_rfl) ?_
 intro O w0 E0 β0
 have w1:=containsTm_fn (caps:=[]) (f:=92) (fun t=>!tmOk t) l rfl (fun x _=>ttm1_fn x)
 repeat' (first|refine z0 ?_|apply ds_nil|apply dw_seq2|refine z16 ?_|apply dw_ret|apply thenD_n|refine z21 ?_ (hc:=by apply w1)|fail)
 refine ret_b rfl ?_
 exact not_any tmOk l
set_option maxHeartbeats 8000000 in
theorem twithin_fn (n a b:Int):Fn 78 [.d (.int .i64 n),.d (.int .i64 a),.d (.int .i64 b)] (fun r=>r = .d (.bool (decide (a≤n∧n≤b)))):=by
 refine fnp_enter' _ Tryz.func78 rfl rfl (by kernel_rfl) ?_
 intro O w0 E0 β0
 repeat' (first|refine z0 ?_|refine z12 ?_|apply ds_nil|apply dw_seq2|refine z16 ?_|apply dw_ret|apply thenD_n|((fail_if_success (apply ds_known;exact rfl));apply ds_guardP;exact rfl;exact rfl;exact rfl;all_goals intro hg))
 all_goals exact ret_b rfl (by first|(simp_all;done)|(simp_all;omega))
set_option maxHeartbeats 8000000 in
theorem tlit_fn (x:TLt):Fn 80 [elTLt x] (fun r=>r = .d (.bool (tlOk x))):=by
 refine fnp_enter' _ Tryz.func80 rfl rfl (by kernel_rfl) ?_
 intro O w0 E0 β0
 have w1:=ttms_fn x.terms
 have w2:=treeName_fn x.name
 have w3:=twithin_fn x.op 1 4
 have w4:=twithin_fn x.op 5 7
 have lt:(x.terms.map encTTm).length=x.terms.length:=List.length_map _
 unfold tlOk
 generalize tmsOk x.terms=b1 at *
 generalize nameS x.name=b2 at *
 cases b1 <;> cases b2 <;> repeat' (first|refine z0 ?_|refine z12 ?_|apply ds_nil|apply dw_seq2|refine z16 ?_|apply dw_block|apply dw_skip|apply dw_ret|apply thenD_n|apply inB_n|refine z21 ?_ (hc:=by apply w1)|refine z21 ?_ (hc:=by apply w2)|refine z21 ?_ (hc:=by apply w3)|refine z21 ?_ (hc:=by apply w4)|refine z1 ?_|(refine z23 ?_ ?_ <;> intro hg)|((fail_if_success (apply ds_known;exact rfl));apply ds_guardP;exact rfl;exact rfl;exact rfl;all_goals intro hg))
 all_goals try (exfalso;omega)
 all_goals first|exact ret_b rfl (by first|(simp_all;done)|(simp_all;omega))
set_option maxHeartbeats 8000000 in
theorem tlit1_fn (x:TLt):Fn 79 [elTLt x] (fun r=>r = .d (.bool (!tlOk x))):=by
 refine fnp_enter' _ Tryz.func79 rfl rfl (by kernel_rfl) ?_
 intro O w0 E0 β0
 have w1:=tlit_fn x
 repeat' (first|refine z0 ?_|apply ds_nil|apply dw_seq2|refine z16 ?_|apply dw_ret|apply thenD_n|refine z21 ?_ (hc:=by apply w1)|refine z1 ?_|fail)
 exact ret_b rfl rfl
set_option maxHeartbeats 8000000 in
theorem muchL_fn (x:TLt):Fn 76 [elTLt x] (fun r=>r = .d (.bool (decide (3 < x.terms.length)))):=by
 refine fnp_enter' _ Tryz.func76 rfl rfl (by kernel_rfl) ?_
 intro O w0 E0 β0
 have lt:(x.terms.map encTTm).length=x.terms.length:=List.length_map _
 repeat' (first|refine z0 ?_|apply ds_nil|apply dw_seq2|refine z16 ?_|apply dw_ret|apply thenD_n|refine z1 ?_|fail)
 exact ret_b rfl (by rw [lt];apply decide_eq_decide.2;omega)
set_option maxHeartbeats 8000000 in
theorem much_fn (r:TRu):Fn 54 [elTRu r] (fun o=>o = .d (.bool (muchT r))):=by
 refine fnp_enter' _ Tryz.func54 rfl rfl (by kernel_rfl) ?_
 intro O w0 E0 β0
 have lt:(r.terms.map encTTm).length=r.terms.length:=List.length_map _
 have lb:(r.body.map encTLt).length=r.body.length:=List.length_map _
 have w1:=containsTl_fn (caps:=[]) (f:=76) (fun x=>decide (3 < x.terms.length)) r.body rfl (fun x _=>muchL_fn x)
 unfold muchT
 generalize (r.body.any fun x=>decide (3 < x.terms.length))=b at *
 cases b <;> repeat' (first|refine z0 ?_|refine z12 ?_|apply ds_nil|apply dw_seq2|refine z16 ?_|apply dw_ret|apply thenD_n|refine z21 ?_ (hc:=by apply w1)|refine z1 ?_|((fail_if_success (apply ds_known;exact rfl));apply ds_guardP;exact rfl;exact rfl;exact rfl;all_goals intro hg))
 all_goals try (exfalso;omega)
 all_goals first|exact ret_b rfl (by first|(simp_all;done)|(simp_all;omega))
set_option maxHeartbeats 8000000 in
theorem trule0_fn (r:TRu):Fn 56 [elTRu r] (fun o=>o = .d (.bool (truOk r))):=by
 refine fnp_enter' _ Tryz.func56 rfl rfl (by kernel_rfl) ?_
 intro O w0 E0 β0
 have lt:(r.terms.map encTTm).length=r.terms.length:=List.length_map _
 have lb:(r.body.map encTLt).length=r.body.length:=List.length_map _
 have w1:=treeName_fn r.name
 have w2:=ttms_fn r.terms
 have w3:=twithin_fn r.fold 0 4
 have w4:=containsTl_fn (caps:=[]) (f:=79) (fun x=>!tlOk x) r.body rfl (fun x _=>tlit1_fn x)
 have e4:=not_any tlOk r.body
 have e1:(r.terms=[])↔r.terms.length=0:=List.length_eq_zero_iff.symm
 have e2:(r.body=[])↔r.body.length=0:=List.length_eq_zero_iff.symm
 unfold truOk
 rw [← e4]
 generalize (r.body.any fun x=>!tlOk x)=b4 at *
 generalize tmsOk r.terms=b1 at *
 generalize nameS r.name=b2 at *
 clear e4
 cases b1 <;> cases b2 <;> cases b4 <;> repeat' (first|refine z0 ?_|refine z12 ?_|apply ds_nil|apply dw_seq2|refine z16 ?_|apply dw_skip|apply dw_ret|refine z18 ?_|refine z19 ?_|apply thenD_n|apply thenD_r|refine z21 ?_ (hc:=by apply w1)|refine z21 ?_ (hc:=by apply w2)|refine z21 ?_ (hc:=by apply w3)|refine z21 ?_ (hc:=by apply w4)|refine z1 ?_|(refine z23 ?_ ?_ <;> intro hg)|(apply dw_cond;exact rfl;all_goals intro hg)|((fail_if_success (apply ds_known;exact rfl));apply ds_guardP;exact rfl;exact rfl;exact rfl;all_goals intro hg))
 all_goals try (exfalso;omega)
 all_goals first|exact ret_b rfl (by first|(simp_all;done)|(simp_all;omega))
set_option maxHeartbeats 8000000 in
theorem trule1_fn (r:TRu):Fn 55 [elTRu r] (fun o=>o = .d (.bool (!truOk r))):=by
 refine fnp_enter' _ Tryz.func55 rfl rfl (by kernel_rfl) ?_
 intro O w0 E0 β0
 have w1:=trule0_fn r
 repeat' (first|refine z0 ?_|apply ds_nil|apply dw_seq2|refine z16 ?_|apply dw_ret|apply thenD_n|refine z21 ?_ (hc:=by apply w1)|refine z1 ?_|fail)
 exact ret_b rfl rfl
set_option maxHeartbeats 8000000 in
theorem tcheck_fn (rs:List TRu):Fn 25 [.agg [.d (.slice 5 (rs.map encTRu))]] (fun o=>o = .d (.int .i64 (checkT rs))):=by
 refine fnp_enter' _ Tryz.func25 rfl rfl (by kernel_rfl) ?_
 intro O w0 E0 β0
 have lr:(rs.map encTRu).length=rs.length:=List.length_map _
 have w1:=containsTr_fn (caps:=[]) (f:=54) muchT rs rfl (fun x _=>much_fn x)
 have w2:=containsTr_fn (caps:=[]) (f:=55) (fun x=>!truOk x) rs rfl (fun x _=>trule1_fn x)
 unfold checkT
 rw [← not_any truOk rs]
 generalize (rs.any fun x=>!truOk x)=b1 at *
 generalize rs.any muchT=b2 at *
 cases b1 <;> cases b2 <;> repeat' (first|refine z0 ?_|refine z12 ?_|apply ds_nil|apply dw_seq2|refine z16 ?_|apply dw_block|apply dw_skip|apply dw_ret|refine z18 ?_|refine z19 ?_|apply thenD_n|apply thenD_r|apply inB_n|apply inB_r|refine z21 ?_ (hc:=by apply w1)|refine z21 ?_ (hc:=by apply w2)|refine z1 ?_|((fail_if_success (apply ds_known;exact rfl));apply ds_guardP;exact rfl;exact rfl;exact rfl;all_goals intro hg))
 all_goals try (exfalso;omega)
 all_goals exact ret_i rfl (by first|(simp_all;done)|(simp_all;omega))
end Go.Proofs.YtapciiffpnociacGreatDoor
namespace Go.Proofs.YtapciiffpnociacGreatDoor
open Go Go.RowKit
abbrev rsJ (x:SS):Hp:=[(0,.blk 95 [.row 1,.row 2,.row 3,.mp 4,.junk]),(1,.row 3 1 (x.arity.map encI)),(2,.row 9 1 (x.names.map encT)),(3,.row 48 5 (x.rules.map encRul)),(4,.map true (kvT 0 x.names))]
theorem keep_may {y z:SS} {v:Value} (h:SS.Keep y z) (hv:wrongE y v):wrongE z v:=by
 obtain⟨h1,h2⟩:=h hv.1
 unfold wrongE at hv ⊢
 rw [h1,h2]
 exact hv
abbrev blkRu (p:Int) (ts:SV) (f:Int) (b:SV) (n:Int):HB:=.blk 48 [.d (.int .i64 p),ts,.d (.int .i64 f),b,.d (.int .i64 n)]
abbrev blkTRu (r:TRu):HB:=.blk 59 [.d (.int .i64 r.at_),.d (.str r.name),.d (.slice 2 (r.terms.map encTTm)),.d (.int .i64 r.fold),.d (.slice 5 (r.body.map encTLt))]
attribute [local irreducible] DW DS DL DQ Ev FnOk FnP FnOkE thenD inBlockD
set_option maxHeartbeats 8000000 in
theorem srule_fn (x:SS) (r:TRu) (hx:x.Fit 1000) (hr:x.rules.length≤1000) (ht:r.terms.length≤3) (hb:r.body.length≤4) (hbt:∀ l∈r.body,1≤l.kind∧l.terms.length≤3) (h0:x.e=0):FnOkE false Tryz.prog tab tab_ok 58 [.loc 0 0,elTRu r] 1 5 (rsJ x)
  (fun k t H=>(x.rule r).e=0∧k=5∧t = .tup []∧H=rsJ (x.rule r)) (wrongE (x.rule r)):=by
 refine fn_enterRE _ Tryz.func58 rfl rfl (by kernel_rfl) ?_
 intro O w0 E0 β0
 have lt:(r.terms.map encTTm).length=r.terms.length:=List.length_map _
 have lb:(r.body.map encTLt).length=r.body.length:=List.length_map _
 obtain⟨hf1,hv1,hr1⟩:=SS.pred_fit (x:=x.fresh) (n:=1000) hx r.at_ r.name r.terms.length
 obtain⟨y1,hy1⟩:∃ y1,y1=x.fresh.pred r.at_ r.name r.terms.length:=⟨_,rfl⟩
 have hk1:SS.Keep y1 (x.rule r):=by rw [hy1];exact (SS.keep_terms _ _ _).trans ((SS.keep_lits _ _).trans fun _=>⟨rfl,rfl⟩)
 have w1:=spred_fn x.fresh r.at_ r.name r.terms.length ⟨hx.1,by have:=hx.2;show x.names.length≤100000;omega⟩ h0
 rw [← hy1] at w1 hf1 hv1 hr1
 repeat' (first|refine z0 ?_|apply ds_nil|apply dw_seq2|refine z16 ?_|apply thenD_n|refine z1 ?_|fail)
 refine ds_mapNew true rfl rfl ?_
 repeat' ((fail_if_success (apply dw_stopS 3));(first|refine z0 ?_|apply ds_nil|apply dw_seq2|refine z16 ?_|apply thenD_n|refine z1 ?_|refine z3 ?_|fail))
 refine dw_ent (ent_ren (k':=8) (L':=[(0,.loc 0 0),(3,.loc 6 0),(4,.loc 7 0)]) (H':=rsR x.fresh [] [(6,blkTRu r),(7,blkRu 0 .nils r.fold .nils 0)]) (fun j=>match j with|5=>6|6=>5|j=>j) ⟨rfl,rfl,rfl,trivial⟩ ⟨rfl,rfl,rfl,rfl,rfl,rfl,rfl,rfl,trivial⟩ rfl rfl rfl rfl rfl rfl) ?_
 repeat' (first|refine z0 ?_|apply dw_seq2|refine z16 ?_|fail)
 rw [lt]
 (refine ds_callE id (w1) rfl rfl rfl rfl ⟨rfl,rfl,rfl,rfl,rfl,rfl,trivial⟩ rfl rfl rfl rfl rfl rfl ?_ ?_ ?_)
 ·rintro v h;exact keep_may hk1 h
 ·rintro k2 res H2 ⟨_,rfl,rfl,rfl⟩;exact⟨rfl,rfl⟩
 rintro k2 res H2 ⟨he1,rfl,rfl,rfl⟩
 change DS _ _ _ _ _ _ _ _
 clear w1
 repeat' ((fail_if_success (apply dw_stopS 4));(first|refine z0 ?_|apply ds_nil|apply thenD_n|refine z3 ?_|fail))
 refine dw_ent (ent_ren (k':=8) (L':=[(0,.loc 0 0),(3,.loc 6 0),(4,.loc 7 0)]) (H':=rsR y1 y1.vars [(6,blkTRu r),(7,blkRu (placeT r.name x.names:Nat) .nils r.fold .nils 0)]) (fun j=>match j with|0=>0|6=>6|7=>7|j=>8 + j) ⟨rfl,rfl,rfl,trivial⟩ ⟨rfl,rfl,rfl,rfl,rfl,rfl,rfl,rfl,trivial⟩ rfl rfl rfl rfl rfl rfl) ?_
 have w2:=sterms_fn y1 r.at_ r.terms (by omega) (by rw [hv1];exact Nat.zero_le _) he1
 obtain⟨y2,hy2⟩:∃ y2,y2=y1.terms r.at_ r.terms:=⟨_,rfl⟩
 have hy2':y2=x.headS r:=by rw [hy2,hy1];rfl
 have hf2:y2.Fit 1001:=by rw [hy2];exact SS.terms_fit hf1 _ _
 have hv2:y2.vars.length≤3:=by
  have:=(SS.terms_names r.terms y1 r.at_).2.2.2
  rw [← hy2,hv1] at this
  have h3:(SS.fresh x).vars.length=0:=rfl
  omega
 have hr2:y2.rules=x.rules:=by rw [hy2,(SS.terms_names r.terms y1 r.at_).2.2.1,hr1];rfl
 have hk2:SS.Keep y2 (x.rule r):=by rw [hy2'];exact (SS.keep_lits _ _).trans fun _=>⟨rfl,rfl⟩
 rw [← hy2] at w2
 repeat' (first|refine z0 ?_|apply dw_seq2|refine z16 ?_|fail)
 (refine ds_callE id (w2) rfl rfl rfl rfl ⟨rfl,rfl,rfl,rfl,rfl,rfl,trivial⟩ rfl rfl rfl rfl rfl rfl ?_ ?_ ?_)
 ·rintro v h;exact keep_may hk2 h
 ·rintro k2 res H2 ⟨_,rfl,rfl,rfl⟩;exact⟨rfl,rfl⟩
 rintro k2 res H2 ⟨he2,rfl,rfl,rfl⟩
 change DS _ _ _ _ _ _ _ _
 clear w2
 obtain⟨ts,hts⟩:∃ ts,ts=y1.trms r.at_ r.terms:=⟨_,rfl⟩
 rw [← hts]
 repeat' ((fail_if_success (apply dw_stopS 5));(first|refine z0 ?_|apply ds_nil|apply dw_seq2|apply thenD_n|refine z3 ?_|fail))
 refine dw_ent (ent_cellrow 7 3 65 4 rfl rfl rfl) ?_
 repeat' (first|refine z0 ?_|apply ds_nil|apply dw_seq2|refine z16 ?_|apply dw_block|apply thenD_n)
 have hrule:x.rule r=(y2.lits r.body).addR ⟨placeT r.name x.names,ts,r.fold,y2.litVs r.body,(y2.lits r.body).vars.length⟩:=by rw [hy2',hts,hy1];rfl
 obtain⟨p,hp⟩:∃ p:Int,p=(placeT r.name x.names:Nat):=⟨_,rfl⟩
 rw [← hp] at hrule ⊢
 refine ds_loop (ι:=Nat × SS × List Ltl) (fun z=>⟨9,[(0,.loc 0 0),(4,.loc 7 0),(33,.d (.slice 5 (r.body.map encTLt))),(34,.d (.int .i64 r.body.length)),(35,.d (.int .i64 z.1))],rsR z.2.1 z.2.1.vars [(7,blkRu p (.d (.slice 2 (ts.map encTrm))) r.fold (.row 8) 0),(8,.row 65 4 (z.2.2.map encLtl))]⟩)
  (fun z=>z.1≤r.body.length∧y2.lits r.body=z.2.1.lits (r.body.drop z.1)∧y2.litVs r.body=z.2.2++z.2.1.litVs (r.body.drop z.1)∧z.2.2.length=z.1∧z.2.1.e=0∧z.2.1.Fit (1001 + z.1)∧z.2.1.vars.length≤3 + 3 * z.1∧z.2.1.rules=x.rules) (fun z=>r.body.length - z.1) (0,y2,[]) ⟨Nat.zero_le _,rfl,rfl,rfl,he2,hf2,by omega,hr2⟩
  (ent_ren (fun j=>match j with|8=>14|j=>j) ⟨rfl,rfl,rfl,by rw [← lb];rfl,rfl,trivial⟩ ⟨rfl,rfl,rfl,rfl,rfl,rfl,rfl,rfl,trivial⟩ rfl rfl rfl rfl rfl rfl) ?_
 clear hk1 hk2 hy1 hy2 hy2' hf1 hf2 hv1 hv2 hr1 hr2 he1 he2 hts
 rintro⟨i,y,acc⟩ ⟨hi,hli,hvi,hac,hye,hyf,hyv,hyr⟩
 dsimp only at hi hli hvi hac hye hyf hyv hyr ⊢
 have lac:(acc.map encLtl).length=acc.length:=List.length_map _
 by_cases hil:i < r.body.length
 ·rw [List.drop_eq_getElem_cons hil] at hli hvi
  obtain⟨hlk,hlt⟩:=hbt _ (List.getElem_mem hil)
  generalize hl:r.body[i]=l at hli hvi hlk hlt
  replace hli:y2.lits r.body=(y.lit l).lits (r.body.drop (i + 1)):=hli
  replace hvi:y2.litVs r.body=acc++y.litV l::(y.lit l).litVs (r.body.drop (i + 1)):=hvi
  have hkeep:SS.Keep (y.lit l) (x.rule r):=by rw [hrule,hli];exact (SS.keep_lits _ _).trans fun _=>⟨rfl,rfl⟩
  have lt2:(l.terms.map encTTm).length=l.terms.length:=List.length_map _
  obtain⟨hfl,hrl,hvl⟩:=SS.lit_fit hyf l
  subst hl
  obtain⟨yp,hyp⟩:∃ yp,yp=y.litP r.body[i]:=⟨_,rfl⟩
  have hkp:SS.Keep yp (x.rule r):=by rw [hyp];exact (SS.keep_terms _ _ _).trans hkeep
  obtain⟨pp,hpp⟩:∃ pp:Int,pp=if r.body[i].kind≤2 then (placeT r.body[i].name y.names:Int) else 0:=⟨_,rfl⟩
  have hll:y.lit r.body[i]=yp.terms r.body[i].at_ r.body[i].terms:=by rw [hyp];rfl
  have hlv:y.litV r.body[i]=⟨r.body[i].kind,r.body[i].op,pp,yp.trms r.body[i].at_ r.body[i].terms⟩:=by rw [hpp,hyp];rfl
  have hypv:yp.vars=y.vars:=by
   rw [hyp]
   unfold SS.litP
   split
   ·exact (SS.pred_fit hyf _ _ _).2.1
   ·rfl
  repeat' ((fail_if_success (apply dw_stopR 9));(first|refine z0 ?_|apply ds_nil|apply dw_seq2|refine z16 ?_|apply dw_block|apply dw_skip|apply dw_exit|apply thenD_n|apply thenD_e|refine z17 ?_|refine z1 ?_|refine z3 ?_|(refine z23 ?_ ?_ <;> intro hg)|fail))
  all_goals try (exfalso;omega)
  refine dw_cut (ι:=Unit) (fun _=>⟨11,[(0,.loc 0 0),(4,.loc 7 0),(33,.d (.slice 5 (r.body.map encTLt))),(34,.d (.int .i64 r.body.length)),(35,.d (.int .i64 i)),(6,.loc 9 0),(7,.loc 10 0)],rsR yp yp.vars [(7,blkRu p (.d (.slice 2 (ts.map encTrm))) r.fold (.row 8) 0),(8,.row 65 4 (acc.map encLtl)),(9,.blk 63 [.d (.int .i64 r.body[i].kind),.d (.int .i64 r.body[i].at_),.d (.int .i64 r.body[i].op),.d (.str r.body[i].name),.d (.slice 2 (r.body[i].terms.map encTTm))]),(10,.blk 65 [.d (.int .i64 r.body[i].kind),.d (.int .i64 r.body[i].op),.d (.int .i64 pp),.nils])]⟩) (fun _=>yp.e=0) ?_ ?_
  ·refine dw_cut (ι:=Bool) (fun b=>⟨11,[(0,.loc 0 0),(4,.loc 7 0),(33,.d (.slice 5 (r.body.map encTLt))),(34,.d (.int .i64 r.body.length)),(35,.d (.int .i64 i)),(6,.loc 9 0),(7,.loc 10 0),(51,.d (.bool b))],rsR y y.vars [(7,blkRu p (.d (.slice 2 (ts.map encTrm))) r.fold (.row 8) 0),(8,.row 65 4 (acc.map encLtl)),(9,.blk 63 [.d (.int .i64 r.body[i].kind),.d (.int .i64 r.body[i].at_),.d (.int .i64 r.body[i].op),.d (.str r.body[i].name),.d (.slice 2 (r.body[i].terms.map encTTm))]),(10,.blk 65 [.d (.int .i64 r.body[i].kind),.d (.int .i64 r.body[i].op),.d (.int .i64 0),.nils])]⟩) (fun b=>b=decide (r.body[i].kind≤2)) ?_ ?_
   ·clear hkeep hkp hli hvi hrule
    by_cases h1:r.body[i].kind=1
    ·repeat' (first|refine z0 ?_|refine z12 ?_|apply ds_nil|refine z16 ?_|apply thenD_n|((fail_if_success (apply ds_known;exact rfl));apply ds_guardP;exact rfl;exact rfl;exact rfl;all_goals intro hg))
     all_goals try (exfalso;omega)
     exact⟨true,(decide_eq_true (by omega)).symm,ent_ren id ⟨rfl,rfl,rfl,rfl,rfl,rfl,rfl,rfl,trivial⟩ ⟨rfl,rfl,rfl,rfl,rfl,rfl,rfl,rfl,rfl,rfl,trivial⟩ rfl rfl rfl rfl rfl rfl⟩
    ·repeat' (first|refine z0 ?_|refine z12 ?_|apply ds_nil|refine z16 ?_|apply thenD_n|((fail_if_success (apply ds_known;exact rfl));apply ds_guardP;exact rfl;exact rfl;exact rfl;all_goals intro hg))
     all_goals try (exfalso;omega)
     exact⟨decide (r.body[i].kind=2),decide_eq_decide.2 (by omega),ent_ren id ⟨rfl,rfl,rfl,rfl,rfl,rfl,rfl,rfl,trivial⟩ ⟨rfl,rfl,rfl,rfl,rfl,rfl,rfl,rfl,rfl,rfl,trivial⟩ rfl rfl rfl rfl rfl rfl⟩
   ·intro b hb
    dsimp only
    cases b with
    | false =>
     have h2:¬ r.body[i].kind≤2:=of_decide_eq_false hb.symm
     have hyy:yp=y:=by rw [hyp];unfold SS.litP;rw [if_neg h2]
     rw [if_neg h2] at hpp
     rw [hyy,hpp]
     clear hkeep hkp hli hvi hrule hll hlv hyp
     repeat' (first|apply dw_skip|refine z19 ?_|apply thenD_n)
     exact⟨(),hye,ent_ren id ⟨rfl,rfl,rfl,rfl,rfl,rfl,rfl,trivial⟩ ⟨rfl,rfl,rfl,rfl,rfl,rfl,rfl,rfl,rfl,rfl,trivial⟩ rfl rfl rfl rfl rfl rfl⟩
    | true =>
     have h2:r.body[i].kind≤2:=of_decide_eq_true hb.symm
     have hyy:yp=y.pred r.body[i].at_ r.body[i].name r.body[i].terms.length:=by rw [hyp];unfold SS.litP;rw [if_pos h2]
     rw [if_pos h2] at hpp
     have w3:=spred_fn y r.body[i].at_ r.body[i].name r.body[i].terms.length ⟨hyf.1,by have:=hyf.2;omega⟩ hye
     rw [← hyy] at w3
     clear hkeep hli hvi hrule hll hlv hyp
     repeat' (first|refine z0 ?_|refine z16 ?_|refine z18 ?_|fail)
     rw [lt2]
     (refine ds_callE id (w3) rfl rfl rfl rfl ⟨rfl,rfl,rfl,rfl,rfl,rfl,trivial⟩ rfl rfl rfl rfl rfl rfl ?_ ?_ ?_)
     ·rintro v h;exact keep_may hkp h
     ·rintro k2 res H2 ⟨_,rfl,rfl,rfl⟩;exact⟨rfl,rfl⟩
     rintro k2 res H2 ⟨hep,rfl,rfl,rfl⟩
     change DS _ _ _ _ _ _ _ _
     clear w3
     repeat' (first|refine z0 ?_|apply ds_nil|apply thenD_n|refine z3 ?_|fail)
     exact⟨(),hep,ent_ren (fun j=>match j with|0=>0|7=>7|8=>8|9=>9|10=>10|j=>11 + j) ⟨rfl,rfl,rfl,rfl,rfl,rfl,rfl,trivial⟩ ⟨rfl,rfl,rfl,rfl,rfl,rfl,rfl,rfl,rfl,by rw [hpp];rfl,trivial⟩ rfl rfl rfl rfl rfl rfl⟩
  ·intro _ hype
   have hype:yp.e=0:=hype
   have w4:=sterms_fn yp r.body[i].at_ r.body[i].terms (by omega) (by rw [hypv];omega) hype
   rw [← hll] at w4
   obtain⟨us,hus⟩:∃ us,us=yp.trms r.body[i].at_ r.body[i].terms:=⟨_,rfl⟩
   rw [← hus] at w4 hlv
   obtain⟨y',hy'⟩:∃ y',y' = y.lit r.body[i]:=⟨_,rfl⟩
   rw [← hy'] at w4 hkeep hfl hrl hvl hli hvi
   rw [hlv] at hvi
   have hvi2:y2.litVs r.body=(acc++[⟨r.body[i].kind,r.body[i].op,pp,us⟩])++y'.litVs (r.body.drop (i + 1)):=by rw [hvi];simp
   have hap:(acc++[(⟨r.body[i].kind,r.body[i].op,pp,us⟩:Ltl)]).map encLtl=acc.map encLtl++[encLtl ⟨r.body[i].kind,r.body[i].op,pp,us⟩]:=List.map_append
   clear hvi hkp hrule
   repeat' (first|refine z0 ?_|apply dw_seq2|refine z16 ?_|fail)
   (refine ds_callE id (w4) rfl rfl rfl rfl ⟨rfl,rfl,rfl,rfl,rfl,rfl,trivial⟩ rfl rfl rfl rfl rfl rfl ?_ ?_ ?_)
   ·rintro v h;exact keep_may hkeep h
   ·rintro k2 res H2 ⟨_,rfl,rfl,rfl⟩;exact⟨rfl,rfl⟩
   rintro k2 res H2 ⟨hep,rfl,rfl,rfl⟩
   change DS _ _ _ _ _ _ _ _
   clear w4
   repeat' (first|refine z0 ?_|apply ds_nil|refine z16 ?_|apply thenD_n|apply inB_n|refine z3 ?_|refine z4 ?_|refine z2 ?_|fail)
   exact⟨(i + 1,y',acc++[⟨r.body[i].kind,r.body[i].op,pp,us⟩]),⟨by show i + 1≤r.body.length;omega,hli,hvi2,by show (acc++_).length=i + 1;rw [List.length_append,hac];rfl,hep,hfl,by show y'.vars.length≤3 + 3 * (i + 1);omega,hrl.trans hyr⟩,ent_ren (fun j=>match j with|8=>_|j=>j) ⟨rfl,rfl,rfl,rfl,rfl,trivial⟩ ⟨rfl,rfl,rfl,rfl,rfl,rfl,rfl,by dsimp only;rw [hap];rfl,trivial⟩ rfl rfl rfl rfl rfl rfl,by show r.body.length - (i + 1) < r.body.length - i;omega⟩
 ·have hie:i=r.body.length:=by omega
  rw [hie,List.drop_of_length_le (Nat.le_refl _)] at hli hvi
  replace hli:y2.lits r.body=y:=hli
  replace hvi:y2.litVs r.body=acc:=by rw [hvi];exact List.append_nil _
  rw [hli,hvi] at hrule
  have lk:=kvT_len y.vars 0
  have lr:(y.rules.map encRul).length=y.rules.length:=List.length_map _
  have hrl:y.rules.length≤1000:=by rw [hyr];exact hr
  repeat' ((fail_if_success (apply dw_stopT 15));(first|refine z0 ?_|refine z12 ?_|apply ds_nil|apply dw_seq2|refine z16 ?_|apply dw_block|apply dw_skip|apply dw_exit|refine z18 ?_|apply thenD_n|apply thenD_e|refine z17 ?_|refine z1 ?_|refine z3 ?_|(refine z23 ?_ ?_ <;> intro hg)|((fail_if_success (apply ds_known;exact rfl));apply ds_guardP;exact rfl;exact rfl;exact rfl;all_goals intro hg)))
  all_goals try (exfalso;omega)
  refine ds_lenMap 5 (kd:=true) (kvs:=kvT 0 y.vars) mapS_t rfl rfl (by omega) rfl rfl ?_
  rw [lk]
  repeat' ((fail_if_success (apply dw_stopT 15));(first|refine z0 ?_|apply ds_nil|apply thenD_n|refine z3 ?_|fail))
  refine dw_ent (ent_cellseal 7 3 8 rfl rfl rfl rfl rfl) ?_
  refine dw_ent (ent_celljunk 0 4 rfl rfl rfl) ?_
  refine dw_tail 9 (by kernel_rfl) (by kernel_rfl) (by kernel_rfl) rfl rfl rfl ?_
  repeat' (first|refine z0 ?_|apply ds_nil|refine z5 ?_|refine z9 ?_|refine z11 ?_|refine z3 ?_|fail)
  rw [hrule]
  exact⟨.inr rfl,_,rfl,fun j=>match j with|3=>17|j=>j,5,_,rsJ (y.addR ⟨p,ts,r.fold,acc,y.vars.length⟩),rfl,⟨rfl,rfl,rfl,by dsimp only;rw [show (y.addR ⟨p,ts,r.fold,acc,y.vars.length⟩).rules.map encRul=y.rules.map encRul++[encRul ⟨p,ts,r.fold,acc,y.vars.length⟩] from List.map_append];rfl,rfl,trivial⟩,rfl,rfl,rfl,rfl,rfl,rfl,hye,rfl,rfl,rfl⟩
section
variable {Γ : Ctx} {k : Nat} {L : Sl} {H : Hp}
theorem ev_bin_run {b:BinOp} {t t2 ty:TypeId} {x:Operand} {u v:Value} {r:Bool} (hx:opSV L x = .val u) (hxo:opOkB x=true)
  (h1:∀ w,(eqGuard b t x (.const v) u v).run Γ.P w = .ok () w) (h2:∀ w,(binOp b t u v).run Γ.P w = .ok (.bool r) w):Ev Γ (lo k) L H (.binOp b t x (.const v) t2) ty (.d (.bool r)):=by
 unfold Ev
 intro e a w m
 have hr:=m.op x (opOkB_spec hxo)
 rw [hx] at hr
 have hv:a.eval x=u:=hr
 refine⟨.bool r,fun _ _ _ _ w' _=>?_,.bool⟩
 have hc:a.eval (.const v)=v:=rfl
 simp [execOp,hv,hc,h1,h2]
theorem ev_assert_run {t t2 ty:TypeId} {x:Operand} {kd:IntKind} {n:Int} (hx:opSV L x = .val (.iface t (.int kd n))) (hxo:opOkB x=true)
  (hrun:∀ w,(Instr.typeAssert (.iface t (.int kd n)) t2 t true).run Γ.P w = .ok (.tuple #[.int kd n,.bool true]) w) (hn:(Lit.int kd n).wf=true):Ev Γ (lo k) L H (.typeAssert x t2 t true) ty (.tup [.d (.int kd n),.d (.bool true)]):=by
 unfold Ev
 intro e a w m
 have hr:=m.op x (opOkB_spec hxo)
 rw [hx] at hr
 have hv:a.eval x = .iface t (.int kd n):=hr
 refine⟨.tuple #[.int kd n,.bool true],fun _ _ _ _ w' _=>?_,_,rfl,⟨.int hn,.bool,trivial⟩⟩
 simp [execOp,hv,hrun]
end
abbrev treeV (rs:List TRu):SV:=.agg [.d (.slice 5 (rs.map encTRu))]
def parseMay (l:List Tok) (e:Int) (v:Value) (H:Hp):Prop:=∃ j acc,rulesGo l e (l.length + 1) 0 [] = .error j∧v=plV (hereT l e j)∧H=[(1,.blk 36 [.row 4]),(2,.blk 3 [.d (.int .i64 0)]),(3,.blk 29 [.d (.int .i64 0)]),(4,.row 59 5 acc)]
def parseRC (l:List Tok) (e:Int) (_:Nat) (H:Hp):Prop:=∃ j,rulesGo l e (l.length + 1) 0 [] = .error j∧Hp.get H 1=some (.blk 36 [.nils])∧Hp.get H 2=some (.blk 3 [.d (.int .i64 (hereT l e j))])∧Hp.get H 3=some (.blk 29 [.d (.int .i64 1)])
def parseR (l:List Tok) (e:Int) (k:Nat) (r:SV) (H:Hp):Prop:=k=1∧H=[]∧r=match rulesGo l e (l.length + 1) 0 [] with
 | .ok rs=>.tup [treeV rs,.d (.int .i64 0),.d (.int .i64 0)]
 | .error j=>.tup [.agg [.nils],.d (.int .i64 (hereT l e j)),.d (.int .i64 1)]
set_option maxHeartbeats 8000000 in
theorem parse1_catch (l:List Tok) (e:Int) (hh:∀ j,(Lit.int .i64 (hereT l e j)).wf=true):CatchOk false Tryz.prog tab tab_ok 85 [1,2,3] 4 (parseMay l e) (parseRC l e):=by
 refine catch_of _ Tryz.func85 rfl rfl rfl (by decide) (by decide) (by decide) ?_
 rintro O w0 E0 β0 v k H ⟨j,acc,hj,rfl,rfl⟩
 repeat' (first|refine z0 ?_|apply dw_seq2|refine z16 ?_|fail)
 change DS _ _ _ _ _ _ _ _
 refine ds_ev (ev_bin_run (r:=true) rfl rfl (fun w=>rfl) (fun w=>by kernel_rfl)) rfl rfl ?_
 repeat' (first|refine z0 ?_|apply ds_nil|apply dw_seq2|refine z16 ?_|refine z18 ?_|apply thenD_n)
 refine ds_ev (ev_assert_run rfl rfl (fun w=>by kernel_rfl) (hh j)) rfl rfl ?_
 repeat' (first|refine z0 ?_|apply ds_nil|apply dw_seq2|refine z16 ?_|apply dw_skip|refine z19 ?_|apply thenD_n|refine z3 ?_|fail)
 exact⟨.inl rfl,j,hj,rfl,rfl,rfl⟩
set_option maxHeartbeats 8000000 in
theorem parse1_idle:IdleOk false Tryz.prog 85:=by
 refine idle_of tab tab_ok Tryz.func85 rfl rfl (by decide) (by decide) ?_
 intro w0 N hN
 obtain⟨n,rfl⟩:∃ n,N=n + Tryz.f85.ntmps:=⟨N - Tryz.f85.ntmps,by omega⟩
 repeat' (first|refine z0 ?_|apply dw_seq2|refine z16 ?_|fail)
 change DS _ _ _ _ _ _ _ _
 refine ds_ev (ev_bin_run (r:=false) rfl rfl (fun w=>rfl) (fun w=>by kernel_rfl)) rfl rfl ?_
 repeat' (first|apply ds_nil|apply dw_skip|refine z19 ?_|apply thenD_n)
 exact .inl rfl
set_option maxHeartbeats 8000000 in
theorem pparse_fn (l:List Tok) (e:Int) (hh:∀ j,(Lit.int .i64 (hereT l e j)).wf=true) (hl:l.length≤900000) (hok:l.all tokOk=true):FnOk false Tryz.prog tab tab_ok 63 [.loc 0 0] 1 1 (prH l 0 e) (parseR l e):=by
 refine FnOk.kept ?_
 have ll:(l.map encTok).length=l.length:=List.length_map _
 refine fn_enterDef (g:=85) (JA:=4) (kA:=4) (LA:=[(2,.loc 1 0),(3,.loc 2 0),(4,.loc 3 0),(0,.loc 0 0)]) (HA:=[(0,prB l 0 e),(1,.blk 36 [.nils]),(2,.blk 3 [.d (.int .i64 0)]),(3,.blk 29 [.d (.int .i64 0)])]) (ids:=[1,2,3]) (rs:=[(2,1),(3,2),(4,3)]) (may:=parseMay l e) (RC:=parseRC l e) _ Tryz.func63 rfl rfl (by kernel_rfl) (by kernel_rfl) (by decide) (by decide) (by decide) rfl rfl (by decide) ?_ ?_ parse1_idle (parse1_catch l e hh) ?_
 ·intro O w0 E0 β0
  repeat' (first|apply ds_nil|refine z16 ?_|refine z1 ?_|fail)
  exact⟨rfl,ent_ren id ⟨rfl,rfl,rfl,rfl,trivial⟩ ⟨rfl,rfl,rfl,rfl,trivial⟩ rfl rfl rfl rfl rfl rfl⟩
 ·intro O w0 E0 β0
  refine dw_ent (ent_cellrow 1 0 59 5 rfl rfl rfl) ?_
  repeat' (first|apply dw_seq2|apply dw_block)
  refine ds_loop (ι:=Nat × List TRu × Nat) (fun x=>⟨5,[(0,.loc 0 0),(2,.loc 1 0),(3,.loc 2 0),(4,.loc 3 0)],[(0,prB l x.1 e),(1,.blk 36 [.row 4]),(2,.blk 3 [.d (.int .i64 0)]),(3,.blk 29 [.d (.int .i64 0)]),(4,.row 59 5 (x.2.1.map encTRu))]⟩)
   (fun x=>rulesGo l e (l.length + 1) 0 []=rulesGo l e x.2.2 x.1 x.2.1∧x.1≤l.length∧l.length < x.2.2 + x.1∧x.2.1.length≤x.1) (fun x=>x.2.2) (0,[],l.length + 1) ⟨rfl,Nat.zero_le _,Nat.lt_succ_self _,Nat.le_refl _⟩ (ent_ren id ⟨rfl,rfl,rfl,rfl,trivial⟩ ⟨rfl,rfl,rfl,rfl,rfl,trivial⟩ rfl rfl rfl rfl rfl rfl) ?_
  rintro⟨j,acc,n⟩ ⟨ht,hj,hn,ha⟩
  dsimp only at ht hj hn ha ⊢
  obtain⟨n,rfl⟩:∃ m,n=m + 1:=⟨n - 1,by omega⟩
  rw [rulesGo_succ l e n j acc] at ht
  by_cases hjl:j < l.length
  ·rw [if_pos hjl] at ht
   have w1:=prule_fn l j e hj hl hok
   repeat' (first|refine z0 ?_|apply ds_nil|refine z5 ?_|refine z10 ?_|apply dw_seq2|refine z16 ?_|refine z20 ?_|apply dw_block|apply dw_skip|apply dw_exit|apply thenD_n|apply thenD_e|refine z17 ?_|refine z3 ?_|(refine z23 ?_ ?_ <;> intro hg)|fail)
   all_goals try (exfalso;omega)
   (refine ds_callE id (w1) rfl rfl rfl rfl ⟨rfl,trivial⟩ rfl rfl rfl rfl rfl rfl ?_ ?_ ?_)
   ·rintro v ⟨q,h,rfl⟩
    exact⟨by intro p hp;simp only [List.mem_cons,List.not_mem_nil,or_false] at hp;rcases hp with rfl|rfl|rfl <;> rfl,q,acc.map encTRu,by rw [ht,h],rfl,rfl⟩
   ·rintro k2 res H2 ⟨x,q,_,rfl,rfl,rfl⟩;exact⟨rfl,rfl⟩
   rintro k2 res H2 ⟨x,q,h6,rfl,rfl,rfl⟩
   change DS _ _ _ _ _ _ _ _
   clear w1
   obtain⟨q1,q2⟩:=ruleT_lt h6
   rw [h6] at ht
   dsimp only at ht
   have lac:(acc.map encTRu).length=acc.length:=List.length_map _
   have hap:(acc++[x]).map encTRu=acc.map encTRu++[encTRu x]:=List.map_append
   repeat' (first|refine z0 ?_|apply ds_nil|refine z16 ?_|apply thenD_n|apply inB_n|refine z1 ?_|refine z3 ?_|refine z4 ?_|refine z2 ?_|fail)
   all_goals try (exfalso;omega)
   exact⟨(q,acc++[x],n),⟨ht,q2,by show l.length < n + q;omega,by show (acc++[x]).length≤q;rw [List.length_append];simp;omega⟩,ent_ren (fun x=>match x with|0=>0|1=>1|2=>2|3=>3|_=>_) ⟨rfl,rfl,rfl,rfl,trivial⟩ ⟨rfl,rfl,rfl,rfl,by dsimp only;rw [hap];rfl,trivial⟩ rfl rfl rfl rfl rfl rfl,by show n < n + 1;omega⟩
  ·rw [if_neg hjl] at ht
   repeat' ((fail_if_success (apply dw_stopS 5));(first|refine z0 ?_|refine z5 ?_|refine z10 ?_|apply dw_seq2|refine z16 ?_|refine z20 ?_|apply dw_block|apply dw_skip|apply dw_exit|apply thenD_n|apply thenD_e|refine z17 ?_|(refine z23 ?_ ?_ <;> intro hg)|fail))
   all_goals try (exfalso;omega)
   refine dw_ent (ent_cellseal 1 0 4 rfl rfl rfl rfl rfl) ?_
   repeat' (first|refine z0 ?_|apply ds_nil|apply dw_seq2|refine z16 ?_|apply dw_ret|apply thenD_n|refine z3 ?_|fail)
   unfold parseR
   rw [ht]
   exact⟨.inl rfl,_,rfl,id,1,_,[],rfl,trivial,rfl,rfl,rfl,rfl,rfl,rfl,rfl,rfl,rfl⟩
 ·rintro k H ⟨j,hj,h1,h2,h3⟩
  unfold parseR
  rw [hj]
  refine⟨.tup [.agg [.nils],.d (.int .i64 (hereT l e j)),.d (.int .i64 1)],?_,id,1,_,[],rfl,trivial,rfl,rfl,rfl,rfl,rfl,rfl,rfl,rfl,rfl⟩
  have e1:resOne (locSl [(2,1),(3,2),(4,3)]) H tab (.cell 2 36)=some (.agg [.nils]):=by
   show (match Hp.get H 1 with
    | some (.blk _ cs)=>(match (tiGet tab 36).sh with
     | .struct _=>(match Nat.ble (0 + (tiGet tab 36).cells) cs.length with
      | true=>some (SV.agg ((cs.drop 0).take (tiGet tab 36).cells))
      | false=>none)
     | .other=>none
     | _=>cs[0]?)
    | _=>none)=_
   rw [h1];rfl
  have e2:resOne (locSl [(2,1),(3,2),(4,3)]) H tab (.cell 3 3)=some (.d (.int .i64 (hereT l e j))):=by
   show (match Hp.get H 2 with
    | some (.blk _ cs)=>(match (tiGet tab 3).sh with
     | .struct _=>(match Nat.ble (0 + (tiGet tab 3).cells) cs.length with
      | true=>some (SV.agg ((cs.drop 0).take (tiGet tab 3).cells))
      | false=>none)
     | .other=>none
     | _=>cs[0]?)
    | _=>none)=_
   rw [h2];rfl
  have e3:resOne (locSl [(2,1),(3,2),(4,3)]) H tab (.cell 4 29)=some (.d (.int .i64 1)):=by
   show (match Hp.get H 3 with
    | some (.blk _ cs)=>(match (tiGet tab 29).sh with
     | .struct _=>(match Nat.ble (0 + (tiGet tab 29).cells) cs.length with
      | true=>some (SV.agg ((cs.drop 0).take (tiGet tab 29).cells))
      | false=>none)
     | .other=>none
     | _=>cs[0]?)
    | _=>none)=_
   rw [h3];rfl
  show resSV _ H tab [.cell 2 36,.cell 3 3,.cell 4 29]=_
  simp only [resSV,resL,e1,e2,e3]
theorem checkT_2 {rs:List TRu} (h:12 < rs.length∨∃ i,∃ h:i < rs.length,muchT rs[i]=true):checkT rs=2:=by
 unfold checkT
 rw [if_pos]
 rcases h with h|⟨i,hi,h⟩
 ·exact .inl h
 ·exact .inr (List.any_eq_true.2 ⟨_,List.getElem_mem hi,h⟩)
theorem checkT_no {rs:List TRu} (h1:¬ 12 < rs.length) (h2:∀ i (h:i < rs.length),muchT rs[i]=false):checkT rs=if rs.all truOk=true then 0 else 1:=by
 unfold checkT
 rw [if_neg]
 rintro (h|h)
 ·exact h1 h
 ·obtain⟨x,hx,hm⟩:=List.any_eq_true.1 h
  obtain⟨i,hi,rfl⟩:=List.mem_iff_getElem.1 hx
  rw [h2 i hi] at hm
  cases hm
theorem checkT_1 {rs:List TRu} (h1:¬ 12 < rs.length) (h2:∀ i (h:i < rs.length),muchT rs[i]=false) {i:Nat} (hi:i < rs.length) (h3:truOk rs[i]=false):checkT rs=1:=by
 rw [checkT_no h1 h2,if_neg]
 intro h
 rw [List.all_eq_true.1 h _ (List.getElem_mem hi)] at h3
 cases h3
theorem checkT_0 {rs:List TRu} (h1:¬ 12 < rs.length) (h2:∀ i (h:i < rs.length),muchT rs[i]=false) (h3:∀ i (h:i < rs.length),truOk rs[i]=true):checkT rs=0:=by
 rw [checkT_no h1 h2,if_pos]
 refine List.all_eq_true.2 fun x hx=>?_
 obtain⟨i,hi,rfl⟩:=List.mem_iff_getElem.1 hx
 exact h3 i hi
theorem muchT_1 {r:TRu} (h:3 < r.terms.length∨4 < r.body.length∨∃ i,∃ h:i < r.body.length,3 < r.body[i].terms.length):muchT r=true:=by
 unfold muchT
 simp only [Bool.or_eq_true,decide_eq_true_eq]
 rcases h with h|h|⟨i,hi,h⟩
 ·exact .inl (.inl h)
 ·exact .inl (.inr h)
 ·exact .inr (List.any_eq_true.2 ⟨_,List.getElem_mem hi,decide_eq_true h⟩)
theorem muchT_0 {r:TRu} (h1:¬ 3 < r.terms.length) (h2:¬ 4 < r.body.length) (h3:∀ i (h:i < r.body.length),¬ 3 < r.body[i].terms.length):muchT r=false:=by
 unfold muchT
 rw [decide_eq_false h1,decide_eq_false h2,Bool.false_or,Bool.false_or]
 cases h:r.body.any fun x=>decide (3 < x.terms.length) with
 | false=>rfl
 | true =>
  obtain⟨x,hx,hm⟩:=List.any_eq_true.1 h
  obtain⟨i,hi,rfl⟩:=List.mem_iff_getElem.1 hx
  exact absurd (of_decide_eq_true hm) (h3 i hi)
def headOk (r:TRu):Bool:=nameS r.name && tmsOk r.terms && decide (0≤r.fold∧r.fold≤4) && (decide (r.fold=0) || (decide (r.terms≠[]) && decide (r.body≠[])))
theorem truOk_eq (r:TRu):truOk r=(headOk r && r.body.all tlOk):=rfl
theorem tms_step {l:List TTm} {i:Nat} (hi:i < l.length) (h:tmOk l[i]=false):tmsOk l=false:=by
 unfold tmsOk
 cases hb:l.all tmOk with
 | false=>rfl
 | true=>rw [List.all_eq_true.1 hb _ (List.getElem_mem hi)] at h;cases h
theorem tms_end {l:List TTm} (h:∀ i (h:i < l.length),tmOk l[i]=true):tmsOk l=true:=by
 refine List.all_eq_true.2 fun x hx=>?_
 obtain⟨i,hi,rfl⟩:=List.mem_iff_getElem.1 hx
 exact h i hi
theorem nameR_eq (s:ByteArray):nameR s=nameS s:=by unfold nameR nameS;rw [oneS_eq]
attribute [local irreducible] DT
set_option maxHeartbeats 8000000 in
theorem areTerms_fn (l:List TTm):Fn 59 [.d (.slice 2 (l.map encTTm))] (fun r=>r = .d (.bool (tmsOk l))):=by
 refine fnp_enter' _ Tryz.func59 rfl rfl (by kernel_rfl) ?_
 intro O w0 E0 β0
 have ll:(l.map encTTm).length=l.length:=List.length_map _
 refine dw_len (t:=0) rfl (fun hml=>?_)
 rw [ll] at hml
 have hml:l.length≤9223372036854775807:=Nat.le_trans hml (by decide)
 repeat' (first|refine z0 ?_|apply ds_nil|apply dw_seq2|refine z16 ?_|apply dw_block|apply thenD_n)
 refine ds_loop (ι:=Nat) (fun i=>⟨0,[(0,.d (.slice 2 (l.map encTTm))),(3,.d (.int .i64 i))],[]⟩)
  (fun i=>i≤l.length∧∀ j (hj:j < l.length),j < i→tmOk l[j]=true) (fun i=>l.length - i) 0 ⟨Nat.zero_le _,fun j _ h=>absurd h (Nat.not_lt_zero j)⟩ (ent_ren id ⟨rfl,rfl,trivial⟩ trivial rfl rfl rfl rfl rfl rfl) ?_
 rintro i ⟨hi,hk⟩
 dsimp only at hi hk ⊢
 by_cases hil:i < l.length
 ·have w1:=between_fn l[i].n (-9999999) 9999999
  have w2:=isToken_fn 2 l[i].var
  rw [← oneS_eq] at w2
  have hm:tmOk l[i]=if l[i].var=⟨#[]⟩ then decide (-9999999≤l[i].n) && decide (l[i].n≤9999999) else oneS 2 l[i].var && decide (l[i].n=0):=rfl
  cases hb:tmOk l[i] with
  | true =>
   have hnext:∀ j (hj:j < l.length),j < i + 1→tmOk l[j]=true:=fun j hj h=>by
    rcases Nat.lt_or_ge j i with h1|h1
    ·exact hk j hj h1
    ·have:j=i:=by omega
     subst this
     exact hb
   rw [hb] at hm
   by_cases hv:l[i].var=⟨#[]⟩
   ·rw [if_pos hv] at hm
    rw [← hm] at w1
    repeat' (first|refine z0 ?_|refine z12 ?_|apply ds_nil|apply dw_seq2|refine z16 ?_|apply dw_block|apply dw_skip|apply dw_exit|apply dw_ret|refine z18 ?_|refine z19 ?_|apply thenD_n|apply thenD_e|apply thenD_r|apply inB_n|apply inB_r|refine z17 ?_|refine z21 ?_ (hc:=by apply w1)|refine z21 ?_ (hc:=by apply w2)|refine z1 ?_|refine z3 ?_|(refine z23 ?_ ?_ <;> intro hg)|(apply dw_cond;exact rfl;all_goals intro hg)|((fail_if_success (apply ds_known;exact rfl));apply ds_guardP;exact rfl;exact rfl;exact rfl;all_goals intro hg))
    all_goals try (exfalso;first|omega|exact absurd hv (by assumption)|exact absurd (by assumption) hv)
    all_goals exact⟨i + 1,⟨by omega,hnext⟩,ent_ren id ⟨rfl,rfl,trivial⟩ trivial rfl rfl rfl rfl rfl rfl,by show l.length - (i + 1) < l.length - i;omega⟩
   ·rw [if_neg hv] at hm
    have h2:=(Bool.and_eq_true _ _).mp hm.symm
    have h0:=of_decide_eq_true h2.2
    rw [h2.1] at w2
    repeat' (first|refine z0 ?_|refine z12 ?_|apply ds_nil|apply dw_seq2|refine z16 ?_|apply dw_block|apply dw_skip|apply dw_exit|apply dw_ret|refine z18 ?_|refine z19 ?_|apply thenD_n|apply thenD_e|apply thenD_r|apply inB_n|apply inB_r|refine z17 ?_|refine z21 ?_ (hc:=by apply w1)|refine z21 ?_ (hc:=by apply w2)|refine z1 ?_|refine z3 ?_|(refine z23 ?_ ?_ <;> intro hg)|((fail_if_success (apply ds_known;exact rfl));apply ds_guardP;exact rfl;exact rfl;exact rfl;all_goals intro hg)|((fail_if_success (apply ds_known;exact rfl));apply ds_guardB;exact rfl;exact rfl;exact rfl;all_goals intro hg))
    all_goals try (exfalso;first|omega|exact absurd hv (by assumption)|exact absurd (by assumption) hv)
    all_goals exact⟨i + 1,⟨by omega,hnext⟩,ent_ren id ⟨rfl,rfl,trivial⟩ trivial rfl rfl rfl rfl rfl rfl,by show l.length - (i + 1) < l.length - i;omega⟩
  | false =>
   have hend:=tms_step hil hb
   rw [hb] at hm
   by_cases hv:l[i].var=⟨#[]⟩
   ·rw [if_pos hv] at hm
    rw [← hm] at w1
    repeat' (first|refine z0 ?_|refine z12 ?_|apply ds_nil|apply dw_seq2|refine z16 ?_|apply dw_block|apply dw_skip|apply dw_exit|apply dw_ret|refine z18 ?_|refine z19 ?_|apply thenD_n|apply thenD_e|apply thenD_r|apply inB_n|apply inB_r|refine z17 ?_|refine z21 ?_ (hc:=by apply w1)|refine z21 ?_ (hc:=by apply w2)|refine z1 ?_|refine z3 ?_|(refine z23 ?_ ?_ <;> intro hg)|(apply dw_cond;exact rfl;all_goals intro hg)|((fail_if_success (apply ds_known;exact rfl));apply ds_guardP;exact rfl;exact rfl;exact rfl;all_goals intro hg))
    all_goals try (exfalso;first|omega|exact absurd hv (by assumption)|exact absurd (by assumption) hv)
    all_goals exact ret_b rfl hend.symm
   ·rw [if_neg hv] at hm
    cases h2:oneS 2 l[i].var with
    | true =>
     rw [h2] at hm w2
     have h0:=of_decide_eq_false hm.symm
     repeat' (first|refine z0 ?_|refine z12 ?_|apply ds_nil|apply dw_seq2|refine z16 ?_|apply dw_block|apply dw_skip|apply dw_exit|apply dw_ret|refine z18 ?_|refine z19 ?_|apply thenD_n|apply thenD_e|apply thenD_r|apply inB_n|apply inB_r|refine z17 ?_|refine z21 ?_ (hc:=by apply w1)|refine z21 ?_ (hc:=by apply w2)|refine z1 ?_|refine z3 ?_|(refine z23 ?_ ?_ <;> intro hg)|((fail_if_success (apply ds_known;exact rfl));apply ds_guardP;exact rfl;exact rfl;exact rfl;all_goals intro hg)|((fail_if_success (apply ds_known;exact rfl));apply ds_guardB;exact rfl;exact rfl;exact rfl;all_goals intro hg))
     all_goals try (exfalso;first|omega|exact absurd hv (by assumption)|exact absurd (by assumption) hv)
     all_goals exact ret_b rfl hend.symm
    | false =>
     rw [h2] at w2
     repeat' (first|refine z0 ?_|refine z12 ?_|apply ds_nil|apply dw_seq2|refine z16 ?_|apply dw_block|apply dw_skip|apply dw_exit|apply dw_ret|refine z18 ?_|refine z19 ?_|apply thenD_n|apply thenD_e|apply thenD_r|apply inB_n|apply inB_r|refine z17 ?_|refine z21 ?_ (hc:=by apply w1)|refine z21 ?_ (hc:=by apply w2)|refine z1 ?_|refine z3 ?_|(refine z23 ?_ ?_ <;> intro hg)|((fail_if_success (apply ds_known;exact rfl));apply ds_guardP;exact rfl;exact rfl;exact rfl;all_goals intro hg)|((fail_if_success (apply ds_known;exact rfl));apply ds_guardB;exact rfl;exact rfl;exact rfl;all_goals intro hg))
     all_goals try (exfalso;first|omega|exact absurd hv (by assumption)|exact absurd (by assumption) hv)
     all_goals exact ret_b rfl hend.symm
 ·have hend:tmsOk l=true:=tms_end fun j hj=>hk j hj (by omega)
  repeat' (first|refine z0 ?_|refine z12 ?_|apply ds_nil|apply dw_seq2|refine z16 ?_|apply dw_block|apply dw_skip|apply dw_exit|apply dw_ret|refine z18 ?_|refine z19 ?_|apply thenD_n|apply thenD_e|apply thenD_r|apply inB_n|apply inB_r|refine z17 ?_|refine z1 ?_|refine z3 ?_|(refine z23 ?_ ?_ <;> intro hg)|((fail_if_success (apply ds_known;exact rfl));apply ds_guardP;exact rfl;exact rfl;exact rfl;all_goals intro hg))
  all_goals try (exfalso;omega)
  exact ret_b rfl hend.symm
abbrev truB (r:TRu):HB:=.blk 59 [.d (.int .i64 r.at_),.d (.str r.name),.d (.slice 2 (r.terms.map encTTm)),.d (.int .i64 r.fold),.d (.slice 5 (r.body.map encTLt))]
abbrev treeB (rs:List TRu):HB:=.blk 36 [.d (.slice 5 (rs.map encTRu))]
theorem next_all {α:Type} {p:α→Bool} {b:Bool} {l:List α} {i:Nat} (hk:∀ j (hj:j < l.length),j < i→p l[j]=b) (hi:i < l.length) (hb:p l[i]=b):∀ j (hj:j < l.length),j < i + 1→p l[j]=b:=fun j hj h=>by
 rcases Nat.lt_or_ge j i with h1|h1
 ·exact hk j hj h1
 ·have:j=i:=by omega
  subst this
  exact hb
theorem truOk_lit {r:TRu} {k:Nat} (hk:k < r.body.length) (h:tlOk r.body[k]=false):truOk r=false:=by
 rw [truOk_eq]
 cases hb:r.body.all tlOk with
 | false=>exact Bool.and_false _
 | true=>rw [List.all_eq_true.1 hb _ (List.getElem_mem hk)] at h;cases h
theorem truOk_all {r:TRu} (h0:headOk r=true) (h:∀ k (hk:k < r.body.length),tlOk r.body[k]=true):truOk r=true:=by
 rw [truOk_eq,h0,Bool.true_and]
 refine List.all_eq_true.2 fun x hx=>?_
 obtain⟨i,hi,rfl⟩:=List.mem_iff_getElem.1 hx
 exact h i hi
theorem headOk_true {r:TRu} (h:headOk r=true):nameS r.name=true∧tmsOk r.terms=true∧(0≤r.fold∧r.fold≤4)∧(r.fold=0∨(r.terms.length≠0∧r.body.length≠0)):=by
 unfold headOk at h
 simp only [Bool.and_eq_true,Bool.or_eq_true,decide_eq_true_eq] at h
 obtain⟨⟨⟨h1,h2⟩,h3⟩,h4⟩:=h
 exact⟨h1,h2,h3,h4.imp id fun⟨a,b⟩=>⟨fun e=>a (List.length_eq_zero_iff.1 e),fun e=>b (List.length_eq_zero_iff.1 e)⟩⟩
theorem headOk_false {r:TRu} (h:headOk r=false):nameS r.name=false∨tmsOk r.terms=false∨¬(0≤r.fold∧r.fold≤4)∨(r.fold≠0∧(r.terms.length=0∨r.body.length=0)):=by
 unfold headOk at h
 simp only [Bool.and_eq_false_iff,Bool.or_eq_false_iff,decide_eq_false_iff_not] at h
 rcases h with ((h|h)|h)|⟨h,h2⟩
 ·exact .inl h
 ·exact .inr (.inl h)
 ·exact .inr (.inr (.inl h))
 ·refine .inr (.inr (.inr ⟨h,?_⟩))
  rcases h2 with h2|h2
  ·exact .inl (by rw [Classical.not_not.1 h2];rfl)
  ·exact .inr (by rw [Classical.not_not.1 h2];rfl)
set_option maxHeartbeats 8000000 in
theorem checkTree_fn (rs:List TRu):Fn 27 [.agg [.d (.slice 5 (rs.map encTRu))]] (fun o=>o = .d (.int .i64 (checkT rs))):=by
 refine fnp_enter' _ Tryz.func27 rfl rfl (by kernel_rfl) ?_
 intro O w0 E0 β0
 have lr:(rs.map encTRu).length=rs.length:=List.length_map _
 by_cases h12:12 < rs.length
 ·have he:=checkT_2 (rs:=rs) (.inl h12)
  repeat' (first|refine z0 ?_|apply ds_nil|apply dw_seq2|refine z16 ?_|apply dw_block|apply dw_skip|apply dw_ret|apply thenD_n|apply thenD_r|refine z1 ?_|(refine z23 ?_ ?_ <;> intro hg)|fail)
  all_goals try (exfalso;omega)
  exact ret_i rfl he.symm
 repeat' (first|refine z0 ?_|apply ds_nil|apply dw_seq2|refine z16 ?_|apply dw_block|apply dw_skip|apply dw_ret|apply thenD_n|apply thenD_r|refine z1 ?_|(refine z23 ?_ ?_ <;> intro hg)|fail)
 all_goals try (exfalso;omega)
 refine ds_loop (ι:=Nat) (fun i=>⟨1,[(1,.loc 0 0),(3,.d (.int .i64 i))],[(0,treeB rs)]⟩)
  (fun i=>i≤rs.length∧∀ j (hj:j < rs.length),j < i→muchT rs[j]=false) (fun i=>rs.length - i) 0 ⟨Nat.zero_le _,fun j _ h=>absurd h (Nat.not_lt_zero j)⟩ (ent_ren id ⟨rfl,rfl,trivial⟩ ⟨rfl,trivial⟩ rfl rfl rfl rfl rfl rfl) ?_
 rintro i ⟨hi,hk⟩
 dsimp only at hi hk ⊢
 by_cases hil:i < rs.length
 ·have lt:(rs[i].terms.map encTTm).length=rs[i].terms.length:=List.length_map _
  have lb:(rs[i].body.map encTLt).length=rs[i].body.length:=List.length_map _
  by_cases h3:3 < rs[i].terms.length
  ·have he:=checkT_2 (rs:=rs) (.inr ⟨i,hil,muchT_1 (.inl h3)⟩)
   repeat' (first|refine z0 ?_|refine z12 ?_|apply ds_nil|apply dw_seq2|refine z16 ?_|apply dw_block|apply dw_skip|apply dw_exit|apply dw_ret|refine z18 ?_|apply thenD_n|apply thenD_e|apply thenD_r|apply inB_r|refine z17 ?_|refine z1 ?_|refine z3 ?_|(refine z23 ?_ ?_ <;> intro hg)|((fail_if_success (apply ds_known;exact rfl));apply ds_guardP;exact rfl;exact rfl;exact rfl;all_goals intro hg))
   all_goals try (exfalso;omega)
   all_goals exact ret_i rfl he.symm
  by_cases h4:4 < rs[i].body.length
  ·have he:=checkT_2 (rs:=rs) (.inr ⟨i,hil,muchT_1 (.inr (.inl h4))⟩)
   repeat' (first|refine z0 ?_|refine z12 ?_|apply ds_nil|apply dw_seq2|refine z16 ?_|apply dw_block|apply dw_skip|apply dw_exit|apply dw_ret|refine z18 ?_|apply thenD_n|apply thenD_e|apply thenD_r|apply inB_r|refine z17 ?_|refine z1 ?_|refine z3 ?_|(refine z23 ?_ ?_ <;> intro hg)|((fail_if_success (apply ds_known;exact rfl));apply ds_guardP;exact rfl;exact rfl;exact rfl;all_goals intro hg))
   all_goals try (exfalso;omega)
   all_goals exact ret_i rfl he.symm
  repeat' (first|refine z0 ?_|refine z12 ?_|apply ds_nil|apply dw_seq2|refine z16 ?_|apply dw_block|apply dw_skip|apply dw_exit|apply dw_ret|refine z18 ?_|apply thenD_n|apply thenD_e|apply thenD_r|apply inB_r|refine z17 ?_|refine z1 ?_|refine z3 ?_|(refine z23 ?_ ?_ <;> intro hg)|((fail_if_success (apply ds_known;exact rfl));apply ds_guardP;exact rfl;exact rfl;exact rfl;all_goals intro hg))
  all_goals try (exfalso;omega)
  refine ds_loop (ι:=Nat) (fun k=>⟨2,[(1,.loc 0 0),(3,.d (.int .i64 i)),(4,.loc 1 0),(5,.d (.int .i64 k))],[(0,treeB rs),(1,truB rs[i])]⟩)
   (fun k=>k≤rs[i].body.length∧∀ j (hj:j < rs[i].body.length),j < k→decide (3 < rs[i].body[j].terms.length)=false) (fun k=>rs[i].body.length - k) 0 ⟨Nat.zero_le _,fun j _ h=>absurd h (Nat.not_lt_zero j)⟩ (ent_ren id ⟨rfl,rfl,rfl,rfl,trivial⟩ ⟨rfl,rfl,trivial⟩ rfl rfl rfl rfl rfl rfl) ?_
  rintro k ⟨hkl,hkk⟩
  dsimp only at hkl hkk ⊢
  by_cases hkb:k < rs[i].body.length
  ·have lt2:(rs[i].body[k].terms.map encTTm).length=rs[i].body[k].terms.length:=List.length_map _
   by_cases h5:3 < rs[i].body[k].terms.length
   ·have he:=checkT_2 (rs:=rs) (.inr ⟨i,hil,muchT_1 (.inr (.inr ⟨k,hkb,h5⟩))⟩)
    repeat' (first|refine z0 ?_|apply ds_nil|apply dw_seq2|refine z16 ?_|apply dw_block|apply dw_skip|apply dw_exit|apply dw_ret|apply thenD_n|apply thenD_e|apply thenD_r|apply inB_n|apply inB_r|refine z17 ?_|(refine z23 ?_ ?_ <;> intro hg)|fail)
    all_goals try (exfalso;omega)
    all_goals exact ret_i rfl he.symm
   ·have hn:=next_all (p:=fun x:TLt=>decide (3 < x.terms.length)) hkk hkb (decide_eq_false h5)
    repeat' (first|refine z0 ?_|apply ds_nil|apply dw_seq2|refine z16 ?_|apply dw_block|apply dw_skip|apply dw_exit|apply dw_ret|apply thenD_n|apply thenD_e|apply thenD_r|apply inB_n|apply inB_r|refine z17 ?_|(refine z23 ?_ ?_ <;> intro hg)|fail)
    all_goals try (exfalso;omega)
    exact⟨k + 1,⟨by omega,hn⟩,ent_ren id ⟨rfl,rfl,rfl,rfl,trivial⟩ ⟨rfl,rfl,trivial⟩ rfl rfl rfl rfl rfl rfl,by show rs[i].body.length - (k + 1) < rs[i].body.length - k;omega⟩
  ·have hn:=next_all (p:=muchT) hk hil (muchT_0 h3 h4 fun j hj=>of_decide_eq_false (hkk j hj (by omega)))
   repeat' (first|refine z0 ?_|apply ds_nil|apply dw_seq2|refine z16 ?_|apply dw_block|apply dw_skip|apply dw_exit|apply dw_ret|apply thenD_n|apply thenD_e|apply thenD_r|apply inB_n|apply inB_r|refine z17 ?_|(refine z23 ?_ ?_ <;> intro hg)|fail)
   all_goals try (exfalso;omega)
   exact⟨i + 1,⟨by omega,hn⟩,ent_ren id ⟨rfl,rfl,trivial⟩ ⟨rfl,trivial⟩ rfl rfl rfl rfl rfl rfl,by show rs.length - (i + 1) < rs.length - i;omega⟩
 have hno:∀ j (hj:j < rs.length),muchT rs[j]=false:=fun j hj=>hk j hj (by omega)
 clear hk
 repeat' (first|refine z0 ?_|refine z12 ?_|apply ds_nil|apply dw_seq2|refine z16 ?_|apply dw_block|apply dw_skip|apply dw_exit|apply dw_ret|refine z18 ?_|apply thenD_n|apply thenD_e|apply thenD_r|apply inB_r|refine z17 ?_|refine z1 ?_|refine z3 ?_|(refine z23 ?_ ?_ <;> intro hg)|((fail_if_success (apply ds_known;exact rfl));apply ds_guardP;exact rfl;exact rfl;exact rfl;all_goals intro hg))
 all_goals try (exfalso;omega)
 refine ds_loop (ι:=Nat) (fun i=>⟨1,[(1,.loc 0 0),(6,.d (.int .i64 i))],[(0,treeB rs)]⟩)
  (fun i=>i≤rs.length∧∀ j (hj:j < rs.length),j < i→truOk rs[j]=true) (fun i=>rs.length - i) 0 ⟨Nat.zero_le _,fun j _ h=>absurd h (Nat.not_lt_zero j)⟩ (ent_ren id ⟨rfl,rfl,trivial⟩ ⟨rfl,trivial⟩ rfl rfl rfl rfl rfl rfl) ?_
 clear hi hil
 rintro i ⟨hi,hk⟩
 dsimp only at hi hk ⊢
 by_cases hil:i < rs.length
 ·have lt:(rs[i].terms.map encTTm).length=rs[i].terms.length:=List.length_map _
  have lb:(rs[i].body.map encTLt).length=rs[i].body.length:=List.length_map _
  have w1:=isName_fn rs[i].name
  rw [nameR_eq] at w1
  have w2:=areTerms_fn rs[i].terms
  have w3:=between_fn rs[i].fold 0 4
  repeat' ((fail_if_success (apply dw_stopR 18));(first|refine z0 ?_|apply ds_nil|apply dw_seq2|refine z16 ?_|apply dw_block|apply dw_skip|apply dw_exit|apply dw_ret|apply thenD_n|apply thenD_e|refine z17 ?_|refine z1 ?_|refine z3 ?_|(refine z23 ?_ ?_ <;> intro hg)|fail))
  all_goals try (exfalso;omega)
  refine dw_cut (ι:=Unit) (fun _=>⟨2,[(1,.loc 0 0),(6,.d (.int .i64 i)),(7,.loc 1 0)],[(0,treeB rs),(1,truB rs[i])]⟩) (fun _=>headOk rs[i]=true) ?_ ?_
  ·cases hh:headOk rs[i] with
   | false =>
    have he:=checkT_1 h12 hno hil (by rw [truOk_eq,hh];rfl)
    rcases headOk_false hh with h|h|h|⟨h,h'⟩
    ·rw [h] at w1
     repeat' (first|refine z0 ?_|refine z12 ?_|apply ds_nil|apply dw_seq2|refine z16 ?_|apply dw_ret|refine z18 ?_|apply thenD_n|apply thenD_r|apply inB_r|refine z21 ?_ (hc:=by apply w1)|fail)
     all_goals try (exfalso;omega)
     all_goals exact ret_i rfl he.symm
    ·rw [h] at w2
     cases hn:nameS rs[i].name
     all_goals
      rw [hn] at w1
      repeat' (first|refine z0 ?_|refine z12 ?_|apply ds_nil|apply dw_seq2|refine z16 ?_|apply dw_ret|refine z18 ?_|apply thenD_n|apply thenD_r|apply inB_r|refine z21 ?_ (hc:=by apply w1)|refine z21 ?_ (hc:=by apply w2)|fail)
     all_goals try (exfalso;omega)
     all_goals exact ret_i rfl he.symm
    ·rw [show (decide (0≤rs[i].fold) && decide (rs[i].fold≤4))=false by simp;omega] at w3
     cases hn:nameS rs[i].name <;> cases ht:tmsOk rs[i].terms
     all_goals
      rw [hn] at w1
      rw [ht] at w2
      repeat' (first|refine z0 ?_|refine z12 ?_|apply ds_nil|apply dw_seq2|refine z16 ?_|apply dw_ret|refine z18 ?_|apply thenD_n|apply thenD_r|apply inB_r|refine z21 ?_ (hc:=by apply w1)|refine z21 ?_ (hc:=by apply w2)|refine z21 ?_ (hc:=by apply w3)|fail)
     all_goals try (exfalso;omega)
     all_goals exact ret_i rfl he.symm
    ·cases hn:nameS rs[i].name <;> cases ht:tmsOk rs[i].terms <;> cases hf:(decide (0≤rs[i].fold) && decide (rs[i].fold≤4))
     all_goals
      rw [hn] at w1
      rw [ht] at w2
      rw [hf] at w3
      try simp only [Bool.and_eq_true,decide_eq_true_eq] at hf
      repeat' (first|refine z0 ?_|refine z12 ?_|apply ds_nil|apply dw_seq2|refine z16 ?_|apply dw_skip|apply dw_ret|refine z18 ?_|refine z19 ?_|apply thenD_n|apply thenD_r|apply inB_r|refine z21 ?_ (hc:=by apply w1)|refine z21 ?_ (hc:=by apply w2)|refine z21 ?_ (hc:=by apply w3)|(refine z23 ?_ ?_ <;> intro hg)|((fail_if_success (apply ds_known;exact rfl));apply ds_guardP;exact rfl;exact rfl;exact rfl;all_goals intro hg))
     all_goals try (exfalso;omega)
     all_goals exact ret_i rfl he.symm
   | true =>
    obtain⟨a1,a2,a3,a4⟩:=headOk_true hh
    rw [a1] at w1
    rw [a2] at w2
    rw [show (decide (0≤rs[i].fold) && decide (rs[i].fold≤4))=true by simp;omega] at w3
    repeat' (first|refine z0 ?_|refine z12 ?_|apply ds_nil|apply dw_seq2|refine z16 ?_|apply dw_skip|apply dw_ret|refine z18 ?_|refine z19 ?_|apply thenD_n|apply thenD_r|apply inB_r|refine z21 ?_ (hc:=by apply w1)|refine z21 ?_ (hc:=by apply w2)|refine z21 ?_ (hc:=by apply w3)|(refine z23 ?_ ?_ <;> intro hg)|((fail_if_success (apply ds_known;exact rfl));apply ds_guardP;exact rfl;exact rfl;exact rfl;all_goals intro hg))
    all_goals try (exfalso;omega)
    all_goals exact⟨(),rfl,ent_ren id ⟨rfl,rfl,rfl,trivial⟩ ⟨rfl,rfl,trivial⟩ rfl rfl rfl rfl rfl rfl⟩
  ·intro _ hh
   clear w1 w2 w3
   have hb4:rs[i].body.length≤4:=by
    have:=hno i hil
    unfold muchT at this
    simp only [Bool.or_eq_false_iff,decide_eq_false_iff_not] at this
    omega
   repeat' (first|refine z0 ?_|apply ds_nil|apply dw_seq2|refine z16 ?_|apply dw_block|apply thenD_n)
   refine ds_loop (ι:=Nat) (fun k=>⟨2,[(1,.loc 0 0),(6,.d (.int .i64 i)),(7,.loc 1 0),(8,.d (.int .i64 k))],[(0,treeB rs),(1,truB rs[i])]⟩)
    (fun k=>k≤rs[i].body.length∧∀ j (hj:j < rs[i].body.length),j < k→tlOk rs[i].body[j]=true) (fun k=>rs[i].body.length - k) 0 ⟨Nat.zero_le _,fun j _ h=>absurd h (Nat.not_lt_zero j)⟩ (ent_ren id ⟨rfl,rfl,rfl,rfl,trivial⟩ ⟨rfl,rfl,trivial⟩ rfl rfl rfl rfl rfl rfl) ?_
   rintro k ⟨hkl,hkk⟩
   dsimp only at hkl hkk ⊢
   by_cases hkb:k < rs[i].body.length
   ·have lt2:(rs[i].body[k].terms.map encTTm).length=rs[i].body[k].terms.length:=List.length_map _
    have v1:=areTerms_fn rs[i].body[k].terms
    have v2:=isName_fn rs[i].body[k].name
    have v3:=between_fn rs[i].body[k].op 1 4
    have v4:=between_fn rs[i].body[k].op 5 7
    rw [nameR_eq] at v2
    cases hb1:tmsOk rs[i].body[k].terms <;> cases hb2:nameS rs[i].body[k].name
    all_goals
     rw [hb1] at v1
     rw [hb2] at v2
     repeat' (first|refine z0 ?_|refine z12 ?_|apply ds_nil|apply dw_seq2|refine z16 ?_|apply dw_block|apply dw_skip|apply dw_exit|apply dw_ret|refine z18 ?_|refine z19 ?_|apply thenD_n|apply thenD_e|apply thenD_r|apply inB_n|apply inB_r|refine z17 ?_|refine z21 ?_ (hc:=by apply v1)|refine z21 ?_ (hc:=by apply v2)|refine z21 ?_ (hc:=by apply v3)|refine z21 ?_ (hc:=by apply v4)|refine z1 ?_|refine z3 ?_|(refine z23 ?_ ?_ <;> intro hg)|(apply dw_cond;exact rfl;all_goals intro hg)|((fail_if_success (apply ds_known;exact rfl));apply ds_guardP;exact rfl;exact rfl;exact rfl;all_goals intro hg)|((fail_if_success (apply ds_known;exact rfl));apply ds_guardB;exact rfl;exact rfl;exact rfl;all_goals intro hg))
    all_goals try (exfalso;omega)
    all_goals first
     | exact ret_i rfl (checkT_1 h12 hno hil (truOk_lit hkb (by unfold tlOk;first|(simp_all;done)|(simp_all;omega)))).symm
     | exact⟨k + 1,⟨by omega,next_all hkk hkb (by unfold tlOk;first|(simp_all;done)|(simp_all;omega))⟩,ent_ren id ⟨rfl,rfl,rfl,rfl,trivial⟩ ⟨rfl,rfl,trivial⟩ rfl rfl rfl rfl rfl rfl,by show rs[i].body.length - (k + 1) < rs[i].body.length - k;omega⟩
   ·have hn:=next_all (p:=truOk) hk hil (truOk_all hh fun j hj=>hkk j hj (by omega))
    repeat' (first|refine z0 ?_|apply ds_nil|apply dw_seq2|refine z16 ?_|apply dw_block|apply dw_skip|apply dw_exit|apply thenD_n|apply thenD_e|apply inB_n|refine z17 ?_|refine z1 ?_|refine z3 ?_|(refine z23 ?_ ?_ <;> intro hg)|fail)
    all_goals try (exfalso;omega)
    exact⟨i + 1,⟨by omega,hn⟩,ent_ren id ⟨rfl,rfl,trivial⟩ ⟨rfl,trivial⟩ rfl rfl rfl rfl rfl rfl,by show rs.length - (i + 1) < rs.length - i;omega⟩
 ·have he:=checkT_0 h12 hno fun j hj=>hk j hj (by omega)
  repeat' (first|refine z0 ?_|apply ds_nil|apply dw_seq2|refine z16 ?_|apply dw_block|apply dw_skip|apply dw_exit|apply dw_ret|apply thenD_n|apply thenD_e|refine z17 ?_|refine z1 ?_|refine z3 ?_|(refine z23 ?_ ?_ <;> intro hg)|fail)
  all_goals try (exfalso;omega)
  exact ret_i rfl he.symm
end Go.Proofs.YtapciiffpnociacGreatDoor
