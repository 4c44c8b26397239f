/- Several texts in one: TreK TreL ScoC ScoD ScoF TreN TreR TreCk. Condition: none. -/
import Derived.Test.YtapciiffpnociabDoorT11
import Derived.Test.YtapciiffpnociabDoorT09
import Derived.Test.YtapciiffpnociabDoorT10
namespace Go.Proofs.YtapciiffpnociabDoor
open Go Go.RowKit
abbrev elTTm (t:TTm):SV:=.agg [.d (.str t.var),.d (.int .i64 t.n)]
abbrev elTLt (x:TLt):SV:=.agg [.d (.int .i64 x.kind),.d (.int .i64 x.at_),.d (.int .i64 x.op),.d (.str x.name),.d (.slice 2 (x.terms.map encTTm))]
abbrev elTRu (x:TRu):SV:=.agg [.d (.int .i64 x.at_),.d (.str x.name),.d (.slice 2 (x.terms.map encTTm)),.d (.int .i64 x.fold),.d (.slice 5 (x.body.map encTLt))]
attribute [local irreducible] DW DS DL DQ Ev FnOk FnP thenD inBlockD DT
set_option maxHeartbeats 8000000 in
theorem indexTm_fn {f:FuncId} {caps:List SV} (p:TTm→Bool) (l:List (TTm)) (hcap:SV.lowL 0 caps=true) (hp:∀ x∈l,Fn f (elTTm x::caps) (fun r=>r = .d (.bool (p x)))):Fn 93 [.d (.slice 2 (l.map encTTm)),.fn f caps] (fun r=>r = .d (.int .i64 (idxF p l))):=by
 refine fnp_enter' _ Tryd.func93 rfl rfl (by kernel_rfl) ?_
 intro O w0 E0 β0
 refine dw_len_map (t:=0) rfl fun hb=>?_
 repeat' (first|refine z0 ?_|apply ds_nil|apply dw_seq2|refine z16 ?_|apply dw_block|apply thenD_n)
 refine ds_loop (ι:=Nat) (fun i=>⟨0,[(0,.d (.slice 2 (l.map encTTm))),(1,.fn f caps),(7,.d (.int .i64 l.length)),(8,.d (.int .i64 i))],[]⟩)
  (fun i=>i≤l.length∧∀ j (hj:j < l.length),j < i→p l[j]=false) (fun i=>l.length - i) 0 ⟨Nat.zero_le _,fun j _ h=>absurd h (Nat.not_lt_zero j)⟩
  (ent_ren id ⟨rfl,congrArg (SV.fn f) (SV.renL_id caps).symm,by simp;rfl,rfl,trivial⟩ trivial (by simp [Sl.low,SV.low,hcap]) rfl rfl rfl rfl rfl) ?_
 rintro i ⟨h1,h2⟩
 repeat' (first|refine z0 ?_|apply ds_nil|apply dw_seq2|refine z16 ?_|apply thenD_n)
 refine dw_condP rfl (fun h=>?_) (fun h=>?_)
 ·have hi:i < l.length:=by omega
  have hpx:=hp l[i] (List.getElem_mem hi)
  repeat' (first|refine z0 ?_|apply ds_nil|apply dw_seq2|refine z16 ?_|apply dw_block|apply dw_skip|apply thenD_n|(apply ds_callV;exact rfl;exact rfl;exact rfl;exact rfl;apply hpx;exact rfl;(assumption);exact rfl;rintro _ rfl))
  refine dw_cond rfl (fun hb=>?_) (fun hb=>?_)
  ·repeat' (first|refine z0 ?_|apply ds_nil|apply dw_seq2|refine z16 ?_|apply dw_ret|apply thenD_n|apply thenD_r|apply inB_r)
   exact ret_i rfl (idxF_hit h2 hi hb).symm
  ·repeat' (first|refine z0 ?_|apply ds_nil|refine z16 ?_|apply dw_skip|apply thenD_n|apply inB_n)
   exact⟨i + 1,⟨hi,none_step h2 hi hb⟩,ent_ren id ⟨rfl,congrArg (SV.fn f) (SV.renL_id caps).symm,rfl,rfl,trivial⟩ trivial (by simp [Sl.low,SV.low,hcap]) rfl rfl rfl rfl rfl,by omega⟩
 ·repeat' (first|refine z0 ?_|apply ds_nil|apply dw_seq2|refine z16 ?_|apply dw_exit|apply dw_ret|apply thenD_n|apply thenD_e|refine z17 ?_|fail)
  exact ret_i rfl (idxF_none fun j hj=>h2 j hj (by omega)).symm
set_option maxHeartbeats 8000000 in
theorem containsTm_fn {f:FuncId} {caps:List SV} (p:TTm→Bool) (l:List (TTm)) (hcap:SV.lowL 0 caps=true) (hp:∀ x∈l,Fn f (elTTm x::caps) (fun r=>r = .d (.bool (p x)))):Fn 66 [.d (.slice 2 (l.map encTTm)),.fn f caps] (fun r=>r = .d (.bool (l.any p))):=by
 refine fnp_enter' _ Tryd.func66 rfl rfl (by kernel_rfl) ?_
 intro O w0 E0 β0
 have hx:=indexTm_fn p l hcap hp
 have hlow:SV.lowL 0 [.d (.slice 2 (l.map encTTm)),.fn f caps]=true:=by simp [SV.lowL,SV.low,hcap]
 repeat' (first|refine z0 ?_|apply ds_nil|apply dw_seq2|refine z16 ?_|apply dw_ret|apply thenD_n|refine z21 ?_ (hc:=by apply hx)|fail)
 exact ret_b rfl (idxF_any p l)
set_option maxHeartbeats 8000000 in
theorem indexTl_fn {f:FuncId} {caps:List SV} (p:TLt→Bool) (l:List (TLt)) (hcap:SV.lowL 0 caps=true) (hp:∀ x∈l,Fn f (elTLt x::caps) (fun r=>r = .d (.bool (p x)))):Fn 63 [.d (.slice 5 (l.map encTLt)),.fn f caps] (fun r=>r = .d (.int .i64 (idxF p l))):=by
 refine fnp_enter' _ Tryd.func63 rfl rfl (by kernel_rfl) ?_
 intro O w0 E0 β0
 refine dw_len_map (t:=0) rfl fun hb=>?_
 repeat' (first|refine z0 ?_|apply ds_nil|apply dw_seq2|refine z16 ?_|apply dw_block|apply thenD_n)
 refine ds_loop (ι:=Nat) (fun i=>⟨0,[(0,.d (.slice 5 (l.map encTLt))),(1,.fn f caps),(7,.d (.int .i64 l.length)),(8,.d (.int .i64 i))],[]⟩)
  (fun i=>i≤l.length∧∀ j (hj:j < l.length),j < i→p l[j]=false) (fun i=>l.length - i) 0 ⟨Nat.zero_le _,fun j _ h=>absurd h (Nat.not_lt_zero j)⟩
  (ent_ren id ⟨rfl,congrArg (SV.fn f) (SV.renL_id caps).symm,by simp;rfl,rfl,trivial⟩ trivial (by simp [Sl.low,SV.low,hcap]) rfl rfl rfl rfl rfl) ?_
 rintro i ⟨h1,h2⟩
 repeat' (first|refine z0 ?_|apply ds_nil|apply dw_seq2|refine z16 ?_|apply thenD_n)
 refine dw_condP rfl (fun h=>?_) (fun h=>?_)
 ·have hi:i < l.length:=by omega
  have hpx:=hp l[i] (List.getElem_mem hi)
  repeat' (first|refine z0 ?_|apply ds_nil|apply dw_seq2|refine z16 ?_|apply dw_block|apply dw_skip|apply thenD_n|(apply ds_callV;exact rfl;exact rfl;exact rfl;exact rfl;apply hpx;exact rfl;(assumption);exact rfl;rintro _ rfl))
  refine dw_cond rfl (fun hb=>?_) (fun hb=>?_)
  ·repeat' (first|refine z0 ?_|apply ds_nil|apply dw_seq2|refine z16 ?_|apply dw_ret|apply thenD_n|apply thenD_r|apply inB_r)
   exact ret_i rfl (idxF_hit h2 hi hb).symm
  ·repeat' (first|refine z0 ?_|apply ds_nil|refine z16 ?_|apply dw_skip|apply thenD_n|apply inB_n)
   exact⟨i + 1,⟨hi,none_step h2 hi hb⟩,ent_ren id ⟨rfl,congrArg (SV.fn f) (SV.renL_id caps).symm,rfl,rfl,trivial⟩ trivial (by simp [Sl.low,SV.low,hcap]) rfl rfl rfl rfl rfl,by omega⟩
 ·repeat' (first|refine z0 ?_|apply ds_nil|apply dw_seq2|refine z16 ?_|apply dw_exit|apply dw_ret|apply thenD_n|apply thenD_e|refine z17 ?_|fail)
  exact ret_i rfl (idxF_none fun j hj=>h2 j hj (by omega)).symm
set_option maxHeartbeats 8000000 in
theorem containsTl_fn {f:FuncId} {caps:List SV} (p:TLt→Bool) (l:List (TLt)) (hcap:SV.lowL 0 caps=true) (hp:∀ x∈l,Fn f (elTLt x::caps) (fun r=>r = .d (.bool (p x)))):Fn 42 [.d (.slice 5 (l.map encTLt)),.fn f caps] (fun r=>r = .d (.bool (l.any p))):=by
 refine fnp_enter' _ Tryd.func42 rfl rfl (by kernel_rfl) ?_
 intro O w0 E0 β0
 have hx:=indexTl_fn p l hcap hp
 have hlow:SV.lowL 0 [.d (.slice 5 (l.map encTLt)),.fn f caps]=true:=by simp [SV.lowL,SV.low,hcap]
 repeat' (first|refine z0 ?_|apply ds_nil|apply dw_seq2|refine z16 ?_|apply dw_ret|apply thenD_n|refine z21 ?_ (hc:=by apply hx)|fail)
 exact ret_b rfl (idxF_any p l)
set_option maxHeartbeats 8000000 in
theorem indexTr_fn {f:FuncId} {caps:List SV} (p:TRu→Bool) (l:List (TRu)) (hcap:SV.lowL 0 caps=true) (hp:∀ x∈l,Fn f (elTRu x::caps) (fun r=>r = .d (.bool (p x)))):Fn 41 [.d (.slice 5 (l.map encTRu)),.fn f caps] (fun r=>r = .d (.int .i64 (idxF p l))):=by
 refine fnp_enter' _ Tryd.func41 rfl rfl (by kernel_rfl) ?_
 intro O w0 E0 β0
 refine dw_len_map (t:=0) rfl fun hb=>?_
 repeat' (first|refine z0 ?_|apply ds_nil|apply dw_seq2|refine z16 ?_|apply dw_block|apply thenD_n)
 refine ds_loop (ι:=Nat) (fun i=>⟨0,[(0,.d (.slice 5 (l.map encTRu))),(1,.fn f caps),(7,.d (.int .i64 l.length)),(8,.d (.int .i64 i))],[]⟩)
  (fun i=>i≤l.length∧∀ j (hj:j < l.length),j < i→p l[j]=false) (fun i=>l.length - i) 0 ⟨Nat.zero_le _,fun j _ h=>absurd h (Nat.not_lt_zero j)⟩
  (ent_ren id ⟨rfl,congrArg (SV.fn f) (SV.renL_id caps).symm,by simp;rfl,rfl,trivial⟩ trivial (by simp [Sl.low,SV.low,hcap]) rfl rfl rfl rfl rfl) ?_
 rintro i ⟨h1,h2⟩
 repeat' (first|refine z0 ?_|apply ds_nil|apply dw_seq2|refine z16 ?_|apply thenD_n)
 refine dw_condP rfl (fun h=>?_) (fun h=>?_)
 ·have hi:i < l.length:=by omega
  have hpx:=hp l[i] (List.getElem_mem hi)
  repeat' (first|refine z0 ?_|apply ds_nil|apply dw_seq2|refine z16 ?_|apply dw_block|apply dw_skip|apply thenD_n|(apply ds_callV;exact rfl;exact rfl;exact rfl;exact rfl;apply hpx;exact rfl;(assumption);exact rfl;rintro _ rfl))
  refine dw_cond rfl (fun hb=>?_) (fun hb=>?_)
  ·repeat' (first|refine z0 ?_|apply ds_nil|apply dw_seq2|refine z16 ?_|apply dw_ret|apply thenD_n|apply thenD_r|apply inB_r)
   exact ret_i rfl (idxF_hit h2 hi hb).symm
  ·repeat' (first|refine z0 ?_|apply ds_nil|refine z16 ?_|apply dw_skip|apply thenD_n|apply inB_n)
   exact⟨i + 1,⟨hi,none_step h2 hi hb⟩,ent_ren id ⟨rfl,congrArg (SV.fn f) (SV.renL_id caps).symm,rfl,rfl,trivial⟩ trivial (by simp [Sl.low,SV.low,hcap]) rfl rfl rfl rfl rfl,by omega⟩
 ·repeat' (first|refine z0 ?_|apply ds_nil|apply dw_seq2|refine z16 ?_|apply dw_exit|apply dw_ret|apply thenD_n|apply thenD_e|refine z17 ?_|fail)
  exact ret_i rfl (idxF_none fun j hj=>h2 j hj (by omega)).symm
set_option maxHeartbeats 8000000 in
theorem containsTr_fn {f:FuncId} {caps:List SV} (p:TRu→Bool) (l:List (TRu)) (hcap:SV.lowL 0 caps=true) (hp:∀ x∈l,Fn f (elTRu x::caps) (fun r=>r = .d (.bool (p x)))):Fn 17 [.d (.slice 5 (l.map encTRu)),.fn f caps] (fun r=>r = .d (.bool (l.any p))):=by
 refine fnp_enter' _ Tryd.func17 rfl rfl (by kernel_rfl) ?_
 intro O w0 E0 β0
 have hx:=indexTr_fn p l hcap hp
 have hlow:SV.lowL 0 [.d (.slice 5 (l.map encTRu)),.fn f caps]=true:=by simp [SV.lowL,SV.low,hcap]
 repeat' (first|refine z0 ?_|apply ds_nil|apply dw_seq2|refine z16 ?_|apply dw_ret|apply thenD_n|refine z21 ?_ (hc:=by apply hx)|fail)
 exact ret_b rfl (idxF_any p l)
theorem not_any {α:Type} (p:α→Bool):∀ l:List α,(!l.any fun t=>!p t)=l.all p
 | []=>rfl
 | a::l=>by rw [List.any_cons,List.all_cons,← not_any p l];cases p a <;> rfl
set_option maxHeartbeats 8000000 in
theorem tokenVar_fn (s:ByteArray):Fn 94 [.d (.str s)] (fun r=>r = .d (.bool (oneS 2 s))):=by
 refine fnp_enter' _ Tryd.func94 rfl rfl (by kernel_rfl) ?_
 intro O w0 E0 β0
 repeat' (first|refine z0 ?_|apply ds_nil|apply dw_seq2|refine z16 ?_|apply dw_ret|apply thenD_n|refine z21 ?_ (hc:=by apply one_fn)|fail)
 exact ret_b rfl rfl
set_option maxHeartbeats 8000000 in
theorem ttm_fn (t:TTm):Fn 68 [elTTm t] (fun r=>r = .d (.bool (tmOk t))):=by
 refine fnp_enter' _ Tryd.func68 rfl rfl (by kernel_rfl) ?_
 intro O w0 E0 β0
 have w1:=tokenVar_fn t.var
 unfold tmOk
 by_cases hv:t.var=⟨#[]⟩
 ·rw [if_pos hv]
  repeat' (first|refine z0 ?_|refine z12 ?_|apply ds_nil|apply dw_seq2|refine z16 ?_|apply dw_skip|apply dw_ret|apply thenD_n|apply thenD_r|refine z21 ?_ (hc:=by apply w1)|refine z1 ?_|(refine z23 ?_ ?_ <;> intro hg)|((fail_if_success (apply ds_known;exact rfl));apply ds_guardP;exact rfl;exact rfl;exact rfl;all_goals intro hg)|((fail_if_success (apply ds_known;exact rfl));apply ds_guardB;exact rfl;exact rfl;exact rfl;all_goals intro hg))
  all_goals try (exfalso;exact absurd hv (by assumption))
  all_goals exact ret_b rfl (by first|(simp_all;done)|(simp_all;omega))
 ·rw [if_neg hv]
  cases ho:oneS 2 t.var
  all_goals
   rw [ho] at w1
   repeat' (first|refine z0 ?_|refine z12 ?_|apply ds_nil|apply dw_seq2|refine z16 ?_|apply dw_skip|apply dw_ret|apply thenD_n|apply thenD_r|refine z21 ?_ (hc:=by apply w1)|refine z1 ?_|(refine z23 ?_ ?_ <;> intro hg)|((fail_if_success (apply ds_known;exact rfl));apply ds_guardP;exact rfl;exact rfl;exact rfl;all_goals intro hg))
  all_goals try (exfalso;exact absurd (by assumption) hv)
  all_goals exact ret_b rfl (by first|(simp_all;done)|(simp_all;omega))
set_option maxHeartbeats 8000000 in
theorem ttm1_fn (t:TTm):Fn 67 [elTTm t] (fun r=>r = .d (.bool (!tmOk t))):=by
 refine fnp_enter' _ Tryd.func67 rfl rfl (by kernel_rfl) ?_
 intro O w0 E0 β0
 have w1:=ttm_fn t
 repeat' (first|refine z0 ?_|apply ds_nil|apply dw_seq2|refine z16 ?_|apply dw_ret|apply thenD_n|refine z21 ?_ (hc:=by apply w1)|refine z1 ?_|fail)
 exact ret_b rfl rfl
set_option maxHeartbeats 8000000 in
theorem ttms_fn (l:List TTm):Fn 45 [.d (.slice 2 (l.map encTTm))] (fun r=>r = .d (.bool (tmsOk l))):=by
 refine fnp_enter' _ Tryd.func45 rfl rfl (by kernel_rfl) ?_
 intro O w0 E0 β0
 have w1:=containsTm_fn (caps:=[]) (f:=67) (fun t=>!tmOk t) l rfl (fun x _=>ttm1_fn x)
 repeat' (first|refine z0 ?_|apply ds_nil|apply dw_seq2|refine z16 ?_|apply dw_ret|apply thenD_n|refine z21 ?_ (hc:=by apply w1)|fail)
 refine ret_b rfl ?_
 exact not_any tmOk l
set_option maxHeartbeats 8000000 in
theorem twithin_fn (n a b:Int):Fn 46 [.d (.int .i64 n),.d (.int .i64 a),.d (.int .i64 b)] (fun r=>r = .d (.bool (decide (a≤n∧n≤b)))):=by
 refine fnp_enter' _ Tryd.func46 rfl rfl (by kernel_rfl) ?_
 intro O w0 E0 β0
 repeat' (first|refine z0 ?_|refine z12 ?_|apply ds_nil|apply dw_seq2|refine z16 ?_|apply dw_ret|apply thenD_n|((fail_if_success (apply ds_known;exact rfl));apply ds_guardP;exact rfl;exact rfl;exact rfl;all_goals intro hg))
 all_goals exact ret_b rfl (by first|(simp_all;done)|(simp_all;omega))
set_option maxHeartbeats 8000000 in
theorem tlit_fn (x:TLt):Fn 48 [elTLt x] (fun r=>r = .d (.bool (tlOk x))):=by
 refine fnp_enter' _ Tryd.func48 rfl rfl (by kernel_rfl) ?_
 intro O w0 E0 β0
 have w1:=ttms_fn x.terms
 have w2:=treeName_fn x.name
 have w3:=twithin_fn x.op 1 4
 have w4:=twithin_fn x.op 5 7
 have lt:(x.terms.map encTTm).length=x.terms.length:=List.length_map _
 unfold tlOk
 generalize tmsOk x.terms=b1 at *
 generalize nameS x.name=b2 at *
 cases b1 <;> cases b2 <;> repeat' (first|refine z0 ?_|refine z12 ?_|apply ds_nil|apply dw_seq2|refine z16 ?_|apply dw_block|apply dw_skip|apply dw_ret|apply thenD_n|apply inB_n|refine z21 ?_ (hc:=by apply w1)|refine z21 ?_ (hc:=by apply w2)|refine z21 ?_ (hc:=by apply w3)|refine z21 ?_ (hc:=by apply w4)|refine z1 ?_|(refine z23 ?_ ?_ <;> intro hg)|((fail_if_success (apply ds_known;exact rfl));apply ds_guardP;exact rfl;exact rfl;exact rfl;all_goals intro hg))
 all_goals try (exfalso;omega)
 all_goals first|exact ret_b rfl (by first|(simp_all;done)|(simp_all;omega))
set_option maxHeartbeats 8000000 in
theorem tlit1_fn (x:TLt):Fn 47 [elTLt x] (fun r=>r = .d (.bool (!tlOk x))):=by
 refine fnp_enter' _ Tryd.func47 rfl rfl (by kernel_rfl) ?_
 intro O w0 E0 β0
 have w1:=tlit_fn x
 repeat' (first|refine z0 ?_|apply ds_nil|apply dw_seq2|refine z16 ?_|apply dw_ret|apply thenD_n|refine z21 ?_ (hc:=by apply w1)|refine z1 ?_|fail)
 exact ret_b rfl rfl
set_option maxHeartbeats 8000000 in
theorem muchL_fn (x:TLt):Fn 43 [elTLt x] (fun r=>r = .d (.bool (decide (3 < x.terms.length)))):=by
 refine fnp_enter' _ Tryd.func43 rfl rfl (by kernel_rfl) ?_
 intro O w0 E0 β0
 have lt:(x.terms.map encTTm).length=x.terms.length:=List.length_map _
 repeat' (first|refine z0 ?_|apply ds_nil|apply dw_seq2|refine z16 ?_|apply dw_ret|apply thenD_n|refine z1 ?_|fail)
 exact ret_b rfl (by rw [lt];apply decide_eq_decide.2;omega)
set_option maxHeartbeats 8000000 in
theorem much_fn (r:TRu):Fn 18 [elTRu r] (fun o=>o = .d (.bool (muchT r))):=by
 refine fnp_enter' _ Tryd.func18 rfl rfl (by kernel_rfl) ?_
 intro O w0 E0 β0
 have lt:(r.terms.map encTTm).length=r.terms.length:=List.length_map _
 have lb:(r.body.map encTLt).length=r.body.length:=List.length_map _
 have w1:=containsTl_fn (caps:=[]) (f:=43) (fun x=>decide (3 < x.terms.length)) r.body rfl (fun x _=>muchL_fn x)
 unfold muchT
 generalize (r.body.any fun x=>decide (3 < x.terms.length))=b at *
 cases b <;> repeat' (first|refine z0 ?_|refine z12 ?_|apply ds_nil|apply dw_seq2|refine z16 ?_|apply dw_ret|apply thenD_n|refine z21 ?_ (hc:=by apply w1)|refine z1 ?_|((fail_if_success (apply ds_known;exact rfl));apply ds_guardP;exact rfl;exact rfl;exact rfl;all_goals intro hg))
 all_goals try (exfalso;omega)
 all_goals first|exact ret_b rfl (by first|(simp_all;done)|(simp_all;omega))
set_option maxHeartbeats 8000000 in
theorem trule0_fn (r:TRu):Fn 20 [elTRu r] (fun o=>o = .d (.bool (truOk r))):=by
 refine fnp_enter' _ Tryd.func20 rfl rfl (by kernel_rfl) ?_
 intro O w0 E0 β0
 have lt:(r.terms.map encTTm).length=r.terms.length:=List.length_map _
 have lb:(r.body.map encTLt).length=r.body.length:=List.length_map _
 have w1:=treeName_fn r.name
 have w2:=ttms_fn r.terms
 have w3:=twithin_fn r.fold 0 4
 have w4:=containsTl_fn (caps:=[]) (f:=47) (fun x=>!tlOk x) r.body rfl (fun x _=>tlit1_fn x)
 have e4:=not_any tlOk r.body
 have e1:(r.terms=[])↔r.terms.length=0:=List.length_eq_zero_iff.symm
 have e2:(r.body=[])↔r.body.length=0:=List.length_eq_zero_iff.symm
 unfold truOk
 rw [← e4]
 generalize (r.body.any fun x=>!tlOk x)=b4 at *
 generalize tmsOk r.terms=b1 at *
 generalize nameS r.name=b2 at *
 clear e4
 cases b1 <;> cases b2 <;> cases b4 <;> repeat' (first|refine z0 ?_|refine z12 ?_|apply ds_nil|apply dw_seq2|refine z16 ?_|apply dw_skip|apply dw_ret|refine z18 ?_|refine z19 ?_|apply thenD_n|apply thenD_r|refine z21 ?_ (hc:=by apply w1)|refine z21 ?_ (hc:=by apply w2)|refine z21 ?_ (hc:=by apply w3)|refine z21 ?_ (hc:=by apply w4)|refine z1 ?_|(refine z23 ?_ ?_ <;> intro hg)|(apply dw_cond;exact rfl;all_goals intro hg)|((fail_if_success (apply ds_known;exact rfl));apply ds_guardP;exact rfl;exact rfl;exact rfl;all_goals intro hg))
 all_goals try (exfalso;omega)
 all_goals first|exact ret_b rfl (by first|(simp_all;done)|(simp_all;omega))
set_option maxHeartbeats 8000000 in
theorem trule1_fn (r:TRu):Fn 19 [elTRu r] (fun o=>o = .d (.bool (!truOk r))):=by
 refine fnp_enter' _ Tryd.func19 rfl rfl (by kernel_rfl) ?_
 intro O w0 E0 β0
 have w1:=trule0_fn r
 repeat' (first|refine z0 ?_|apply ds_nil|apply dw_seq2|refine z16 ?_|apply dw_ret|apply thenD_n|refine z21 ?_ (hc:=by apply w1)|refine z1 ?_|fail)
 exact ret_b rfl rfl
set_option maxHeartbeats 8000000 in
theorem tcheck_fn (rs:List TRu):Fn 9 [.agg [.d (.slice 5 (rs.map encTRu))]] (fun o=>o = .d (.int .i64 (checkT rs))):=by
 refine fnp_enter' _ Tryd.func9 rfl rfl (by kernel_rfl) ?_
 intro O w0 E0 β0
 have lr:(rs.map encTRu).length=rs.length:=List.length_map _
 have w1:=containsTr_fn (caps:=[]) (f:=18) muchT rs rfl (fun x _=>much_fn x)
 have w2:=containsTr_fn (caps:=[]) (f:=19) (fun x=>!truOk x) rs rfl (fun x _=>trule1_fn x)
 unfold checkT
 rw [← not_any truOk rs]
 generalize (rs.any fun x=>!truOk x)=b1 at *
 generalize rs.any muchT=b2 at *
 cases b1 <;> cases b2 <;> repeat' (first|refine z0 ?_|refine z12 ?_|apply ds_nil|apply dw_seq2|refine z16 ?_|apply dw_block|apply dw_skip|apply dw_ret|refine z18 ?_|refine z19 ?_|apply thenD_n|apply thenD_r|apply inB_n|apply inB_r|refine z21 ?_ (hc:=by apply w1)|refine z21 ?_ (hc:=by apply w2)|refine z1 ?_|((fail_if_success (apply ds_known;exact rfl));apply ds_guardP;exact rfl;exact rfl;exact rfl;all_goals intro hg))
 all_goals try (exfalso;omega)
 all_goals exact ret_i rfl (by first|(simp_all;done)|(simp_all;omega))
end Go.Proofs.YtapciiffpnociabDoor
namespace Go.Proofs.YtapciiffpnociabDoor
open Go Go.RowKit
theorem chain_atT {s:ByteArray}:∀ (l:List Tok) (i:Nat),Chain s i l→∀ t∈l,0≤t.at_∧t.at_≤s.size
 | [],_,_,_,ht=>nomatch ht
 | t::l,i,h,x,hx=>by
  obtain⟨j,_,hat,⟨hj,_,_⟩,_,_,h5⟩:=h
  rcases List.mem_cons.1 hx with rfl|hx
  ·omega
  ·exact chain_atT l _ h5 x hx
theorem chain_lenT {s:ByteArray}:∀ (l:List Tok) (i:Nat),Chain s i l→i≤s.size→l.length + i≤s.size
 | [],_,_,h=>by simpa using h
 | t::l,i,h,hi=>by
  obtain⟨j,hij,hat,⟨hj,h1,h2⟩,h3,h4,h5⟩:=h
  have hk:=tokErr_kind h2
  have hp:=tokAt_pos (s.data.toList.drop j) (by rw [h1];exact hk)
  rw [h1] at hp
  have:=chain_lenT l _ h5 (by omega)
  rw [List.length_cons]
  omega
def encParse (q:List TRu × Int × Int):SV:=.tup [treeV q.1,.d (.int .i64 q.2.1),.d (.int .i64 q.2.2)]
attribute [local irreducible] DW DS DL DQ Ev FnOk FnP FnOkE thenD inBlockD
set_option maxHeartbeats 8000000 in
theorem tparse_fn (s:ByteArray):Fn 16 [.d (.str s)] (fun r=>r=encParse (parseS s)):=by
 refine fnp_enter' _ Tryd.func16 rfl rfl (by kernel_rfl) ?_
 intro O w0 E0 β0
 have w1:=scan_fn s
 unfold encScan at w1
 obtain⟨⟨l,p,er⟩,hq⟩:∃ q,q=scanS s:=⟨_,rfl⟩
 unfold parseS
 rw [← hq] at w1 ⊢
 dsimp only at w1 ⊢
 unfold encParse
 by_cases he:er=0
 ·subst he
  obtain⟨hc,hs,hp⟩:=scanS_chain s l p hq.symm
  have hok:=scanS_all hq.symm
  have hlen:=chain_lenT l 0 hc (Nat.zero_le _)
  have hat:=chain_atT l 0 hc
  have w2:=pparse_fn l s.size (fun j=>by
   unfold hereT
   by_cases hj:j < l.length
   ·rw [List.getElem?_eq_getElem hj]
    have:=hat _ (List.getElem_mem hj)
    exact i64_wf (by dsimp only;omega) (by dsimp only;omega)
   ·rw [List.getElem?_eq_none (by omega)]
    exact i64_wf (by dsimp only;omega) (by dsimp only;omega)) (by omega) hok
  rw [if_neg (by simp)]
  repeat' (first|refine z0 ?_|apply ds_nil|apply dw_seq2|refine z16 ?_|apply dw_skip|refine z19 ?_|apply thenD_n|refine z21 ?_ (hc:=by apply w1)|refine z1 ?_|fail)
  all_goals try (exfalso;omega)
  refine ds_callF (fun _=>1) w2 rfl rfl rfl rfl ⟨rfl,trivial⟩ rfl rfl rfl rfl rfl rfl ?_ ?_
  ·rintro k2 res H2 hR
   unfold parseR at hR
   cases hr:rulesGo l s.size (l.length + 1) 0 [] with
   | error j=>rw [hr] at hR;obtain⟨rfl,rfl,rfl⟩:=hR;exact⟨rfl,rfl⟩
   | ok rs=>rw [hr] at hR;obtain⟨rfl,rfl,rfl⟩:=hR;exact⟨rfl,rfl⟩
  rintro k2 res H2 hR
  unfold parseR at hR
  clear w2
  cases hr:rulesGo l s.size (l.length + 1) 0 [] with
  | error j =>
   rw [hr] at hR
   obtain⟨rfl,rfl,rfl⟩:=hR
   change DS _ _ _ _ _ _ _ _
   dsimp only
   repeat' (first|refine z0 ?_|apply ds_nil|apply dw_seq2|refine z16 ?_|apply dw_skip|refine z18 ?_|refine z19 ?_|apply thenD_n|refine z1 ?_|refine z3 ?_|fail)
   all_goals try (exfalso;omega)
   refine dw_ent (ent_cellnil 0 0 5 rfl rfl rfl) ?_
   repeat' (first|apply dw_ret|apply thenD_r)
   exact⟨.inl rfl,_,rfl,rfl,rfl⟩
  | ok rs =>
   rw [hr] at hR
   obtain⟨rfl,rfl,rfl⟩:=hR
   change DS _ _ _ _ _ _ _ _
   dsimp only
   have w3:=tcheck_fn rs
   by_cases hk:checkT rs=0
   ·rw [if_pos hk]
    rw [hk] at w3
    repeat' (first|refine z0 ?_|apply ds_nil|apply dw_seq2|refine z16 ?_|apply dw_skip|apply dw_ret|refine z18 ?_|refine z19 ?_|apply thenD_n|refine z21 ?_ (hc:=by apply w3)|refine z1 ?_|refine z3 ?_|fail)
    all_goals try (exfalso;omega)
    exact⟨.inl rfl,_,rfl,rfl,rfl⟩
   ·rw [if_neg hk]
    repeat' (first|refine z0 ?_|apply ds_nil|apply dw_seq2|refine z16 ?_|apply dw_skip|refine z18 ?_|apply thenD_n|refine z21 ?_ (hc:=by apply w3)|refine z1 ?_|refine z3 ?_|(refine z23 ?_ ?_ <;> intro hg)|fail)
    all_goals try (exfalso;omega)
    refine dw_ent (ent_cellnil 0 0 5 rfl rfl rfl) ?_
    repeat' (first|apply dw_ret|apply thenD_r)
    exact⟨.inl rfl,_,rfl,rfl,rfl⟩
 ·rw [if_pos he]
  repeat' (first|refine z0 ?_|apply ds_nil|apply dw_seq2|refine z16 ?_|apply dw_skip|apply thenD_n|refine z21 ?_ (hc:=by apply w1)|refine z1 ?_|refine z3 ?_|(refine z23 ?_ ?_ <;> intro hg)|fail)
  all_goals try (exfalso;omega)
  refine dw_ent (ent_cellnil 0 0 5 rfl rfl rfl) ?_
  repeat' (first|apply dw_ret|apply thenD_r)
  exact⟨.inl rfl,_,rfl,rfl,rfl⟩
attribute [local irreducible] DT
theorem isT_pos {bs:List Bool} {t:Trm} (h:t.var < 0):isT bs t=true:=by unfold isT;rw [decide_eq_true h];rfl
theorem isT_neg {bs:List Bool} {t:Trm} (h:¬ t.var < 0) (h2:t.var < (bs.length:Int)):isT bs t=bs[t.var.toNat]'(by omega):=by
 unfold isT
 rw [decide_eq_false h,Bool.false_or,List.getD,List.getElem?_eq_getElem (by omega)];rfl
def Fl (b0 bs:List Bool) (ch:Bool):Prop:=bs.length=b0.length∧bs.count false≤b0.count false∧(ch=false→bs=b0)∧(ch=true→bs.count false < b0.count false)
theorem Fl.refl (b0:List Bool):Fl b0 b0 false:=⟨rfl,Nat.le_refl _,fun _=>rfl,fun h=>by cases h⟩
theorem count_set:∀ {bs:List Bool} {i:Nat} (_:i < bs.length),bs[i]? = some false→(bs.set i true).count false + 1=bs.count false
 | [],_,h,_=>by simp at h
 | b::bs,0,_,hb=>by simp at hb;subst hb;simp
 | b::bs,i + 1,h,hb=>by
  have:=count_set (bs:=bs) (i:=i) (by simpa using h) (by simpa using hb)
  rw [List.set_cons_succ,List.count_cons,List.count_cons]
  omega
theorem setT_count {bs:List Bool} {t:Trm} (hok:okT bs.length t) (h:isT bs t=false):(setT bs t).count false + 1=bs.count false∧¬ t.var < 0:=by
 have hn:¬ t.var < 0:=fun hn=>by rw [isT_pos hn] at h;cases h
 unfold okT at hok
 rw [isT_neg hn hok] at h
 unfold setT
 rw [if_neg hn]
 exact⟨count_set (by omega) (by rw [List.getElem?_eq_getElem (by omega),h]),hn⟩
theorem Fl.step {b0 bs:List Bool} {ch:Bool} {t:Trm} (h:Fl b0 bs ch) (hok:okT bs.length t):Fl b0 (setT bs t) (ch || !isT bs t):=by
 obtain⟨h1,h2,h3,h4⟩:=h
 cases ht:isT bs t with
 | true=>rw [setT_same ht,Bool.not_true,Bool.or_false];exact⟨h1,h2,h3,h4⟩
 | false =>
  obtain⟨g1,_⟩:=setT_count hok ht
  rw [Bool.not_false,Bool.or_true]
  exact⟨by rw [setT_len,h1],by omega,fun h=>by (cases h),fun _=>by omega⟩

set_option maxHeartbeats 8000000 in
theorem isWord_fn (s:ByteArray):Fn 50 [.d (.str s)] (fun r=>r = .d (.bool (wordB s))):=by
 refine fnp_enter' _ Tryd.func50 rfl rfl (by kernel_rfl) ?_
 intro O w0 E0 β0
 unfold wordB wordsL
 repeat' (first|refine z0 ?_|refine z12 ?_|apply ds_nil|apply dw_seq2|refine z16 ?_|apply dw_ret|apply thenD_n|((fail_if_success (apply ds_known;exact rfl));apply ds_guardP;exact rfl;exact rfl;exact rfl;all_goals intro hg))
 all_goals exact ret_b rfl (by simp_all [eqS])
def nameR (s:ByteArray):Bool:=isTok 1 s && !wordB s
set_option maxHeartbeats 8000000 in
theorem isName_fn (s:ByteArray):Fn 21 [.d (.str s)] (fun r=>r = .d (.bool (nameR s))):=by
 refine fnp_enter' _ Tryd.func21 rfl rfl (by kernel_rfl) ?_
 intro O w0 E0 β0
 unfold nameR
 repeat' (first|refine z0 ?_|refine z12 ?_|apply ds_nil|apply dw_seq2|refine z16 ?_|apply dw_ret|apply thenD_n|refine z21 ?_ (hc:=by apply isToken_fn)|refine z21 ?_ (hc:=by apply isWord_fn)|((fail_if_success (apply ds_known;exact rfl));apply ds_guardB;exact rfl;exact rfl;exact rfl;all_goals intro hg))
 all_goals exact ret_b rfl (by simp_all)
theorem checkT_2 {rs:List TRu} (h:12 < rs.length∨∃ i,∃ h:i < rs.length,muchT rs[i]=true):checkT rs=2:=by
 unfold checkT
 rw [if_pos]
 rcases h with h|⟨i,hi,h⟩
 ·exact .inl h
 ·exact .inr (List.any_eq_true.2 ⟨_,List.getElem_mem hi,h⟩)
theorem checkT_no {rs:List TRu} (h1:¬ 12 < rs.length) (h2:∀ i (h:i < rs.length),muchT rs[i]=false):checkT rs=if rs.all truOk=true then 0 else 1:=by
 unfold checkT
 rw [if_neg]
 rintro (h|h)
 ·exact h1 h
 ·obtain⟨x,hx,hm⟩:=List.any_eq_true.1 h
  obtain⟨i,hi,rfl⟩:=List.mem_iff_getElem.1 hx
  rw [h2 i hi] at hm
  cases hm
theorem checkT_1 {rs:List TRu} (h1:¬ 12 < rs.length) (h2:∀ i (h:i < rs.length),muchT rs[i]=false) {i:Nat} (hi:i < rs.length) (h3:truOk rs[i]=false):checkT rs=1:=by
 rw [checkT_no h1 h2,if_neg]
 intro h
 rw [List.all_eq_true.1 h _ (List.getElem_mem hi)] at h3
 cases h3
theorem checkT_0 {rs:List TRu} (h1:¬ 12 < rs.length) (h2:∀ i (h:i < rs.length),muchT rs[i]=false) (h3:∀ i (h:i < rs.length),truOk rs[i]=true):checkT rs=0:=by
 rw [checkT_no h1 h2,if_pos]
 refine List.all_eq_true.2 fun x hx=>?_
 obtain⟨i,hi,rfl⟩:=List.mem_iff_getElem.1 hx
 exact h3 i hi
theorem muchT_1 {r:TRu} (h:3 < r.terms.length∨4 < r.body.length∨∃ i,∃ h:i < r.body.length,3 < r.body[i].terms.length):muchT r=true:=by
 unfold muchT
 simp only [Bool.or_eq_true,decide_eq_true_eq]
 rcases h with h|h|⟨i,hi,h⟩
 ·exact .inl (.inl h)
 ·exact .inl (.inr h)
 ·exact .inr (List.any_eq_true.2 ⟨_,List.getElem_mem hi,decide_eq_true h⟩)
theorem muchT_0 {r:TRu} (h1:¬ 3 < r.terms.length) (h2:¬ 4 < r.body.length) (h3:∀ i (h:i < r.body.length),¬ 3 < r.body[i].terms.length):muchT r=false:=by
 unfold muchT
 rw [decide_eq_false h1,decide_eq_false h2,Bool.false_or,Bool.false_or]
 cases h:r.body.any fun x=>decide (3 < x.terms.length) with
 | false=>rfl
 | true =>
  obtain⟨x,hx,hm⟩:=List.any_eq_true.1 h
  obtain⟨i,hi,rfl⟩:=List.mem_iff_getElem.1 hx
  exact absurd (of_decide_eq_true hm) (h3 i hi)
def headOk (r:TRu):Bool:=nameS r.name && tmsOk r.terms && decide (0≤r.fold∧r.fold≤4) && (decide (r.fold=0) || (decide (r.terms≠[]) && decide (r.body≠[])))
theorem truOk_eq (r:TRu):truOk r=(headOk r && r.body.all tlOk):=rfl
theorem tms_step {l:List TTm} {i:Nat} (hi:i < l.length) (h:tmOk l[i]=false):tmsOk l=false:=by
 unfold tmsOk
 cases hb:l.all tmOk with
 | false=>rfl
 | true=>rw [List.all_eq_true.1 hb _ (List.getElem_mem hi)] at h;cases h
theorem tms_end {l:List TTm} (h:∀ i (h:i < l.length),tmOk l[i]=true):tmsOk l=true:=by
 refine List.all_eq_true.2 fun x hx=>?_
 obtain⟨i,hi,rfl⟩:=List.mem_iff_getElem.1 hx
 exact h i hi
theorem nameR_eq (s:ByteArray):nameR s=nameS s:=by unfold nameR nameS;rw [oneS_eq]
set_option maxHeartbeats 8000000 in
theorem areTerms_fn (l:List TTm):Fn 22 [.d (.slice 2 (l.map encTTm))] (fun r=>r = .d (.bool (tmsOk l))):=by
 refine fnp_enter' _ Tryd.func22 rfl rfl (by kernel_rfl) ?_
 intro O w0 E0 β0
 have ll:(l.map encTTm).length=l.length:=List.length_map _
 refine dw_len (t:=0) rfl (fun hml=>?_)
 rw [ll] at hml
 have hml:l.length≤9223372036854775807:=Nat.le_trans hml (by decide)
 repeat' (first|refine z0 ?_|apply ds_nil|apply dw_seq2|refine z16 ?_|apply dw_block|apply thenD_n)
 refine ds_loop (ι:=Nat) (fun i=>⟨0,[(0,.d (.slice 2 (l.map encTTm))),(3,.d (.int .i64 i))],[]⟩)
  (fun i=>i≤l.length∧∀ j (hj:j < l.length),j < i→tmOk l[j]=true) (fun i=>l.length - i) 0 ⟨Nat.zero_le _,fun j _ h=>absurd h (Nat.not_lt_zero j)⟩ (ent_ren id ⟨rfl,rfl,trivial⟩ trivial rfl rfl rfl rfl rfl rfl) ?_
 rintro i ⟨hi,hk⟩
 dsimp only at hi hk ⊢
 by_cases hil:i < l.length
 ·have w1:=between_fn l[i].n (-9999999) 9999999
  have w2:=isToken_fn 2 l[i].var
  rw [← oneS_eq] at w2
  have hm:tmOk l[i]=if l[i].var=⟨#[]⟩ then decide (-9999999≤l[i].n) && decide (l[i].n≤9999999) else oneS 2 l[i].var && decide (l[i].n=0):=rfl
  cases hb:tmOk l[i] with
  | true =>
   have hnext:∀ j (hj:j < l.length),j < i + 1→tmOk l[j]=true:=fun j hj h=>by
    rcases Nat.lt_or_ge j i with h1|h1
    ·exact hk j hj h1
    ·have:j=i:=by omega
     subst this
     exact hb
   rw [hb] at hm
   by_cases hv:l[i].var=⟨#[]⟩
   ·rw [if_pos hv] at hm
    rw [← hm] at w1
    repeat' (first|refine z0 ?_|refine z12 ?_|apply ds_nil|apply dw_seq2|refine z16 ?_|apply dw_block|apply dw_skip|apply dw_exit|apply dw_ret|refine z18 ?_|refine z19 ?_|apply thenD_n|apply thenD_e|apply thenD_r|apply inB_n|apply inB_r|refine z17 ?_|refine z21 ?_ (hc:=by apply w1)|refine z21 ?_ (hc:=by apply w2)|refine z1 ?_|refine z3 ?_|(refine z23 ?_ ?_ <;> intro hg)|(apply dw_cond;exact rfl;all_goals intro hg)|((fail_if_success (apply ds_known;exact rfl));apply ds_guardP;exact rfl;exact rfl;exact rfl;all_goals intro hg))
    all_goals try (exfalso;first|omega|exact absurd hv (by assumption)|exact absurd (by assumption) hv)
    all_goals exact⟨i + 1,⟨by omega,hnext⟩,ent_ren id ⟨rfl,rfl,trivial⟩ trivial rfl rfl rfl rfl rfl rfl,by show l.length - (i + 1) < l.length - i;omega⟩
   ·rw [if_neg hv] at hm
    have h2:=(Bool.and_eq_true _ _).mp hm.symm
    have h0:=of_decide_eq_true h2.2
    rw [h2.1] at w2
    repeat' (first|refine z0 ?_|refine z12 ?_|apply ds_nil|apply dw_seq2|refine z16 ?_|apply dw_block|apply dw_skip|apply dw_exit|apply dw_ret|refine z18 ?_|refine z19 ?_|apply thenD_n|apply thenD_e|apply thenD_r|apply inB_n|apply inB_r|refine z17 ?_|refine z21 ?_ (hc:=by apply w1)|refine z21 ?_ (hc:=by apply w2)|refine z1 ?_|refine z3 ?_|(refine z23 ?_ ?_ <;> intro hg)|((fail_if_success (apply ds_known;exact rfl));apply ds_guardP;exact rfl;exact rfl;exact rfl;all_goals intro hg)|((fail_if_success (apply ds_known;exact rfl));apply ds_guardB;exact rfl;exact rfl;exact rfl;all_goals intro hg))
    all_goals try (exfalso;first|omega|exact absurd hv (by assumption)|exact absurd (by assumption) hv)
    all_goals exact⟨i + 1,⟨by omega,hnext⟩,ent_ren id ⟨rfl,rfl,trivial⟩ trivial rfl rfl rfl rfl rfl rfl,by show l.length - (i + 1) < l.length - i;omega⟩
  | false =>
   have hend:=tms_step hil hb
   rw [hb] at hm
   by_cases hv:l[i].var=⟨#[]⟩
   ·rw [if_pos hv] at hm
    rw [← hm] at w1
    repeat' (first|refine z0 ?_|refine z12 ?_|apply ds_nil|apply dw_seq2|refine z16 ?_|apply dw_block|apply dw_skip|apply dw_exit|apply dw_ret|refine z18 ?_|refine z19 ?_|apply thenD_n|apply thenD_e|apply thenD_r|apply inB_n|apply inB_r|refine z17 ?_|refine z21 ?_ (hc:=by apply w1)|refine z21 ?_ (hc:=by apply w2)|refine z1 ?_|refine z3 ?_|(refine z23 ?_ ?_ <;> intro hg)|(apply dw_cond;exact rfl;all_goals intro hg)|((fail_if_success (apply ds_known;exact rfl));apply ds_guardP;exact rfl;exact rfl;exact rfl;all_goals intro hg))
    all_goals try (exfalso;first|omega|exact absurd hv (by assumption)|exact absurd (by assumption) hv)
    all_goals exact ret_b rfl hend.symm
   ·rw [if_neg hv] at hm
    cases h2:oneS 2 l[i].var with
    | true =>
     rw [h2] at hm w2
     have h0:=of_decide_eq_false hm.symm
     repeat' (first|refine z0 ?_|refine z12 ?_|apply ds_nil|apply dw_seq2|refine z16 ?_|apply dw_block|apply dw_skip|apply dw_exit|apply dw_ret|refine z18 ?_|refine z19 ?_|apply thenD_n|apply thenD_e|apply thenD_r|apply inB_n|apply inB_r|refine z17 ?_|refine z21 ?_ (hc:=by apply w1)|refine z21 ?_ (hc:=by apply w2)|refine z1 ?_|refine z3 ?_|(refine z23 ?_ ?_ <;> intro hg)|((fail_if_success (apply ds_known;exact rfl));apply ds_guardP;exact rfl;exact rfl;exact rfl;all_goals intro hg)|((fail_if_success (apply ds_known;exact rfl));apply ds_guardB;exact rfl;exact rfl;exact rfl;all_goals intro hg))
     all_goals try (exfalso;first|omega|exact absurd hv (by assumption)|exact absurd (by assumption) hv)
     all_goals exact ret_b rfl hend.symm
    | false =>
     rw [h2] at w2
     repeat' (first|refine z0 ?_|refine z12 ?_|apply ds_nil|apply dw_seq2|refine z16 ?_|apply dw_block|apply dw_skip|apply dw_exit|apply dw_ret|refine z18 ?_|refine z19 ?_|apply thenD_n|apply thenD_e|apply thenD_r|apply inB_n|apply inB_r|refine z17 ?_|refine z21 ?_ (hc:=by apply w1)|refine z21 ?_ (hc:=by apply w2)|refine z1 ?_|refine z3 ?_|(refine z23 ?_ ?_ <;> intro hg)|((fail_if_success (apply ds_known;exact rfl));apply ds_guardP;exact rfl;exact rfl;exact rfl;all_goals intro hg)|((fail_if_success (apply ds_known;exact rfl));apply ds_guardB;exact rfl;exact rfl;exact rfl;all_goals intro hg))
     all_goals try (exfalso;first|omega|exact absurd hv (by assumption)|exact absurd (by assumption) hv)
     all_goals exact ret_b rfl hend.symm
 ·have hend:tmsOk l=true:=tms_end fun j hj=>hk j hj (by omega)
  repeat' (first|refine z0 ?_|refine z12 ?_|apply ds_nil|apply dw_seq2|refine z16 ?_|apply dw_block|apply dw_skip|apply dw_exit|apply dw_ret|refine z18 ?_|refine z19 ?_|apply thenD_n|apply thenD_e|apply thenD_r|apply inB_n|apply inB_r|refine z17 ?_|refine z1 ?_|refine z3 ?_|(refine z23 ?_ ?_ <;> intro hg)|((fail_if_success (apply ds_known;exact rfl));apply ds_guardP;exact rfl;exact rfl;exact rfl;all_goals intro hg))
  all_goals try (exfalso;omega)
  exact ret_b rfl hend.symm
abbrev truB (r:TRu):HB:=.blk 39 [.d (.int .i64 r.at_),.d (.str r.name),.d (.slice 2 (r.terms.map encTTm)),.d (.int .i64 r.fold),.d (.slice 5 (r.body.map encTLt))]
abbrev treeB (rs:List TRu):HB:=.blk 24 [.d (.slice 5 (rs.map encTRu))]
theorem next_all {α:Type} {p:α→Bool} {b:Bool} {l:List α} {i:Nat} (hk:∀ j (hj:j < l.length),j < i→p l[j]=b) (hi:i < l.length) (hb:p l[i]=b):∀ j (hj:j < l.length),j < i + 1→p l[j]=b:=fun j hj h=>by
 rcases Nat.lt_or_ge j i with h1|h1
 ·exact hk j hj h1
 ·have:j=i:=by omega
  subst this
  exact hb
theorem truOk_lit {r:TRu} {k:Nat} (hk:k < r.body.length) (h:tlOk r.body[k]=false):truOk r=false:=by
 rw [truOk_eq]
 cases hb:r.body.all tlOk with
 | false=>exact Bool.and_false _
 | true=>rw [List.all_eq_true.1 hb _ (List.getElem_mem hk)] at h;cases h
theorem truOk_all {r:TRu} (h0:headOk r=true) (h:∀ k (hk:k < r.body.length),tlOk r.body[k]=true):truOk r=true:=by
 rw [truOk_eq,h0,Bool.true_and]
 refine List.all_eq_true.2 fun x hx=>?_
 obtain⟨i,hi,rfl⟩:=List.mem_iff_getElem.1 hx
 exact h i hi
theorem headOk_true {r:TRu} (h:headOk r=true):nameS r.name=true∧tmsOk r.terms=true∧(0≤r.fold∧r.fold≤4)∧(r.fold=0∨(r.terms.length≠0∧r.body.length≠0)):=by
 unfold headOk at h
 simp only [Bool.and_eq_true,Bool.or_eq_true,decide_eq_true_eq] at h
 obtain⟨⟨⟨h1,h2⟩,h3⟩,h4⟩:=h
 exact⟨h1,h2,h3,h4.imp id fun⟨a,b⟩=>⟨fun e=>a (List.length_eq_zero_iff.1 e),fun e=>b (List.length_eq_zero_iff.1 e)⟩⟩
theorem headOk_false {r:TRu} (h:headOk r=false):nameS r.name=false∨tmsOk r.terms=false∨¬(0≤r.fold∧r.fold≤4)∨(r.fold≠0∧(r.terms.length=0∨r.body.length=0)):=by
 unfold headOk at h
 simp only [Bool.and_eq_false_iff,Bool.or_eq_false_iff,decide_eq_false_iff_not] at h
 rcases h with ((h|h)|h)|⟨h,h2⟩
 ·exact .inl h
 ·exact .inr (.inl h)
 ·exact .inr (.inr (.inl h))
 ·refine .inr (.inr (.inr ⟨h,?_⟩))
  rcases h2 with h2|h2
  ·exact .inl (by rw [Classical.not_not.1 h2];rfl)
  ·exact .inr (by rw [Classical.not_not.1 h2];rfl)
set_option maxHeartbeats 8000000 in
theorem checkTree_fn (rs:List TRu):Fn 10 [.agg [.d (.slice 5 (rs.map encTRu))]] (fun o=>o = .d (.int .i64 (checkT rs))):=by
 refine fnp_enter' _ Tryd.func10 rfl rfl (by kernel_rfl) ?_
 intro O w0 E0 β0
 have lr:(rs.map encTRu).length=rs.length:=List.length_map _
 by_cases h12:12 < rs.length
 ·have he:=checkT_2 (rs:=rs) (.inl h12)
  repeat' (first|refine z0 ?_|apply ds_nil|apply dw_seq2|refine z16 ?_|apply dw_block|apply dw_skip|apply dw_ret|apply thenD_n|apply thenD_r|refine z1 ?_|(refine z23 ?_ ?_ <;> intro hg)|fail)
  all_goals try (exfalso;omega)
  exact ret_i rfl he.symm
 repeat' (first|refine z0 ?_|apply ds_nil|apply dw_seq2|refine z16 ?_|apply dw_block|apply dw_skip|apply dw_ret|apply thenD_n|apply thenD_r|refine z1 ?_|(refine z23 ?_ ?_ <;> intro hg)|fail)
 all_goals try (exfalso;omega)
 refine ds_loop (ι:=Nat) (fun i=>⟨1,[(1,.loc 0 0),(3,.d (.int .i64 i))],[(0,treeB rs)]⟩)
  (fun i=>i≤rs.length∧∀ j (hj:j < rs.length),j < i→muchT rs[j]=false) (fun i=>rs.length - i) 0 ⟨Nat.zero_le _,fun j _ h=>absurd h (Nat.not_lt_zero j)⟩ (ent_ren id ⟨rfl,rfl,trivial⟩ ⟨rfl,trivial⟩ rfl rfl rfl rfl rfl rfl) ?_
 rintro i ⟨hi,hk⟩
 dsimp only at hi hk ⊢
 by_cases hil:i < rs.length
 ·have lt:(rs[i].terms.map encTTm).length=rs[i].terms.length:=List.length_map _
  have lb:(rs[i].body.map encTLt).length=rs[i].body.length:=List.length_map _
  by_cases h3:3 < rs[i].terms.length
  ·have he:=checkT_2 (rs:=rs) (.inr ⟨i,hil,muchT_1 (.inl h3)⟩)
   repeat' (first|refine z0 ?_|refine z12 ?_|apply ds_nil|apply dw_seq2|refine z16 ?_|apply dw_block|apply dw_skip|apply dw_exit|apply dw_ret|refine z18 ?_|apply thenD_n|apply thenD_e|apply thenD_r|apply inB_r|refine z17 ?_|refine z1 ?_|refine z3 ?_|(refine z23 ?_ ?_ <;> intro hg)|((fail_if_success (apply ds_known;exact rfl));apply ds_guardP;exact rfl;exact rfl;exact rfl;all_goals intro hg))
   all_goals try (exfalso;omega)
   all_goals exact ret_i rfl he.symm
  by_cases h4:4 < rs[i].body.length
  ·have he:=checkT_2 (rs:=rs) (.inr ⟨i,hil,muchT_1 (.inr (.inl h4))⟩)
   repeat' (first|refine z0 ?_|refine z12 ?_|apply ds_nil|apply dw_seq2|refine z16 ?_|apply dw_block|apply dw_skip|apply dw_exit|apply dw_ret|refine z18 ?_|apply thenD_n|apply thenD_e|apply thenD_r|apply inB_r|refine z17 ?_|refine z1 ?_|refine z3 ?_|(refine z23 ?_ ?_ <;> intro hg)|((fail_if_success (apply ds_known;exact rfl));apply ds_guardP;exact rfl;exact rfl;exact rfl;all_goals intro hg))
   all_goals try (exfalso;omega)
   all_goals exact ret_i rfl he.symm
  repeat' (first|refine z0 ?_|refine z12 ?_|apply ds_nil|apply dw_seq2|refine z16 ?_|apply dw_block|apply dw_skip|apply dw_exit|apply dw_ret|refine z18 ?_|apply thenD_n|apply thenD_e|apply thenD_r|apply inB_r|refine z17 ?_|refine z1 ?_|refine z3 ?_|(refine z23 ?_ ?_ <;> intro hg)|((fail_if_success (apply ds_known;exact rfl));apply ds_guardP;exact rfl;exact rfl;exact rfl;all_goals intro hg))
  all_goals try (exfalso;omega)
  refine ds_loop (ι:=Nat) (fun k=>⟨2,[(1,.loc 0 0),(3,.d (.int .i64 i)),(4,.loc 1 0),(5,.d (.int .i64 k))],[(0,treeB rs),(1,truB rs[i])]⟩)
   (fun k=>k≤rs[i].body.length∧∀ j (hj:j < rs[i].body.length),j < k→decide (3 < rs[i].body[j].terms.length)=false) (fun k=>rs[i].body.length - k) 0 ⟨Nat.zero_le _,fun j _ h=>absurd h (Nat.not_lt_zero j)⟩ (ent_ren id ⟨rfl,rfl,rfl,rfl,trivial⟩ ⟨rfl,rfl,trivial⟩ rfl rfl rfl rfl rfl rfl) ?_
  rintro k ⟨hkl,hkk⟩
  dsimp only at hkl hkk ⊢
  by_cases hkb:k < rs[i].body.length
  ·have lt2:(rs[i].body[k].terms.map encTTm).length=rs[i].body[k].terms.length:=List.length_map _
   by_cases h5:3 < rs[i].body[k].terms.length
   ·have he:=checkT_2 (rs:=rs) (.inr ⟨i,hil,muchT_1 (.inr (.inr ⟨k,hkb,h5⟩))⟩)
    repeat' (first|refine z0 ?_|apply ds_nil|apply dw_seq2|refine z16 ?_|apply dw_block|apply dw_skip|apply dw_exit|apply dw_ret|apply thenD_n|apply thenD_e|apply thenD_r|apply inB_n|apply inB_r|refine z17 ?_|(refine z23 ?_ ?_ <;> intro hg)|fail)
    all_goals try (exfalso;omega)
    all_goals exact ret_i rfl he.symm
   ·have hn:=next_all (p:=fun x:TLt=>decide (3 < x.terms.length)) hkk hkb (decide_eq_false h5)
    repeat' (first|refine z0 ?_|apply ds_nil|apply dw_seq2|refine z16 ?_|apply dw_block|apply dw_skip|apply dw_exit|apply dw_ret|apply thenD_n|apply thenD_e|apply thenD_r|apply inB_n|apply inB_r|refine z17 ?_|(refine z23 ?_ ?_ <;> intro hg)|fail)
    all_goals try (exfalso;omega)
    exact⟨k + 1,⟨by omega,hn⟩,ent_ren id ⟨rfl,rfl,rfl,rfl,trivial⟩ ⟨rfl,rfl,trivial⟩ rfl rfl rfl rfl rfl rfl,by show rs[i].body.length - (k + 1) < rs[i].body.length - k;omega⟩
  ·have hn:=next_all (p:=muchT) hk hil (muchT_0 h3 h4 fun j hj=>of_decide_eq_false (hkk j hj (by omega)))
   repeat' (first|refine z0 ?_|apply ds_nil|apply dw_seq2|refine z16 ?_|apply dw_block|apply dw_skip|apply dw_exit|apply dw_ret|apply thenD_n|apply thenD_e|apply thenD_r|apply inB_n|apply inB_r|refine z17 ?_|(refine z23 ?_ ?_ <;> intro hg)|fail)
   all_goals try (exfalso;omega)
   exact⟨i + 1,⟨by omega,hn⟩,ent_ren id ⟨rfl,rfl,trivial⟩ ⟨rfl,trivial⟩ rfl rfl rfl rfl rfl rfl,by show rs.length - (i + 1) < rs.length - i;omega⟩
 have hno:∀ j (hj:j < rs.length),muchT rs[j]=false:=fun j hj=>hk j hj (by omega)
 clear hk
 repeat' (first|refine z0 ?_|refine z12 ?_|apply ds_nil|apply dw_seq2|refine z16 ?_|apply dw_block|apply dw_skip|apply dw_exit|apply dw_ret|refine z18 ?_|apply thenD_n|apply thenD_e|apply thenD_r|apply inB_r|refine z17 ?_|refine z1 ?_|refine z3 ?_|(refine z23 ?_ ?_ <;> intro hg)|((fail_if_success (apply ds_known;exact rfl));apply ds_guardP;exact rfl;exact rfl;exact rfl;all_goals intro hg))
 all_goals try (exfalso;omega)
 refine ds_loop (ι:=Nat) (fun i=>⟨1,[(1,.loc 0 0),(6,.d (.int .i64 i))],[(0,treeB rs)]⟩)
  (fun i=>i≤rs.length∧∀ j (hj:j < rs.length),j < i→truOk rs[j]=true) (fun i=>rs.length - i) 0 ⟨Nat.zero_le _,fun j _ h=>absurd h (Nat.not_lt_zero j)⟩ (ent_ren id ⟨rfl,rfl,trivial⟩ ⟨rfl,trivial⟩ rfl rfl rfl rfl rfl rfl) ?_
 clear hi hil
 rintro i ⟨hi,hk⟩
 dsimp only at hi hk ⊢
 by_cases hil:i < rs.length
 ·have lt:(rs[i].terms.map encTTm).length=rs[i].terms.length:=List.length_map _
  have lb:(rs[i].body.map encTLt).length=rs[i].body.length:=List.length_map _
  have w1:=isName_fn rs[i].name
  rw [nameR_eq] at w1
  have w2:=areTerms_fn rs[i].terms
  have w3:=between_fn rs[i].fold 0 4
  repeat' ((fail_if_success (apply dw_stopR 18));(first|refine z0 ?_|apply ds_nil|apply dw_seq2|refine z16 ?_|apply dw_block|apply dw_skip|apply dw_exit|apply dw_ret|apply thenD_n|apply thenD_e|refine z17 ?_|refine z1 ?_|refine z3 ?_|(refine z23 ?_ ?_ <;> intro hg)|fail))
  all_goals try (exfalso;omega)
  refine dw_cut (ι:=Unit) (fun _=>⟨2,[(1,.loc 0 0),(6,.d (.int .i64 i)),(7,.loc 1 0)],[(0,treeB rs),(1,truB rs[i])]⟩) (fun _=>headOk rs[i]=true) ?_ ?_
  ·cases hh:headOk rs[i] with
   | false =>
    have he:=checkT_1 h12 hno hil (by rw [truOk_eq,hh];rfl)
    rcases headOk_false hh with h|h|h|⟨h,h'⟩
    ·rw [h] at w1
     repeat' (first|refine z0 ?_|refine z12 ?_|apply ds_nil|apply dw_seq2|refine z16 ?_|apply dw_ret|refine z18 ?_|apply thenD_n|apply thenD_r|apply inB_r|refine z21 ?_ (hc:=by apply w1)|fail)
     all_goals try (exfalso;omega)
     all_goals exact ret_i rfl he.symm
    ·rw [h] at w2
     cases hn:nameS rs[i].name
     all_goals
      rw [hn] at w1
      repeat' (first|refine z0 ?_|refine z12 ?_|apply ds_nil|apply dw_seq2|refine z16 ?_|apply dw_ret|refine z18 ?_|apply thenD_n|apply thenD_r|apply inB_r|refine z21 ?_ (hc:=by apply w1)|refine z21 ?_ (hc:=by apply w2)|fail)
     all_goals try (exfalso;omega)
     all_goals exact ret_i rfl he.symm
    ·rw [show (decide (0≤rs[i].fold) && decide (rs[i].fold≤4))=false by simp;omega] at w3
     cases hn:nameS rs[i].name <;> cases ht:tmsOk rs[i].terms
     all_goals
      rw [hn] at w1
      rw [ht] at w2
      repeat' (first|refine z0 ?_|refine z12 ?_|apply ds_nil|apply dw_seq2|refine z16 ?_|apply dw_ret|refine z18 ?_|apply thenD_n|apply thenD_r|apply inB_r|refine z21 ?_ (hc:=by apply w1)|refine z21 ?_ (hc:=by apply w2)|refine z21 ?_ (hc:=by apply w3)|fail)
     all_goals try (exfalso;omega)
     all_goals exact ret_i rfl he.symm
    ·cases hn:nameS rs[i].name <;> cases ht:tmsOk rs[i].terms <;> cases hf:(decide (0≤rs[i].fold) && decide (rs[i].fold≤4))
     all_goals
      rw [hn] at w1
      rw [ht] at w2
      rw [hf] at w3
      try simp only [Bool.and_eq_true,decide_eq_true_eq] at hf
      repeat' (first|refine z0 ?_|refine z12 ?_|apply ds_nil|apply dw_seq2|refine z16 ?_|apply dw_skip|apply dw_ret|refine z18 ?_|refine z19 ?_|apply thenD_n|apply thenD_r|apply inB_r|refine z21 ?_ (hc:=by apply w1)|refine z21 ?_ (hc:=by apply w2)|refine z21 ?_ (hc:=by apply w3)|(refine z23 ?_ ?_ <;> intro hg)|((fail_if_success (apply ds_known;exact rfl));apply ds_guardP;exact rfl;exact rfl;exact rfl;all_goals intro hg))
     all_goals try (exfalso;omega)
     all_goals exact ret_i rfl he.symm
   | true =>
    obtain⟨a1,a2,a3,a4⟩:=headOk_true hh
    rw [a1] at w1
    rw [a2] at w2
    rw [show (decide (0≤rs[i].fold) && decide (rs[i].fold≤4))=true by simp;omega] at w3
    repeat' (first|refine z0 ?_|refine z12 ?_|apply ds_nil|apply dw_seq2|refine z16 ?_|apply dw_skip|apply dw_ret|refine z18 ?_|refine z19 ?_|apply thenD_n|apply thenD_r|apply inB_r|refine z21 ?_ (hc:=by apply w1)|refine z21 ?_ (hc:=by apply w2)|refine z21 ?_ (hc:=by apply w3)|(refine z23 ?_ ?_ <;> intro hg)|((fail_if_success (apply ds_known;exact rfl));apply ds_guardP;exact rfl;exact rfl;exact rfl;all_goals intro hg))
    all_goals try (exfalso;omega)
    all_goals exact⟨(),rfl,ent_ren id ⟨rfl,rfl,rfl,trivial⟩ ⟨rfl,rfl,trivial⟩ rfl rfl rfl rfl rfl rfl⟩
  ·intro _ hh
   clear w1 w2 w3
   have hb4:rs[i].body.length≤4:=by
    have:=hno i hil
    unfold muchT at this
    simp only [Bool.or_eq_false_iff,decide_eq_false_iff_not] at this
    omega
   repeat' (first|refine z0 ?_|apply ds_nil|apply dw_seq2|refine z16 ?_|apply dw_block|apply thenD_n)
   refine ds_loop (ι:=Nat) (fun k=>⟨2,[(1,.loc 0 0),(6,.d (.int .i64 i)),(7,.loc 1 0),(8,.d (.int .i64 k))],[(0,treeB rs),(1,truB rs[i])]⟩)
    (fun k=>k≤rs[i].body.length∧∀ j (hj:j < rs[i].body.length),j < k→tlOk rs[i].body[j]=true) (fun k=>rs[i].body.length - k) 0 ⟨Nat.zero_le _,fun j _ h=>absurd h (Nat.not_lt_zero j)⟩ (ent_ren id ⟨rfl,rfl,rfl,rfl,trivial⟩ ⟨rfl,rfl,trivial⟩ rfl rfl rfl rfl rfl rfl) ?_
   rintro k ⟨hkl,hkk⟩
   dsimp only at hkl hkk ⊢
   by_cases hkb:k < rs[i].body.length
   ·have lt2:(rs[i].body[k].terms.map encTTm).length=rs[i].body[k].terms.length:=List.length_map _
    have v1:=areTerms_fn rs[i].body[k].terms
    have v2:=isName_fn rs[i].body[k].name
    have v3:=between_fn rs[i].body[k].op 1 4
    have v4:=between_fn rs[i].body[k].op 5 7
    rw [nameR_eq] at v2
    cases hb1:tmsOk rs[i].body[k].terms <;> cases hb2:nameS rs[i].body[k].name
    all_goals
     rw [hb1] at v1
     rw [hb2] at v2
     repeat' (first|refine z0 ?_|refine z12 ?_|apply ds_nil|apply dw_seq2|refine z16 ?_|apply dw_block|apply dw_skip|apply dw_exit|apply dw_ret|refine z18 ?_|refine z19 ?_|apply thenD_n|apply thenD_e|apply thenD_r|apply inB_n|apply inB_r|refine z17 ?_|refine z21 ?_ (hc:=by apply v1)|refine z21 ?_ (hc:=by apply v2)|refine z21 ?_ (hc:=by apply v3)|refine z21 ?_ (hc:=by apply v4)|refine z1 ?_|refine z3 ?_|(refine z23 ?_ ?_ <;> intro hg)|(apply dw_cond;exact rfl;all_goals intro hg)|((fail_if_success (apply ds_known;exact rfl));apply ds_guardP;exact rfl;exact rfl;exact rfl;all_goals intro hg)|((fail_if_success (apply ds_known;exact rfl));apply ds_guardB;exact rfl;exact rfl;exact rfl;all_goals intro hg))
    all_goals try (exfalso;omega)
    all_goals first
     | exact ret_i rfl (checkT_1 h12 hno hil (truOk_lit hkb (by unfold tlOk;first|(simp_all;done)|(simp_all;omega)))).symm
     | exact⟨k + 1,⟨by omega,next_all hkk hkb (by unfold tlOk;first|(simp_all;done)|(simp_all;omega))⟩,ent_ren id ⟨rfl,rfl,rfl,rfl,trivial⟩ ⟨rfl,rfl,trivial⟩ rfl rfl rfl rfl rfl rfl,by show rs[i].body.length - (k + 1) < rs[i].body.length - k;omega⟩
   ·have hn:=next_all (p:=truOk) hk hil (truOk_all hh fun j hj=>hkk j hj (by omega))
    repeat' (first|refine z0 ?_|apply ds_nil|apply dw_seq2|refine z16 ?_|apply dw_block|apply dw_skip|apply dw_exit|apply thenD_n|apply thenD_e|apply inB_n|refine z17 ?_|refine z1 ?_|refine z3 ?_|(refine z23 ?_ ?_ <;> intro hg)|fail)
    all_goals try (exfalso;omega)
    exact⟨i + 1,⟨by omega,hn⟩,ent_ren id ⟨rfl,rfl,trivial⟩ ⟨rfl,trivial⟩ rfl rfl rfl rfl rfl rfl,by show rs.length - (i + 1) < rs.length - i;omega⟩
 ·have he:=checkT_0 h12 hno fun j hj=>hk j hj (by omega)
  repeat' (first|refine z0 ?_|apply ds_nil|apply dw_seq2|refine z16 ?_|apply dw_block|apply dw_skip|apply dw_exit|apply dw_ret|apply thenD_n|apply thenD_e|refine z17 ?_|refine z1 ?_|refine z3 ?_|(refine z23 ?_ ?_ <;> intro hg)|fail)
  all_goals try (exfalso;omega)
  exact ret_i rfl he.symm
def smallS:ByteArray:=⟨#[113,40,49,44,32,50,41,46,10,112,40,88,44,32,99,111,117,110,116,32,89,41,32,58,45,32,113,40,88,44,32,89,41,44,32,110,111,116,32,114,40,89,41,44,32,88,32,60,32,89,46,10]⟩
def smallRs:List TRu:=[⟨0,⟨#[113]⟩,[⟨⟨#[]⟩,1⟩,⟨⟨#[]⟩,2⟩],0,[]⟩,⟨9,⟨#[112]⟩,[⟨⟨#[88]⟩,0⟩,⟨⟨#[89]⟩,0⟩],1,[⟨1,26,0,⟨#[113]⟩,[⟨⟨#[88]⟩,0⟩,⟨⟨#[89]⟩,0⟩]⟩,⟨2,35,0,⟨#[114]⟩,[⟨⟨#[89]⟩,0⟩]⟩,⟨3,45,1,⟨#[]⟩,[⟨⟨#[88]⟩,0⟩,⟨⟨#[89]⟩,0⟩]⟩]⟩]
theorem small_parse:parseS smallS=(smallRs,0,0):=by kernel_rfl
theorem small_check:checkT smallRs=0:=by kernel_rfl
set_option maxHeartbeats 8000000 in
theorem treeBegun_fn:Fn 8 [] (fun r=>r = .d (.bool true)):=by
 refine fnp_enter' _ Tryd.func8 rfl rfl (by kernel_rfl) ?_
 intro O w0 E0 β0
 have h1:=tparse_fn smallS
 have h2:=tcheck_fn smallRs
 rw [small_parse] at h1
 rw [small_check] at h2
 unfold encParse at h1
 unfold smallRs at h1 h2
 unfold smallS at h1
 dsimp only at h1 h2
 repeat' (first|(apply ds_slD;exact rfl;exact rfl;exact rfl;exact rfl;exact rfl;exact rfl;(refine⟨?_,?_,?_⟩ <;> (first|omega|(simp only [List.length_map];omega)));(first|((with_reducible apply hv_take);(first|exact nat_add_2 _|exact nat_sub_1 _|exact nat_add_1 _|exact nat_lit_0|exact nat_lit_1|exact rfl|exact (Int.toNat_of_nonneg (by omega)).symm))|((with_reducible apply hv_drop);(first|exact nat_add_2 _|exact nat_sub_1 _|exact nat_add_1 _|exact nat_lit_0|exact nat_lit_1|exact rfl|exact (Int.toNat_of_nonneg (by omega)).symm))|exact rfl);exact rfl;exact rfl)|refine z0 ?_|refine z12 ?_|refine z13 ?_|apply ds_nil|(apply ds_ixR;exact rfl;exact rfl;exact rfl;(first|exact nat_add_2 _|exact nat_sub_1 _|exact nat_add_1 _|exact nat_lit_0|exact nat_lit_1|exact rfl|exact (Int.toNat_of_nonneg (by omega)).symm);(first|(with_reducible exact trivial)|(with_reducible exact u8_range _)|(with_reducible exact sat_range _ _)|omega|(with_reducible assumption)|(with_reducible exact bytesOk_one)|(constructor <;> omega)|(simp only [List.length_map];omega)|(unfold maxLen at *;omega)|(simp <;> omega)|(unfold maxLen;simp <;> omega));exact rfl;exact rfl;exact rfl;exact rfl;exact rfl)|(apply ds_ldP;exact rfl;exact rfl;(apply hv_get;(first|(with_reducible exact trivial)|(with_reducible exact u8_range _)|(with_reducible exact sat_range _ _)|omega|(with_reducible assumption)|(with_reducible exact bytesOk_one)|(constructor <;> omega)|(simp only [List.length_map];omega)|(unfold maxLen at *;omega)|(simp <;> omega)|(unfold maxLen;simp <;> omega)));exact rfl;exact rfl;exact rfl)|(apply ds_stP;exact rfl;exact rfl;(apply hv_get;(first|(with_reducible exact trivial)|(with_reducible exact u8_range _)|(with_reducible exact sat_range _ _)|omega|(with_reducible assumption)|(with_reducible exact bytesOk_one)|(constructor <;> omega)|(simp only [List.length_map];omega)|(unfold maxLen at *;omega)|(simp <;> omega)|(unfold maxLen;simp <;> omega)));exact rfl;exact rfl;(first|exact hv_set rfl|exact rfl);exact rfl;exact rfl;exact rfl;exact rfl;exact rfl;exact rfl)|refine z5 ?_|refine z14 ?_|refine z15 ?_|refine z6 ?_|refine z7 ?_|refine z8 ?_|refine z9 ?_|refine z10 ?_|refine z11 ?_|apply dw_seq2|refine z16 ?_|refine z20 ?_|apply dw_block|apply dw_skip|apply dw_exit|apply dw_ret|refine z18 ?_|refine z19 ?_|apply thenD_n|apply thenD_e|apply thenD_r|apply inB_n|apply inB_r|refine z17 ?_|(apply inB_x;exact rfl)|refine z21 ?_ (hc:=by apply h1)|refine z22 ?_ (hc:=by apply h1)|refine z21 ?_ (hc:=by apply h2)|refine z22 ?_ (hc:=by apply h2)|refine z1 ?_|refine z3 ?_|refine z4 ?_|refine z2 ?_|(refine z23 ?_ ?_ <;> intro hg)|(apply dw_cond;exact rfl;all_goals intro hg)|((fail_if_success (apply ds_known;exact rfl));apply ds_guardP;exact rfl;exact rfl;exact rfl;all_goals intro hg)|((fail_if_success (apply ds_known;exact rfl));apply ds_guardB;exact rfl;exact rfl;exact rfl;all_goals intro hg)|((fail_if_success (apply dt_known;exact rfl));apply dt_guardP;exact rfl;exact rfl;exact rfl;all_goals intro hg)|((fail_if_success (apply dt_known;exact rfl));apply dt_guard;exact rfl;exact rfl;exact rfl;all_goals intro hg))
 all_goals first|exact ret_b rfl (by decide)
set_option maxHeartbeats 8000000 in
theorem treeChecks_fn (rs:List TRu):Fn 4 [.agg [.d (.slice 5 (rs.map encTRu))]] (fun r=>r = .d (.bool true)):=by
 refine fnp_enter' _ Tryd.func4 rfl rfl (by kernel_rfl) ?_
 intro O w0 E0 β0
 have h1:=tcheck_fn rs
 have h2:=checkTree_fn rs
 have h3:=treeBegun_fn
 repeat' (first|(apply ds_slD;exact rfl;exact rfl;exact rfl;exact rfl;exact rfl;exact rfl;(refine⟨?_,?_,?_⟩ <;> (first|omega|(simp only [List.length_map];omega)));(first|((with_reducible apply hv_take);(first|exact nat_add_2 _|exact nat_sub_1 _|exact nat_add_1 _|exact nat_lit_0|exact nat_lit_1|exact rfl|exact (Int.toNat_of_nonneg (by omega)).symm))|((with_reducible apply hv_drop);(first|exact nat_add_2 _|exact nat_sub_1 _|exact nat_add_1 _|exact nat_lit_0|exact nat_lit_1|exact rfl|exact (Int.toNat_of_nonneg (by omega)).symm))|exact rfl);exact rfl;exact rfl)|refine z0 ?_|refine z12 ?_|refine z13 ?_|apply ds_nil|(apply ds_ixR;exact rfl;exact rfl;exact rfl;(first|exact nat_add_2 _|exact nat_sub_1 _|exact nat_add_1 _|exact nat_lit_0|exact nat_lit_1|exact rfl|exact (Int.toNat_of_nonneg (by omega)).symm);(first|(with_reducible exact trivial)|(with_reducible exact u8_range _)|(with_reducible exact sat_range _ _)|omega|(with_reducible assumption)|(with_reducible exact bytesOk_one)|(constructor <;> omega)|(simp only [List.length_map];omega)|(unfold maxLen at *;omega)|(simp <;> omega)|(unfold maxLen;simp <;> omega));exact rfl;exact rfl;exact rfl;exact rfl;exact rfl)|(apply ds_ldP;exact rfl;exact rfl;(apply hv_get;(first|(with_reducible exact trivial)|(with_reducible exact u8_range _)|(with_reducible exact sat_range _ _)|omega|(with_reducible assumption)|(with_reducible exact bytesOk_one)|(constructor <;> omega)|(simp only [List.length_map];omega)|(unfold maxLen at *;omega)|(simp <;> omega)|(unfold maxLen;simp <;> omega)));exact rfl;exact rfl;exact rfl)|(apply ds_stP;exact rfl;exact rfl;(apply hv_get;(first|(with_reducible exact trivial)|(with_reducible exact u8_range _)|(with_reducible exact sat_range _ _)|omega|(with_reducible assumption)|(with_reducible exact bytesOk_one)|(constructor <;> omega)|(simp only [List.length_map];omega)|(unfold maxLen at *;omega)|(simp <;> omega)|(unfold maxLen;simp <;> omega)));exact rfl;exact rfl;(first|exact hv_set rfl|exact rfl);exact rfl;exact rfl;exact rfl;exact rfl;exact rfl;exact rfl)|refine z5 ?_|refine z14 ?_|refine z15 ?_|refine z6 ?_|refine z7 ?_|refine z8 ?_|refine z9 ?_|refine z10 ?_|refine z11 ?_|apply dw_seq2|refine z16 ?_|refine z20 ?_|apply dw_block|apply dw_skip|apply dw_exit|apply dw_ret|refine z18 ?_|refine z19 ?_|apply thenD_n|apply thenD_e|apply thenD_r|apply inB_n|apply inB_r|refine z17 ?_|(apply inB_x;exact rfl)|refine z21 ?_ (hc:=by apply h1)|refine z22 ?_ (hc:=by apply h1)|refine z21 ?_ (hc:=by apply h2)|refine z22 ?_ (hc:=by apply h2)|refine z21 ?_ (hc:=by apply h3)|refine z22 ?_ (hc:=by apply h3)|refine z1 ?_|refine z3 ?_|refine z4 ?_|refine z2 ?_|(refine z23 ?_ ?_ <;> intro hg)|(apply dw_cond;exact rfl;all_goals intro hg)|((fail_if_success (apply ds_known;exact rfl));apply ds_guardP;exact rfl;exact rfl;exact rfl;all_goals intro hg)|((fail_if_success (apply ds_known;exact rfl));apply ds_guardB;exact rfl;exact rfl;exact rfl;all_goals intro hg)|((fail_if_success (apply dt_known;exact rfl));apply dt_guardP;exact rfl;exact rfl;exact rfl;all_goals intro hg)|((fail_if_success (apply dt_known;exact rfl));apply dt_guard;exact rfl;exact rfl;exact rfl;all_goals intro hg))
 all_goals first|exact ret_b rfl (by simp)
end Go.Proofs.YtapciiffpnociabDoor
