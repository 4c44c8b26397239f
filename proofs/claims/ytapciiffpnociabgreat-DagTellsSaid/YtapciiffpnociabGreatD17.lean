/- Several texts in one: GosP DagY GxArg DagZ DagM WirIn DagIn. Condition: none. -/
import Derived.Test.YtapciiffpnociabGreatD01
import Derived.Test.YtapciiffpnociabGreatD16
import Derived.Test.YtapciiffpnociabGreatD03
import Derived.Test.YtapciiffpnociabGreatD15
import Derived.Test.YtapciiffpnociabGreatD10
import Derived.Test.YtapciiffpnociabGreatD13
namespace Go.Proofs.YtapciiffpnociabGreat
theorem RplOk.nodup {A:List Upd} {r:Rpl} (h:RplOk A r):r.both.Nodup :=
 List.nodup_append.2 ⟨h.sh.nodup,h.sw.nodup,fun u hu v hv he=>h.apart u hu v hv (by rw [he])⟩
structure ToldOk (A:List Upd) (r:Rpl):Prop where
 ok:RplOk A r
 nodup:A.Nodup
theorem ToldOk.len {A:List Upd} {r:Rpl} (h:ToldOk A r):A.length=r.both.length :=
 ((List.perm_ext_iff_of_nodup h.nodup h.ok.nodup).2 fun u=>(h.ok.all u).trans List.mem_append.symm).length_eq
theorem ToldOk.has {A:List Upd} {r:Rpl} (h:ToldOk A r) (i:UId):hasU A i=hasU r.both i:=hasU_congr (fun u=>(h.ok.all u).trans List.mem_append.symm) i
theorem ToldOk.step {A:List Upd} {r o:Rpl} (h:ToldOk A r) {u:Upd} (hu:hasU r.both u.id=false) (ho:RplOk (u::r.both) o):ToldOk (u::A) o:=by
 refine⟨ho.congr fun v=>?_,List.nodup_cons.2 ⟨fun hm=>?_,h.nodup⟩⟩
 ·rw [List.mem_cons,List.mem_cons,h.ok.all,List.mem_append]
 ·rw [← h.has,← Bool.not_eq_true,hasU_iff] at hu
  exact hu ⟨u,hm,rfl⟩
def ToldIs (r:Rpl) (l:List Upd) (o:Option Rpl):Prop :=
 match tellA r.both l,o with
 | none,none=>True
 | some A,some o=>ToldOk A o
 | _,_=>False
theorem ToldIs.unique {r:Rpl} {l:List Upd} {o p:Option Rpl} (h:ToldIs r l o) (g:ToldIs r l p):o=p:=by
 unfold ToldIs at h g
 revert h g
 cases tellA r.both l with
 | none=>cases o with
  | none=>cases p with
   | none=>exact fun _ _=>rfl
   | some p=>exact fun _ g=>g.elim
  | some o=>exact fun h=>h.elim
 | some A=>cases o with
  | none=>exact fun h=>h.elim
  | some o=>cases p with
   | none=>exact fun _ g=>g.elim
   | some p=>exact fun h g=>by rw [h.ok.unique g.ok]
open Go Go.RowKit
theorem addIs_new {r:Rpl} {u:Upd} {o:Rpl} {e:Int} (h:AddIs r u o e) (h0:addE r u=0) (hn:hasU r.both u.id=false) (hl:r.both.length < 200) {s:Rpl} (hs:RplOk (u::r.both) s):o=s∧e=0:=by
 rcases h with ⟨h1,_⟩|⟨_,h1,_⟩|⟨_,_,h1,_⟩|⟨_,_,_,h1,h2⟩
 ·exact absurd h0 h1
 ·rw [hn] at h1;cases h1
 ·omega
 ·exact⟨h1.unique hs,h2⟩
theorem rpl0_ok:RplOk [] ⟨[],[]⟩:=⟨.nil,.nil,fun u=>by simp,fun u hu=>by simp at hu,fun u hu=>by simp at hu,fun u hu=>by simp at hu⟩
theorem second_waits:readyU [] secondU=false:=by kernel_rfl
theorem rpl1_ok:RplOk [secondU] ⟨[],[secondU]⟩:=by
 have g:RplGo [secondU] ⟨[],[secondU]⟩:=rpl0_ok.more (u:=secondU) rfl rfl
 exact g.done fun u hu=>by rw [List.mem_singleton.1 hu];exact second_waits
theorem rpl2_ok:RplOk [firstU,secondU] ⟨[firstU,secondU],[]⟩:=by
 have g1:RplGo [firstU,secondU] ⟨[],[firstU,secondU]⟩:=rpl1_ok.more (u:=firstU) (by kernel_rfl) (by kernel_rfl)
 have g2:RplGo [firstU,secondU] ⟨[firstU],[secondU]⟩:=g1.moveAt (a:=[]) (b:=[secondU]) (by kernel_rfl)
 have g3:RplGo [firstU,secondU] ⟨[firstU,secondU],[]⟩:=g2.moveAt (a:=[]) (b:=[]) (by kernel_rfl)
 exact g3.done fun u hu=>by simp at hu
theorem add1_ok:addE ⟨[],[]⟩ secondU=0:=by kernel_rfl
theorem add2_ok:addE ⟨[],[secondU]⟩ firstU=0:=by kernel_rfl
theorem check2_ok:checkR ⟨[firstU,secondU],[]⟩=0:=by kernel_rfl
theorem tops2_is:(topsU [firstU,secondU]).map Upd.id=[⟨1,1⟩]:=by kernel_rfl
theorem facts2_is:setF' ((keptU [firstU,secondU]).flatMap Upd.says)=[⟨0,[4,5]⟩]:=by kernel_rfl
end Go.Proofs.YtapciiffpnociabGreat
namespace Go.Proofs.YtapciiffpnociabGreat
open Go Go.RowKit
theorem FnP.args {dr:Bool} {P:Program} {τ:List (Nat × TI)} {τok:TabOk P τ} {f:FuncId} {args args':List SV} {R:SV→Prop} (hc:FnP dr P τ τok f args R) (h:∀ X e w vs,RelL X e w args' vs→RelL X e w args vs):FnP dr P τ τok f args' R :=
 ⟨hc.1,fun O e w vs hH hr=>hc.2 O e w vs hH (h _ _ _ _ hr)⟩
theorem nil_rel {X e w} {es:Nat} {v:Value} (h:Rel X e w .nils v):Rel X e w (.d (.slice es [])) v:=by
 rw [show v = .slice none 0 0 from h]
 exact .nil
theorem agg2_rel {X e w} {p q:Nat} {v:Value} (h:Rel X e w (.agg [.nils,.nils]) v):Rel X e w (.agg [.d (.slice p []),.d (.slice q [])]) v:=by
 obtain⟨us,hv,hr⟩:=h
 match us,hr with
 | [a,b],⟨h1,h2,_⟩=>exact⟨[a,b],hv,nil_rel h1,nil_rel h2,trivial⟩
 | [],h=>exact h.elim
 | [_],⟨_,h⟩=>exact h.elim
 | _::_::_::_,⟨_,_,h⟩=>exact h.elim
theorem FnP.agg2 {dr:Bool} {P:Program} {τ:List (Nat × TI)} {τok:TabOk P τ} {f:FuncId} {p q:Nat} {args:List SV} {R:SV→Prop} (hc:FnP dr P τ τok f (.agg [.d (.slice p []),.d (.slice q [])]::args) R):FnP dr P τ τok f (.agg [.nils,.nils]::args) R :=
 hc.args fun _ _ _ vs h=>match vs,h with
  | _::_,⟨h1,h2⟩=>⟨agg2_rel h1,h2⟩
  | [],h=>h.elim
attribute [local irreducible] DW DS DL DQ Ev FnOk FnP thenD inBlockD DT
set_option maxHeartbeats 8000000 in
theorem replicaIs_fn (r:Rpl) (e w:Int) (want:Rpl):Fn 33 [elRpl r,.d (.int .i64 e),.d (.int .i64 w),elRpl want] (fun res=>res = .d (.bool (decide (e=w) && (sameL Upd.same r.has (if w≠0 then ⟨[],[]⟩ else want).has && sameL Upd.same r.waits (if w≠0 then ⟨[],[]⟩ else want).waits)))):=by
 refine fnp_enter' _ Tryz.func33 rfl rfl (by kernel_rfl) ?_
 intro O w0 E0 β0
 have w1:=sameReplica_fn r want
 have w2:=sameReplica_fn r ⟨[],[]⟩
 by_cases hw:w=0
 ·rw [if_neg (by simp [hw])]
  clear w2
  by_cases he:e=w
  ·rw [decide_eq_true he,Bool.true_and]
   repeat' (first|refine z0 ?_|refine z12 ?_|apply ds_nil|apply dw_seq2|refine z16 ?_|apply dw_skip|apply dw_ret|apply thenD_n|refine z21 ?_ (hc:=by apply w1)|refine z1 ?_|refine z3 ?_|(refine z23 ?_ ?_ <;> intro hg)|((fail_if_success (apply ds_known;exact rfl));apply ds_guardP;exact rfl;exact rfl;exact rfl;all_goals intro hg))
   all_goals try (exfalso;omega)
   exact ret_b rfl rfl
  ·rw [decide_eq_false he,Bool.false_and]
   repeat' (first|refine z0 ?_|refine z12 ?_|apply ds_nil|apply dw_seq2|refine z16 ?_|apply dw_skip|apply dw_ret|apply thenD_n|refine z21 ?_ (hc:=by apply w1)|refine z1 ?_|refine z3 ?_|(refine z23 ?_ ?_ <;> intro hg)|((fail_if_success (apply ds_known;exact rfl));apply ds_guardP;exact rfl;exact rfl;exact rfl;all_goals intro hg))
   all_goals try (exfalso;omega)
   exact ret_b rfl rfl
 ·rw [if_pos hw]
  clear w1
  by_cases he:e=w
  ·rw [decide_eq_true he,Bool.true_and]
   repeat' ((fail_if_success (apply dw_stopS 3));(first|refine z0 ?_|apply ds_nil|apply dw_seq2|refine z16 ?_|apply dw_skip|apply thenD_n|refine z1 ?_|refine z3 ?_|(refine z23 ?_ ?_ <;> intro hg)|fail))
   all_goals try (exfalso;omega)
   refine dw_ent (ent_cellnil 1 0 5 rfl rfl rfl) ?_
   refine dw_ent (ent_cellnil 1 1 5 rfl rfl rfl) ?_
   repeat' (first|refine z0 ?_|refine z12 ?_|apply ds_nil|apply dw_seq2|refine z16 ?_|apply dw_ret|apply thenD_n|refine z21 ?_ (hc:=by apply w2)|((fail_if_success (apply ds_known;exact rfl));apply ds_guardP;exact rfl;exact rfl;exact rfl;all_goals intro hg))
   all_goals try (exfalso;omega)
   exact ret_b rfl rfl
  ·rw [decide_eq_false he,Bool.false_and]
   repeat' (first|refine z0 ?_|refine z12 ?_|apply ds_nil|apply dw_seq2|refine z16 ?_|apply dw_skip|apply dw_ret|apply thenD_n|refine z1 ?_|refine z3 ?_|(refine z23 ?_ ?_ <;> intro hg)|((fail_if_success (apply ds_known;exact rfl));apply ds_guardP;exact rfl;exact rfl;exact rfl;all_goals intro hg))
   all_goals try (exfalso;omega)
   exact ret_b rfl rfl
set_option maxHeartbeats 8000000 in
theorem sameIdsX_fn (a b:List UId):Fn 34 [.d (.slice 2 (a.map encId)),.d (.slice 2 (b.map encId))] (fun r=>r = .d (.bool (sameL UId.same a b))):=by
 refine fnp_enter' _ Tryz.func34 rfl rfl (by kernel_rfl) ?_
 intro O w0 E0 β0
 have w:=sameIds_fn a b
 repeat' (first|refine z0 ?_|apply ds_nil|apply dw_seq2|refine z16 ?_|apply dw_ret|apply thenD_n|refine z21 ?_ (hc:=by apply w)|fail)
 exact ret_b rfl rfl
set_option maxHeartbeats 8000000 in
theorem dfactsAre_fn (l:List Fct) (e w:Int) (want:List Fct):Fn 22 [.d (.slice 2 (l.map encFct)),.d (.int .i64 e),.d (.int .i64 w),.d (.slice 2 (want.map encFct))] (fun r=>r = .d (.bool (decide (e=w) && sameL Fct.same l (if w≠0 then [] else want)))):=by
 refine fnp_enter' _ Tryz.func22 rfl rfl (by kernel_rfl) ?_
 intro O w0 E0 β0
 have w1:=sameFacts_fn l want
 have w2:=sameFacts_fn l []
 by_cases hw:w=0
 ·rw [if_neg (by simp [hw])]
  clear w2
  by_cases he:e=w
  ·rw [decide_eq_true he,Bool.true_and]
   repeat' (first|refine z0 ?_|refine z12 ?_|apply ds_nil|apply dw_seq2|refine z16 ?_|apply dw_skip|apply dw_ret|apply thenD_n|refine z21 ?_ (hc:=by apply w1)|(refine z23 ?_ ?_ <;> intro hg)|((fail_if_success (apply ds_known;exact rfl));apply ds_guardP;exact rfl;exact rfl;exact rfl;all_goals intro hg))
   all_goals try (exfalso;omega)
   exact⟨.inl rfl,_,rfl,rfl,rfl⟩
  ·rw [decide_eq_false he,Bool.false_and]
   repeat' (first|refine z0 ?_|refine z12 ?_|apply ds_nil|apply dw_seq2|refine z16 ?_|apply dw_skip|apply dw_ret|apply thenD_n|refine z21 ?_ (hc:=by apply w1)|(refine z23 ?_ ?_ <;> intro hg)|((fail_if_success (apply ds_known;exact rfl));apply ds_guardP;exact rfl;exact rfl;exact rfl;all_goals intro hg))
   all_goals try (exfalso;omega)
   exact⟨.inl rfl,_,rfl,rfl,rfl⟩
 ·rw [if_pos hw]
  clear w1
  by_cases he:e=w
  ·rw [decide_eq_true he,Bool.true_and]
   repeat' ((fail_if_success (apply dw_stopS 3));(first|refine z0 ?_|apply ds_nil|apply dw_seq2|refine z16 ?_|apply dw_skip|apply thenD_n|(refine z23 ?_ ?_ <;> intro hg)|fail))
   all_goals try (exfalso;omega)
   refine dw_ent (ent_nild 3 2 rfl) ?_
   repeat' (first|refine z0 ?_|refine z12 ?_|apply ds_nil|apply dw_seq2|refine z16 ?_|apply dw_ret|apply thenD_n|refine z21 ?_ (hc:=by apply w2)|((fail_if_success (apply ds_known;exact rfl));apply ds_guardP;exact rfl;exact rfl;exact rfl;all_goals intro hg))
   all_goals try (exfalso;omega)
   exact⟨.inl rfl,_,rfl,rfl,rfl⟩
  ·rw [decide_eq_false he,Bool.false_and]
   repeat' (first|refine z0 ?_|refine z12 ?_|apply ds_nil|apply dw_seq2|refine z16 ?_|apply dw_skip|apply dw_ret|apply thenD_n|(refine z23 ?_ ?_ <;> intro hg)|((fail_if_success (apply ds_known;exact rfl));apply ds_guardP;exact rfl;exact rfl;exact rfl;all_goals intro hg))
   all_goals try (exfalso;omega)
   exact⟨.inl rfl,_,rfl,rfl,rfl⟩
set_option maxHeartbeats 8000000 in
theorem dagBegun_fn:Fn 7 [] (fun r=>r = .d (.bool true)):=by
 refine fnp_enter' _ Tryz.func7 rfl rfl (by kernel_rfl) ?_
 intro O w0 E0 β0
 have w1:Fn 14 [elRpl ⟨[],[]⟩,elUpd secondU] (fun res=>res = .tup [elRpl ⟨[],[secondU]⟩,.d (.int .i64 0)]):=FnP.imp (dadd_fn ⟨[],[]⟩ secondU (by decide) (by decide)) (by
  rintro _ ⟨o,e,h,rfl⟩
  obtain⟨rfl,rfl⟩:=addIs_new h add1_ok rfl (by decide) rpl1_ok
  rfl)
 have w1:=FnP.agg2 w1
 have w2:Fn 14 [elRpl ⟨[],[secondU]⟩,elUpd firstU] (fun res=>res = .tup [elRpl ⟨[firstU,secondU],[]⟩,.d (.int .i64 0)]):=FnP.imp (dadd_fn ⟨[],[secondU]⟩ firstU (by decide) (by decide)) (by
  rintro _ ⟨o,e,h,rfl⟩
  obtain⟨rfl,rfl⟩:=addIs_new h add2_ok (by kernel_rfl) (by decide) rpl2_ok
  rfl)
 have w3:=dheads_fn ⟨[firstU,secondU],[]⟩ (by decide) (by decide)
 have w4:=dfacts_fn ⟨[firstU,secondU],[]⟩ (by decide) (by decide)
 have w5:=dcheck_fn ⟨[firstU,secondU],[]⟩ (by decide) (by decide)
 rw [check2_ok,if_pos rfl,tops2_is] at w3
 rw [check2_ok,if_pos rfl,facts2_is] at w4
 rw [check2_ok] at w5
 have w6:=sameUpdates_fn [firstU,secondU] [firstU,secondU]
 rw [sameL_refl Upd.same_refl] at w6
 have w7:=sameIdsX_fn [⟨1,1⟩] [⟨1,1⟩]
 rw [sameL_refl UId.same_refl] at w7
 have w8:=sameFacts_fn [⟨0,[4,5]⟩] [⟨0,[4,5]⟩]
 rw [sameL_refl (p:=Fct.same) (fun x=>(fsame_iff x x).2 rfl)] at w8
 have w9:=fact_fn 0 [4,5]
 repeat' (first|refine z0 ?_|apply ds_nil|refine z5 ?_|refine z6 ?_|refine z7 ?_|refine z10 ?_|refine z11 ?_|apply dw_seq2|refine z16 ?_|refine z20 ?_|apply dw_ret|apply thenD_n|refine z22 ?_ (hc:=by apply first_fn)|refine z21 ?_ (hc:=by apply second_fn)|refine z22 ?_ (hc:=by apply second_fn)|refine z21 ?_ (hc:=by apply w1)|refine z22 ?_ (hc:=by apply w2)|refine z21 ?_ (hc:=by apply w3)|refine z21 ?_ (hc:=by apply w4)|refine z22 ?_ (hc:=by apply w5)|refine z22 ?_ (hc:=by apply w6)|refine z22 ?_ (hc:=by apply w7)|refine z22 ?_ (hc:=by apply w8)|refine z22 ?_ (hc:=by apply w9)|refine z1 ?_|refine z3 ?_|fail)
 exact ret_b rfl rfl
end Go.Proofs.YtapciiffpnociabGreat
namespace Go.Proofs.YtapciiffpnociabGreat
open Go Go.RowKit
theorem addIs_one (r:Rpl) (u:Upd):∃ s e,AddIs r u s e∧∀ o f,AddIs r u o f→o=s∧f=e:=by
 by_cases h0:addE r u=0
 ·have hr:checkR r=0:=Classical.byContradiction fun h=>by unfold addE at h0;rw [if_neg h] at h0;exact h h0
  obtain⟨_,_,hok⟩:=checkR_ok hr
  cases hb:hasU r.both u.id with
  | true =>
   refine⟨r,0,.inr (.inl ⟨h0,hb,rfl,rfl⟩),fun o f h=>?_⟩
   rcases h with ⟨h1,_⟩|⟨_,_,h1,h2⟩|⟨_,h1,_⟩|⟨_,h1,_⟩
   ·exact absurd h0 h1
   ·exact⟨h1,h2⟩
   ·rw [hb] at h1;cases h1
   ·rw [hb] at h1;cases h1
  | false =>
   by_cases hl:200≤r.both.length
   ·refine⟨⟨[],[]⟩,2,.inr (.inr (.inl ⟨h0,hb,hl,rfl,rfl⟩)),fun o f h=>?_⟩
    rcases h with ⟨h1,_⟩|⟨_,h1,_⟩|⟨_,_,_,h1,h2⟩|⟨_,_,h1,_⟩
    ·exact absurd h0 h1
    ·rw [hb] at h1;cases h1
    ·exact⟨h1,h2⟩
    ·omega
   ·obtain⟨_,s,hs⟩:=hok.add hb
    exact⟨s,0,.inr (.inr (.inr ⟨h0,hb,by omega,hs,rfl⟩)),fun o f h=>addIs_new h h0 hb (by omega) hs⟩
 ·refine⟨⟨[],[]⟩,addE r u,.inl ⟨h0,rfl,rfl⟩,fun o f h=>?_⟩
  rcases h with ⟨_,h1,h2⟩|⟨h1,_⟩|⟨h1,_⟩|⟨h1,_⟩
  ·exact⟨h1,h2⟩
  ·exact absurd h1 h0
  ·exact absurd h1 h0
  ·exact absurd h1 h0
theorem dadd_one {r:Rpl} {u:Upd} {s:Rpl} {e:Int} (hr:∀ o f,AddIs r u o f→o=s∧f=e) (h1:r.has.length≤4398046511104) (h2:r.waits.length≤4398046511104):Fn 14 [elRpl r,elUpd u] (fun res=>res = .tup [elRpl s,.d (.int .i64 e)]) :=
 FnP.imp (dadd_fn r u h1 h2) (by
  rintro _ ⟨o,f,h,rfl⟩
  obtain⟨rfl,rfl⟩:=hr o f h
  rfl)
theorem addOf_one {r:Rpl} {u:Upd} {s:Rpl} {e:Int} (h:AddIs r u s e) (h0:addE r u=0):Fn 29 [elRpl r,elUpd u] (fun res=>res = .tup [elRpl s,.d (.bool (decide (e=0)))]):=by
 have hr:checkR r=0:=Classical.byContradiction fun h=>by unfold addE at h0;rw [if_neg h] at h0;exact h h0
 have hu:checkU u=0:=by unfold addE at h0;rw [if_pos hr] at h0;exact h0
 obtain⟨hlen,hall,hok⟩:=checkR_ok hr
 refine FnP.imp (addOf_fn r u hok (by omega) (by omega) fun v hv=>?_) ?_
 ·have hv:checkU v=0:=by
   rcases hv with rfl|hv
   ·exact hu
   ·exact hall v (List.mem_append.2 hv)
  have:=checkU_small hv
  omega
 ·rintro res (⟨g1,rfl⟩|⟨g1,g2,rfl⟩|⟨g1,g2,o,g3,rfl⟩)
  ·rcases h with ⟨h1,_⟩|⟨_,_,rfl,rfl⟩|⟨_,h1,_⟩|⟨_,h1,_⟩
   ·exact absurd h0 h1
   ·rfl
   ·rw [g1] at h1;cases h1
   ·rw [g1] at h1;cases h1
  ·rcases h with ⟨h1,_⟩|⟨_,h1,_⟩|⟨_,_,_,rfl,rfl⟩|⟨_,_,h1,_⟩
   ·exact absurd h0 h1
   ·rw [g1] at h1;cases h1
   ·rfl
   ·omega
  ·obtain⟨rfl,rfl⟩:=addIs_new h h0 g1 g2 g3
   rfl
theorem addIs_end {r:Rpl} {u:Upd} {s:Rpl} {e:Int} (h:AddIs r u s e):e=0∨(s=⟨[],[]⟩∧e≠0):=by
 rcases h with ⟨h1,h2,h3⟩|⟨_,_,_,h⟩|⟨_,_,_,h1,h2⟩|⟨_,_,_,_,h⟩
 ·exact .inr ⟨h2,by rw [h3];exact h1⟩
 ·exact .inl h
 ·exact .inr ⟨h1,by rw [h2];decide⟩
 ·exact .inl h
theorem addIs_bad {r:Rpl} {u:Upd} {s:Rpl} {e:Int} (h:AddIs r u s e) (h0:addE r u≠0):s=⟨[],[]⟩∧e=addE r u:=by
 rcases h with ⟨_,h2,h3⟩|⟨h,_⟩|⟨h,_⟩|⟨h,_⟩
 ·exact⟨h2,h3⟩
 ·exact absurd h h0
 ·exact absurd h h0
 ·exact absurd h h0
theorem addIs_two {r:Rpl} {u:Upd} {s:Rpl} {e:Int} (h:AddIs r u s e) (h0:addE r u=0) (he:e≠0):e=2:=by
 rcases h with ⟨h,_⟩|⟨_,_,_,h⟩|⟨_,_,_,_,h⟩|⟨_,_,_,_,h⟩
 ·exact absurd h0 h
 ·exact absurd h he
 ·exact h
 ·exact absurd h he
attribute [local irreducible] DW DS DL DQ Ev FnOk FnP thenD inBlockD DT
set_option maxHeartbeats 8000000 in
theorem dagTells_fn (r:Rpl) (u:Upd) (h1:r.has.length≤4398046511104) (h2:r.waits.length≤4398046511104):Fn 4 [elRpl r,elUpd u] (fun res=>res = .d (.bool true)):=by
 refine fnp_enter' _ Tryz.func4 rfl rfl (by kernel_rfl) ?_
 intro O w0 E0 β0
 obtain⟨s,e,hs,hone⟩:=addIs_one r u
 have w1:=dadd_one hone h1 h2
 have w2:=dheads_fn r h1 h2
 have w3:=dfacts_fn r h1 h2
 have w4:=rcheckR_fn r h1 h2
 have w5:=checkUpdate_fn u
 have w6:=dcheck_fn r h1 h2
 have hE:addE r u=if checkR r=0 then checkU u else checkR r:=rfl
 by_cases hr:checkR r=0
 ·obtain⟨hlen,hall,hok⟩:=checkR_ok hr
  have hsy:=flat_len Upd.says 6 r.has fun u hu=>(checkU_small (hall u (List.mem_append_left _ hu))).2.1
  have w7:=headsAre_fn r (by omega)
  have w8:=factsOf_fn r (by omega) (by omega)
  rw [if_pos hr] at w2 w3 hE
  rw [hr] at w4 w6
  have w9:=sameIdsX_fn ((topsU r.has).map Upd.id) ((topsU r.has).map Upd.id)
  have w10:=dfactsAre_fn (setF' ((keptU r.has).flatMap Upd.says)) 0 0 (setF' ((keptU r.has).flatMap Upd.says))
  rw [if_neg (by simp),sameL_refl (fun x=>(fsame_iff x x).2 rfl),decide_eq_true rfl,Bool.and_true] at w10
  rw [sameL_refl UId.same_refl] at w9
  by_cases hu:checkU u=0
  ·rw [hu] at hE w5
   have w11:=addOf_one hs hE
   rcases addIs_end hs with he|⟨rfl,he⟩
   ·subst he
    have w12:=replicaIs_fn s 0 0 s
    rw [if_neg (by simp),decide_eq_true rfl,sameL_refl Upd.same_refl,sameL_refl Upd.same_refl] at w12
    rw [decide_eq_true rfl] at w11
    repeat' (first|refine z0 ?_|apply ds_nil|refine z5 ?_|refine z10 ?_|apply dw_seq2|refine z16 ?_|refine z20 ?_|apply dw_skip|apply dw_ret|refine z18 ?_|refine z19 ?_|apply thenD_n|refine z21 ?_ (hc:=by apply w1)|refine z21 ?_ (hc:=by apply w2)|refine z21 ?_ (hc:=by apply w3)|refine z21 ?_ (hc:=by apply w4)|refine z21 ?_ (hc:=by apply w5)|refine z21 ?_ (hc:=by apply w6)|refine z22 ?_ (hc:=by apply w7)|refine z22 ?_ (hc:=by apply w8)|refine z21 ?_ (hc:=by apply w9)|refine z21 ?_ (hc:=by apply w10)|refine z21 ?_ (hc:=by apply w11)|refine z21 ?_ (hc:=by apply w12)|refine z21 ?_ (hc:=by apply dagBegun_fn)|refine z1 ?_|refine z3 ?_|fail)
    exact ret_b rfl rfl
   ·have he2:=addIs_two hs hE he
    subst he2
    have w12:=replicaIs_fn ⟨[],[]⟩ 2 2 ⟨[],[]⟩
    rw [if_pos (by decide),decide_eq_true rfl] at w12
    rw [decide_eq_false (by decide)] at w11
    repeat' (first|refine z0 ?_|apply ds_nil|refine z5 ?_|refine z10 ?_|apply dw_seq2|refine z16 ?_|refine z20 ?_|apply dw_ret|refine z18 ?_|apply thenD_n|refine z21 ?_ (hc:=by apply w1)|refine z21 ?_ (hc:=by apply w2)|refine z21 ?_ (hc:=by apply w3)|refine z21 ?_ (hc:=by apply w4)|refine z21 ?_ (hc:=by apply w5)|refine z21 ?_ (hc:=by apply w6)|refine z22 ?_ (hc:=by apply w7)|refine z22 ?_ (hc:=by apply w8)|refine z21 ?_ (hc:=by apply w9)|refine z21 ?_ (hc:=by apply w10)|refine z21 ?_ (hc:=by apply w11)|refine z21 ?_ (hc:=by apply w12)|refine z21 ?_ (hc:=by apply dagBegun_fn)|refine z1 ?_|refine z3 ?_|fail)
    exact ret_b rfl rfl
  ·rw [← hE] at hu
   obtain⟨rfl,rfl⟩:=addIs_bad hs hu
   rw [← hE] at w5
   have w12:=replicaIs_fn ⟨[],[]⟩ (addE r u) (addE r u) ⟨[],[]⟩
   rw [if_pos hu,decide_eq_true rfl] at w12
   generalize addE r u=e at *
   repeat' ((fail_if_success (apply dw_stopS 18));(first|refine z0 ?_|apply ds_nil|refine z5 ?_|refine z10 ?_|apply dw_seq2|refine z16 ?_|refine z20 ?_|apply dw_skip|refine z18 ?_|apply thenD_n|refine z21 ?_ (hc:=by apply w1)|refine z21 ?_ (hc:=by apply w2)|refine z21 ?_ (hc:=by apply w3)|refine z21 ?_ (hc:=by apply w4)|refine z21 ?_ (hc:=by apply w5)|refine z22 ?_ (hc:=by apply w7)|refine z22 ?_ (hc:=by apply w8)|refine z1 ?_|refine z3 ?_|(refine z23 ?_ ?_ <;> intro hg)|fail))
   all_goals try (exfalso;omega)
   refine dw_ent (ent_cellnil 3 0 5 rfl rfl rfl) ?_
   refine dw_ent (ent_cellnil 3 1 5 rfl rfl rfl) ?_
   repeat' (first|refine z0 ?_|apply ds_nil|apply dw_seq2|refine z16 ?_|apply dw_ret|apply thenD_n|refine z21 ?_ (hc:=by apply w6)|refine z21 ?_ (hc:=by apply w9)|refine z21 ?_ (hc:=by apply w10)|refine z21 ?_ (hc:=by apply w12)|refine z21 ?_ (hc:=by apply dagBegun_fn)|fail)
   all_goals try (exfalso;omega)
   exact ret_b rfl rfl
 ·rw [if_neg hr] at w2 w3 hE
  have hu:addE r u≠0:=by rw [hE];exact hr
  obtain⟨rfl,rfl⟩:=addIs_bad hs hu
  rw [← hE] at w2 w3 w4 w6
  have w12:=replicaIs_fn ⟨[],[]⟩ (addE r u) (addE r u) ⟨[],[]⟩
  rw [if_pos hu,decide_eq_true rfl] at w12
  have w9:=sameIdsX_fn [] []
  have w10:=dfactsAre_fn [] (addE r u) (addE r u) []
  rw [if_pos hu,decide_eq_true rfl] at w10
  clear hE hr
  generalize addE r u=e at *
  repeat' ((fail_if_success (apply dw_stopS 18));(first|refine z0 ?_|apply ds_nil|refine z5 ?_|apply dw_seq2|refine z16 ?_|refine z20 ?_|apply dw_skip|apply thenD_n|refine z21 ?_ (hc:=by apply w1)|refine z21 ?_ (hc:=by apply w2)|refine z21 ?_ (hc:=by apply w3)|refine z21 ?_ (hc:=by apply w4)|refine z1 ?_|refine z3 ?_|(refine z23 ?_ ?_ <;> intro hg)|fail))
  all_goals try (exfalso;omega)
  refine dw_ent (ent_cellnil 3 0 5 rfl rfl rfl) ?_
  refine dw_ent (ent_cellnil 3 1 5 rfl rfl rfl) ?_
  refine dw_ent (ent_nild 16 2 rfl) ?_
  refine dw_ent (ent_nild 17 2 rfl) ?_
  repeat' (first|refine z0 ?_|refine z12 ?_|apply ds_nil|apply dw_seq2|refine z16 ?_|apply dw_ret|apply thenD_n|refine z21 ?_ (hc:=by apply w6)|refine z21 ?_ (hc:=by apply w9)|refine z21 ?_ (hc:=by apply w10)|refine z21 ?_ (hc:=by apply w12)|refine z21 ?_ (hc:=by apply dagBegun_fn)|((fail_if_success (apply ds_known;exact rfl));apply ds_guardP;exact rfl;exact rfl;exact rfl;all_goals intro hg))
  all_goals try (exfalso;omega)
  exact ret_b rfl (by simp;rfl)
theorem listOf {α:Type} {e:RT} {enc:α→List D} (h:∀ x,TyD e x→∃ t,x=enc t):∀ (l:List (List D)),(∀ x∈l,TyD e x)→∃ ts:List α,l=ts.map enc
 | [],_=>⟨[],rfl⟩
 | x::l,hl=>by
  obtain⟨t,rfl⟩:=h x (hl x (List.mem_cons_self ..))
  obtain⟨ts,rfl⟩:=listOf h l fun y hy=>hl y (List.mem_cons_of_mem _ hy)
  exact⟨t::ts,rfl⟩
theorem sliceOf {α:Type} {c b:Nat} {e:RT} {enc:α→List D} (h:∀ x,TyD e x→∃ t,x=enc t) (x:List D) (hx:TyD (.slice c b e) x):∃ ts:List α,x=[.slice c (ts.map enc)]:=by
 obtain⟨l,_,_,rfl,h3⟩:=hx
 obtain⟨ts,rfl⟩:=listOf h l h3
 exact⟨ts,rfl⟩
abbrev rtId:RT:=.struct [.int .i64,.int .i64]
abbrev rtFct:RT:=.struct [.int .i64,.slice 1 8 (.int .i64)]
abbrev rtUpd:RT:=.struct [rtId,.slice 2 16 rtId,.slice 2 32 rtFct,.slice 2 16 rtId]
theorem int_of (x:List D) (h:TyD (.int .i64) x):∃ n:Int,x=encI n:=by
 obtain⟨n,_,rfl⟩:=h
 exact⟨n,rfl⟩
theorem id_of (x:List D) (h:TyD rtId x):∃ t:UId,x=encId t:=by
 obtain⟨a,b,rfl,⟨k,_,rfl⟩,c,d,rfl,⟨p,_,rfl⟩,rfl⟩:=h
 exact⟨⟨k,p⟩,rfl⟩
theorem fct_of (x:List D) (h:TyD rtFct x):∃ t:Fct,x=encFct t:=by
 obtain⟨a,b,rfl,⟨k,_,rfl⟩,c,d,rfl,h2,rfl⟩:=h
 obtain⟨l,rfl⟩:=sliceOf int_of c h2
 exact⟨⟨k,l⟩,rfl⟩
theorem upd_of (x:List D) (h:TyD rtUpd x):∃ u:Upd,x=encUpd u:=by
 obtain⟨a,b,rfl,h1,c,d,rfl,h2,e,f,rfl,h3,g,h,rfl,h4,rfl⟩:=h
 obtain⟨i,rfl⟩:=id_of a h1
 obtain⟨l,rfl⟩:=sliceOf id_of c h2
 obtain⟨m,rfl⟩:=sliceOf fct_of e h3
 obtain⟨n,rfl⟩:=sliceOf id_of g h4
 exact⟨⟨i,l,m,n⟩,rfl⟩
theorem upd_arg (x:List D) (h:TyD rtUpd x):∃ u:Upd,RT.arg rtUpd x=elUpd u:=by
 obtain⟨u,rfl⟩:=upd_of x h
 exact⟨u,rfl⟩
abbrev rtUpds:RT:=.slice 5 88 rtUpd
abbrev rtRpl:RT:=.struct [rtUpds,rtUpds]
theorem sliceOfB {R:Nat} {α:Type} {c b:Nat} {e:RT} {enc:α→List D} (h:∀ x,TyDR R e x→∃ t,x=enc t) (x:List D) (hx:TyDR R (.slice c b e) x):∃ ts:List α,x=[.slice c (ts.map enc)]∧ts.length * b≤R:=by
 obtain⟨l,h1,_,rfl,h3⟩:=hx
 have key:∀ l:List (List D),(∀ x∈l,TyDR R e x)→∃ ts:List α,l=ts.map enc:=by
  intro l
  induction l with
  | nil=>exact fun _=>⟨[],rfl⟩
  | cons x l ih =>
   intro hl
   obtain⟨t,rfl⟩:=h x (hl x (List.mem_cons_self ..))
   obtain⟨ts,rfl⟩:=ih fun y hy=>hl y (List.mem_cons_of_mem _ hy)
   exact⟨t::ts,rfl⟩
 obtain⟨ts,rfl⟩:=key l h3
 exact⟨ts,rfl,by rw [← List.length_map (f:=enc)];exact h1⟩
theorem rpl_arg (x:List D) (h:TyD rtRpl x):∃ r:Rpl,RT.arg rtRpl x=elRpl r∧r.has.length≤4398046511104∧r.waits.length≤4398046511104:=by
 obtain⟨a,b,rfl,h1,c,d,rfl,h2,rfl⟩:=h
 obtain⟨l,rfl,hl⟩:=sliceOfB upd_of a h1
 obtain⟨m,rfl,hm⟩:=sliceOfB upd_of c h2
 exact⟨⟨l,m⟩,rfl,by unfold reachBytes at hl;dsimp only;omega,by unfold reachBytes at hm;dsimp only;omega⟩
theorem upd_argD (x:List D) (h:TyD rtUpd x):∃ u:Upd,RT.arg rtUpd x=elUpd u:=upd_arg x h
end Go.Proofs.YtapciiffpnociabGreat
