/- Several texts in one: DagK DagL WirD WirF WirG WirH WirJ WirI WirK WirL WirM DagR DagS DagT DagU DagV DagW DagX. Condition: none. -/
import Derived.Test.YtapciiffpnociabGreatE14
import Derived.Test.YtapciiffpnociabGreatE11
import Derived.Test.YtapciiffpnociabGreatE10
namespace Go.Proofs.YtapciiffpnociabGreat
open Go Go.RowKit
def keptL (has l:List Upd):List Upd:=l.filter fun u=>!((has.flatMap Upd.takes).any fun j=>j.same u.id)
abbrev keptU (has:List Upd):List Upd:=keptL has has
theorem says_sub {l l':List Upd} (h:l.Sublist l'):(l.flatMap Upd.says).length≤(l'.flatMap Upd.says).length:=by
 induction h with
 | slnil=>exact Nat.le_refl _
 | cons a _ ih=>rw [List.flatMap_cons,List.length_append];omega
 | cons_cons a _ ih=>rw [List.flatMap_cons,List.flatMap_cons,List.length_append,List.length_append];omega
theorem said_len (has:List Upd) (i:Nat):((keptL has (has.take i)).flatMap Upd.says).length≤(has.flatMap Upd.says).length :=
 says_sub (List.filter_sublist.trans (List.take_sublist i has))
attribute [local irreducible] DW DS DL DQ Ev FnOk FnP thenD inBlockD DT
set_option maxHeartbeats 8000000 in
theorem said_fn (r:Rpl) (hl:r.has.length≤100000) (hp:(r.has.flatMap Upd.takes).length≤100000) (hsy:(r.has.flatMap Upd.says).length≤100000) (hsa:∀ u∈r.has,∀ f∈u.says,f.args.length≤1000000):Fn 62 [elRpl r] (fun res=>res = .d (.slice 2 ((setF' ((keptU r.has).flatMap Upd.says)).map encFct))):=by
 refine fnp_enter' _ Tryz.func62 rfl rfl (by kernel_rfl) ?_
 intro O w0 E0 β0
 have lh:(r.has.map encUpd).length=r.has.length:=List.length_map _
 repeat' (first|refine z0 ?_|apply ds_nil|apply dw_seq2|refine z16 ?_|apply thenD_n|refine z1 ?_|fail)
 refine ds_mapNew false rfl rfl ?_
 repeat' (first|refine z0 ?_|apply ds_nil|apply dw_seq2|refine z16 ?_|apply dw_block|apply thenD_n)
 refine ds_loop (ι:=Nat × List (MK × Int)) (fun x=>⟨2,[(1,.loc 0 0),(3,.mp 1),(13,.d (.slice 5 (r.has.map encUpd))),(14,.d (.int .i64 (r.has.map encUpd).length)),(15,.d (.int .i64 x.1))],
   [(0,.blk 29 [.d (.slice 5 (r.has.map encUpd)),.d (.slice 5 (r.waits.map encUpd))]),(1,.map false x.2)]⟩)
  (fun x=>x.1≤r.has.length∧CntIs x.2 ((r.has.take x.1).flatMap Upd.takes)) (fun x=>r.has.length - x.1) (0,[]) ⟨Nat.zero_le _,.nil⟩ (ent_ren id ⟨rfl,rfl,rfl,rfl,rfl,trivial⟩ ⟨rfl,rfl,trivial⟩ rfl rfl rfl rfl rfl rfl) ?_
 rintro⟨p,m⟩ ⟨h1,h2⟩
 dsimp only at h1 h2 ⊢
 by_cases hi:p < r.has.length
 ·have lq:(r.has[p].takes.map encId).length=r.has[p].takes.length:=List.length_map _
  have hsum:((r.has.take p).flatMap Upd.takes).length + r.has[p].takes.length≤(r.has.flatMap Upd.takes).length:=by
   have e:r.has.flatMap Upd.takes=(r.has.take p).flatMap Upd.takes++(r.has[p].takes++(r.has.drop (p + 1)).flatMap Upd.takes):=by
    conv=>lhs;rw [← List.take_append_drop p r.has,List.drop_eq_getElem_cons hi,List.flatMap_append,List.flatMap_cons]
   rw [e,List.length_append,List.length_append]
   omega
  repeat' (first|refine z0 ?_|apply ds_nil|apply dw_seq2|refine z16 ?_|apply dw_block|apply dw_skip|apply dw_exit|apply thenD_n|apply thenD_e|refine z17 ?_|refine z1 ?_|refine z3 ?_|(refine z23 ?_ ?_ <;> intro hg)|fail)
  all_goals try (exfalso;omega)
  refine ds_loop (ι:=Nat × List (MK × Int)) (fun x=>⟨2,[(1,.loc 0 0),(3,.mp 1),(13,.d (.slice 5 (r.has.map encUpd))),(14,.d (.int .i64 (r.has.map encUpd).length)),(15,.d (.int .i64 p)),(20,.d (.slice 2 (r.has[p].takes.map encId))),(21,.d (.int .i64 (r.has[p].takes.map encId).length)),(22,.d (.int .i64 x.1))],
    [(0,.blk 29 [.d (.slice 5 (r.has.map encUpd)),.d (.slice 5 (r.waits.map encUpd))]),(1,.map false x.2)]⟩)
   (fun x=>x.1≤r.has[p].takes.length∧CntIs x.2 ((r.has.take p).flatMap Upd.takes++r.has[p].takes.take x.1)) (fun x=>r.has[p].takes.length - x.1) (0,m) ⟨Nat.zero_le _,by simpa using h2⟩ (ent_ren id ⟨rfl,rfl,rfl,rfl,rfl,rfl,rfl,rfl,trivial⟩ ⟨rfl,rfl,trivial⟩ rfl rfl rfl rfl rfl rfl) ?_
  rintro⟨q,m⟩ ⟨g1,g2⟩
  dsimp only at g1 g2 ⊢
  by_cases hq:q < r.has[p].takes.length
  ·repeat' ((fail_if_success (apply dw_stopT 8));(first|refine z0 ?_|apply ds_nil|apply dw_seq2|refine z16 ?_|apply dw_block|apply dw_skip|apply dw_exit|apply thenD_n|apply thenD_e|apply inB_n|refine z17 ?_|refine z1 ?_|refine z3 ?_|(refine z23 ?_ ?_ <;> intro hg)|fail))
   all_goals try (exfalso;omega)
   have hle:=g2.le r.has[p].takes[q]
   rw [List.length_append,List.length_take] at hle
   have hinc:=g2.inc r.has[p].takes[q]
   rw [List.append_assoc,← List.take_succ_eq_append_getElem hq] at hinc
   refine dw_inc rfl (by kernel_rfl) (by kernel_rfl) rfl (by kernel_rfl) rfl rfl rfl rfl rfl rfl rfl rfl mapId_t rfl rfl (evC_sound rfl trivial rfl) rfl rfl (fun H'=>ev_add rfl rfl ⟨?_,?_⟩) ?_
   ·show _≤(mapGet? m (keyI r.has[p].takes[q])).getD 0 + 1;omega
   ·show (mapGet? m (keyI r.has[p].takes[q])).getD 0 + 1≤_;omega
   repeat' (first|refine z0 ?_|apply ds_nil|refine z16 ?_|apply thenD_n|apply inB_n)
   exact⟨(q + 1,incM m r.has[p].takes[q]),⟨hq,hinc⟩,ent_ren id ⟨rfl,rfl,rfl,rfl,rfl,rfl,rfl,rfl,trivial⟩ ⟨rfl,rfl,trivial⟩ rfl rfl rfl rfl rfl rfl,by show _ - (q + 1) < _ - q;omega⟩
  ·repeat' (first|refine z0 ?_|apply ds_nil|refine z5 ?_|apply dw_seq2|refine z16 ?_|refine z20 ?_|apply dw_block|apply dw_skip|apply dw_exit|apply thenD_n|apply thenD_e|apply inB_n|refine z17 ?_|refine z1 ?_|refine z3 ?_|(refine z23 ?_ ?_ <;> intro hg)|fail)
   all_goals try (exfalso;omega)
   refine⟨(p + 1,m),⟨hi,?_⟩,ent_ren id ⟨rfl,rfl,rfl,rfl,rfl,trivial⟩ ⟨rfl,rfl,trivial⟩ rfl rfl rfl rfl rfl rfl,by show _ - (p + 1) < _ - p;omega⟩
   have e9:r.has[p].takes.take q=r.has[p].takes:=List.take_of_length_le (by omega)
   rw [e9] at g2
   rw [List.take_succ_eq_append_getElem hi,List.flatMap_append]
   simpa using g2
 ·repeat' (first|refine z0 ?_|apply ds_nil|apply dw_seq2|refine z16 ?_|apply dw_block|apply dw_skip|apply dw_exit|apply thenD_n|apply thenD_e|refine z17 ?_|refine z1 ?_|refine z3 ?_|(refine z23 ?_ ?_ <;> intro hg)|fail)
  all_goals try (exfalso;omega)
  rw [List.take_of_length_le (by omega)] at h2
  refine dw_ent (ent_nilrow (t:=8) 95 2 rfl) ?_
  refine ds_loop (ι:=Nat) (fun i=>⟨2,[(3,.mp 0),(8,.row 1),(35,.d (.slice 5 (r.has.map encUpd))),(36,.d (.int .i64 (r.has.map encUpd).length)),(37,.d (.int .i64 i))],
    [(0,.map false m),(1,.row 95 2 (((keptL r.has (r.has.take i)).flatMap Upd.says).map encFct))]⟩)
   (fun i=>i≤r.has.length) (fun i=>r.has.length - i) 0 (Nat.zero_le _) (ent_ren (fun j=>match j with|0=>1|1=>2|j=>j) ⟨rfl,rfl,rfl,rfl,rfl,trivial⟩ ⟨rfl,rfl,trivial⟩ rfl rfl rfl rfl rfl rfl) ?_
  intro i gi
  by_cases hi:i < r.has.length
  ·have lo:=said_len r.has (i + 1)
   have ls:(r.has[i].says.map encFct).length=r.has[i].says.length:=List.length_map _
   repeat' (first|refine z0 ?_|apply ds_nil|apply dw_seq2|refine z16 ?_|apply dw_block|apply dw_skip|apply dw_exit|apply thenD_n|apply thenD_e|refine z17 ?_|refine z1 ?_|refine z3 ?_|(refine z23 ?_ ?_ <;> intro hg)|fail)
   all_goals try (exfalso;omega)
   refine ds_lookup (kd:=false) (kvs:=m) (key:=keyI r.has[i].id) mapId_t rfl rfl rfl rfl rfl rfl ?_
   have hz:=h2.zero r.has[i].id
   have hst:keptL r.has (r.has.take (i + 1))=keptL r.has (r.has.take i)++keptL r.has [r.has[i]]:=by unfold keptL;rw [List.take_succ_eq_append_getElem hi,List.filter_append]
   repeat' (first|refine z0 ?_|apply ds_nil|refine z16 ?_|apply dw_skip|apply thenD_n|apply inB_n|(refine z23 ?_ ?_ <;> intro hg)|fail)
   ·have hd:keptL r.has [r.has[i]]=[r.has[i]]:=by unfold keptL;rw [List.filter_cons,hz.1 (by assumption)];rfl
    rw [hd] at hst
    have hf:(keptL r.has (r.has.take (i + 1))).flatMap Upd.says=(keptL r.has (r.has.take i)).flatMap Upd.says++r.has[i].says:=by rw [hst,List.flatMap_append];simp
    rw [hf,List.length_append] at lo
    refine ds_tradeC rfl ⟨by rw [List.length_map,ls];omega,by unfold maxLen;rw [List.length_map,ls];omega⟩ rfl rfl rfl rfl ?_
    repeat' (first|refine z0 ?_|apply ds_nil|refine z16 ?_|apply thenD_n|apply inB_n)
    exact⟨i + 1,hi,ent_ren (fun j=>match j with|1=>3|j=>j) ⟨rfl,rfl,rfl,rfl,rfl,trivial⟩ ⟨rfl,by rw [hf,List.map_append];rfl,trivial⟩ rfl rfl rfl rfl rfl rfl,by omega⟩
   ·have hd:keptL r.has [r.has[i]]=[]:=by
     unfold keptL
     rw [List.filter_cons,if_neg,List.filter_nil]
     intro h
     rw [Bool.not_eq_true'] at h
     exact absurd (hz.2 h) (by assumption)
    rw [hd,List.append_nil] at hst
    exact⟨i + 1,hi,ent_ren id ⟨rfl,rfl,rfl,rfl,rfl,trivial⟩ ⟨rfl,by rw [hst];rfl,trivial⟩ rfl rfl rfl rfl rfl rfl,by omega⟩
  ·rw [List.take_of_length_le (by omega)]
   have w:=set_fn ((keptL r.has r.has).flatMap Upd.says) (by have:=said_len r.has r.has.length;rw [List.take_of_length_le (Nat.le_refl _)] at this;omega) (fun f hf=>by
    obtain⟨u,hu,hf⟩:=List.mem_flatMap.1 hf
    have:=hsa u (List.mem_filter.1 hu).1 f hf
    omega)
   refine dw_ent (ent_seal 8 rfl rfl rfl) ?_
   repeat' (first|refine z0 ?_|apply ds_nil|apply dw_seq2|refine z16 ?_|apply dw_block|apply dw_skip|apply dw_exit|apply dw_ret|apply thenD_n|apply thenD_e|refine z17 ?_|refine z21 ?_ (hc:=by apply w)|refine z1 ?_|refine z3 ?_|(refine z23 ?_ ?_ <;> intro hg)|fail)
   all_goals try (exfalso;omega)
   exact⟨.inl rfl,_,rfl,rfl,rfl⟩
theorem flat_len {α:Type} (f:Upd→List α) (n:Nat):∀ (l:List Upd),(∀ u∈l,(f u).length≤n)→(l.flatMap f).length≤l.length * n
 | [],_=>Nat.zero_le _
 | u::l,h=>by
  rw [List.flatMap_cons,List.length_append,List.length_cons,Nat.add_mul,Nat.one_mul]
  have h1:=h u (List.mem_cons_self ..)
  have h2:=flat_len f n l fun v hv=>h v (List.mem_cons_of_mem _ hv)
  omega
set_option maxHeartbeats 8000000 in
theorem dheads_fn (r:Rpl) (h1:r.has.length≤4398046511104) (h2:r.waits.length≤4398046511104):Fn 19 [elRpl r] (fun res=>res=if checkR r=0 then .tup [.d (.slice 2 (((topsU r.has).map Upd.id).map encId)),.d (.int .i64 0)] else .tup [.d (.slice 2 []),.d (.int .i64 (checkR r))]):=by
 refine fnp_enter' _ Tryz.func19 rfl rfl (by kernel_rfl) ?_
 intro O w0 E0 β0
 have w1:=dcheck_fn r h1 h2
 by_cases hr:checkR r=0
 ·obtain⟨hlen,hall,hok⟩:=checkR_ok hr
  have hf:=flat_len Upd.parents 6 r.has fun u hu=>(checkU_small (hall u (List.mem_append_left _ hu))).1
  have w2:=tops_fn r (by omega) (by omega)
  rw [if_pos hr]
  rw [hr] at w1
  repeat' (first|refine z0 ?_|apply ds_nil|apply dw_seq2|refine z16 ?_|apply dw_skip|apply dw_ret|refine z19 ?_|apply thenD_n|refine z21 ?_ (hc:=by apply w1)|refine z21 ?_ (hc:=by apply w2)|refine z1 ?_|fail)
  all_goals try (exfalso;omega)
  exact⟨.inl rfl,_,rfl,rfl,rfl⟩
 ·rw [if_neg hr]
  repeat' (first|refine z0 ?_|apply ds_nil|apply dw_seq2|refine z16 ?_|apply dw_skip|apply thenD_n|refine z21 ?_ (hc:=by apply w1)|refine z1 ?_|(refine z23 ?_ ?_ <;> intro hg)|fail)
  all_goals try (exfalso;omega)
  refine dw_ent (ent_nild 2 2 rfl) ?_
  repeat' (first|apply dw_ret|apply thenD_r)
  exact⟨.inl rfl,_,rfl,rfl,rfl⟩
set_option maxHeartbeats 8000000 in
theorem dfacts_fn (r:Rpl) (h1:r.has.length≤4398046511104) (h2:r.waits.length≤4398046511104):Fn 18 [elRpl r] (fun res=>res=if checkR r=0 then .tup [.d (.slice 2 ((setF' ((keptU r.has).flatMap Upd.says)).map encFct)),.d (.int .i64 0)] else .tup [.d (.slice 2 []),.d (.int .i64 (checkR r))]):=by
 refine fnp_enter' _ Tryz.func18 rfl rfl (by kernel_rfl) ?_
 intro O w0 E0 β0
 have w1:=dcheck_fn r h1 h2
 by_cases hr:checkR r=0
 ·obtain⟨hlen,hall,hok⟩:=checkR_ok hr
  have hf:=flat_len Upd.takes 6 r.has fun u hu=>(checkU_small (hall u (List.mem_append_left _ hu))).2.2
  have hs:=flat_len Upd.says 6 r.has fun u hu=>(checkU_small (hall u (List.mem_append_left _ hu))).2.1
  have w2:=said_fn r (by omega) (by omega) (by omega) (fun u hu f hf=>(short_of (hall u (List.mem_append_left _ hu))).args f hf)
  rw [if_pos hr]
  rw [hr] at w1
  repeat' (first|refine z0 ?_|apply ds_nil|apply dw_seq2|refine z16 ?_|apply dw_skip|apply dw_ret|refine z19 ?_|apply thenD_n|refine z21 ?_ (hc:=by apply w1)|refine z21 ?_ (hc:=by apply w2)|refine z1 ?_|fail)
  all_goals try (exfalso;omega)
  exact⟨.inl rfl,_,rfl,rfl,rfl⟩
 ·rw [if_neg hr]
  repeat' (first|refine z0 ?_|apply ds_nil|apply dw_seq2|refine z16 ?_|apply dw_skip|apply thenD_n|refine z21 ?_ (hc:=by apply w1)|refine z1 ?_|(refine z23 ?_ ?_ <;> intro hg)|fail)
  all_goals try (exfalso;omega)
  refine dw_ent (ent_nild 2 2 rfl) ?_
  repeat' (first|apply dw_ret|apply thenD_r)
  exact⟨.inl rfl,_,rfl,rfl,rfl⟩
theorem saysB_pred {f:Fct} (h:inR f.pred 0 9=false):saysB f=false:=by unfold saysB;rw [h];rfl
theorem saysB_many {f:Fct} (h:¬ f.args.length≤3):saysB f=false:=by unfold saysB;rw [decide_eq_false h,Bool.false_and,Bool.and_false]
theorem saysB_all {f:Fct} (h1:inR f.pred 0 9=true) (h2:f.args.length≤3):saysB f=f.args.all numB:=by unfold saysB;rw [h1,decide_eq_true h2,Bool.true_and,Bool.true_and]
set_option maxHeartbeats 8000000 in
theorem checkUpdate_fn (u:Upd):Fn 28 [elUpd u] (fun r=>r = .d (.int .i64 (checkU u))):=by
 refine fnp_enter' _ Tryz.func28 rfl rfl (by kernel_rfl) ?_
 intro O w0 E0 β0
 have h1:=areIds_fn u.parents
 have h2:=areIds_fn u.takes
 have h3:=idsRise_fn u.parents
 have h4:=idsRise_fn u.takes
 have h5:=hasId_fn u.parents ⟨u.id.author,u.id.number - 1⟩
 have h8:=isId_fn u.id
 have hid:=fun h=>(idB_parts (i:=u.id) h).2.2.2
 have hid1:=fun h=>(idB_parts (i:=u.id) h).2.2.1
 generalize hans:checkU u=ans
 unfold checkU at hans
 generalize idB u.id=b0 at *
 have hidN:b0=false∨(b0=true∧1≤u.id.number∧u.id.number≤200):=by
  cases b0 with
  | false=>exact .inl rfl
  | true=>exact .inr ⟨rfl,hid1 rfl,hid rfl⟩
 clear hid hid1
 rcases hidN with rfl|⟨rfl,n1,n2⟩
 ·repeat' (first|refine z0 ?_|apply ds_nil|apply dw_seq2|refine z16 ?_|apply dw_ret|refine z18 ?_|apply thenD_n|apply thenD_r|refine z21 ?_ (hc:=by apply h8)|refine z1 ?_|fail)
  all_goals exact ret_i rfl (by simpa using hans)
 generalize (u.parents.all fun x=>idB x)=b1 at *
 generalize (u.takes.all fun x=>idB x)=b2 at *
 generalize rises ordId u.parents=b3 at *
 generalize rises ordId u.takes=b4 at *
 generalize (u.parents.any fun x=>x.same ⟨u.id.author,u.id.number - 1⟩)=b5 at *
 repeat' (first|refine z0 ?_|refine z12 ?_|apply ds_nil|apply dw_seq2|refine z16 ?_|apply dw_block|apply dw_skip|apply dw_ret|refine z18 ?_|refine z19 ?_|apply thenD_n|apply thenD_r|refine z21 ?_ (hc:=by apply h8)|refine z21 ?_ (hc:=by apply h1)|refine z21 ?_ (hc:=by apply h2)|refine z21 ?_ (hc:=by apply h3)|refine z21 ?_ (hc:=by apply h4)|refine z21 ?_ (hc:=by apply h5)|refine z1 ?_|(refine z23 ?_ ?_ <;> intro hg)|(apply dw_cond;exact rfl;all_goals intro hg)|((fail_if_success (apply ds_known;exact rfl));apply ds_guardP;exact rfl;exact rfl;exact rfl;all_goals intro hg)|((fail_if_success (apply ds_known;exact rfl));apply ds_guardB;exact rfl;exact rfl;exact rfl;all_goals intro hg))
 all_goals first
  | (refine ret_i rfl ?_
     clear h1 h2 h3 h4 h5 h8
     first|(simp_all;done)|(simp_all;omega)|(simp_all;intros;omega))
  | skip
 all_goals
  have hC:ans=if u.says.all saysB=false then 3 else if rises ordF u.says=false then 4 else 0:=by
   clear h1 h2 h3 h4 h5 h8
   have l1:(u.parents.map encId).length=u.parents.length:=List.length_map _
   have l2:(u.says.map encFct).length=u.says.length:=List.length_map _
   have l3:(u.takes.map encId).length=u.takes.length:=List.length_map _
   rw [← hans,if_neg (by simp),if_neg (by omega),if_neg (by simp_all),if_neg (by simp_all),if_neg (by first|(simp_all;done)|(simp_all;omega))]
  clear hans h1 h2 h3 h4 h5 h8
  refine dw_lenC 0 3 rfl rfl fun hb=>?_
  have ls:(u.says.map encFct).length=u.says.length:=List.length_map _
  refine ds_loop (ι:=Nat) (fun i=>⟨1,[(1,.loc 0 0),(3,.d (.int .i64 i))],[(0,.blk 35 [.d (.int .i64 u.id.author),.d (.int .i64 u.id.number),.d (.slice 2 (u.parents.map encId)),.d (.slice 2 (u.says.map encFct)),.d (.slice 2 (u.takes.map encId))])]⟩)
   (fun i=>i≤u.says.length∧u.says.all saysB=(u.says.drop i).all saysB) (fun i=>u.says.length - i) 0 ⟨Nat.zero_le _,rfl⟩
   (ent_ren id ⟨rfl,rfl,trivial⟩ ⟨rfl,trivial⟩ rfl rfl rfl rfl rfl rfl) ?_
  rintro i ⟨g1,g2⟩
  repeat' (first|refine z0 ?_|apply ds_nil|apply dw_seq2|refine z16 ?_|apply thenD_n)
  refine dw_condP rfl (fun h=>?_) (fun h=>?_)
  ·have hi:i < u.says.length:=by omega
   have hd:=all_step (p:=saysB) hi
   generalize hf:u.says[i]=f at hd
   repeat' (first|refine z0 ?_|apply ds_nil|apply dw_seq2|refine z16 ?_|apply dw_block|apply dw_skip|apply thenD_n|refine z1 ?_|refine z3 ?_|fail)
   rw [hf]
   repeat' (first|refine z0 ?_|refine z12 ?_|apply ds_nil|apply dw_seq2|refine z16 ?_|apply dw_block|apply dw_skip|apply dw_ret|refine z18 ?_|apply thenD_n|apply thenD_r|apply inB_r|refine z21 ?_ (hc:=by apply rbetween_fn)|(refine z23 ?_ ?_ <;> intro hg)|((fail_if_success (apply ds_known;exact rfl));apply ds_guardB;exact rfl;exact rfl;exact rfl;all_goals intro hg))
   all_goals first
    | (refine ret_i rfl ?_
       have la:(f.args.map encI).length=f.args.length:=List.length_map _
       have hF:saysB f=false:=by
        first
         | (apply saysB_many;omega)
         | (apply saysB_pred;simp_all;done)
       rw [hC,g2,hd,hF];rfl)
    | skip
   have hF:saysB f=f.args.all numB:=saysB_all (by simp_all) (by have la:(f.args.map encI).length=f.args.length:=List.length_map _;omega)
   refine ds_loop (ι:=Nat) (fun k=>⟨2,[(1,.loc 0 0),(3,.d (.int .i64 i)),(4,.loc 1 0),(5,.d (.int .i64 k))],[(0,.blk 35 [.d (.int .i64 u.id.author),.d (.int .i64 u.id.number),.d (.slice 2 (u.parents.map encId)),.d (.slice 2 (u.says.map encFct)),.d (.slice 2 (u.takes.map encId))]),(1,.blk 95 [.d (.int .i64 f.pred),.d (.slice 1 (f.args.map encI))])]⟩)
    (fun k=>k≤f.args.length∧f.args.all numB=(f.args.drop k).all numB) (fun k=>f.args.length - k) 0 ⟨Nat.zero_le _,rfl⟩
    (ent_ren id ⟨rfl,rfl,rfl,rfl,trivial⟩ ⟨rfl,rfl,trivial⟩ rfl rfl rfl rfl rfl rfl) ?_
   rintro k ⟨q1,q2⟩
   have la:(f.args.map encI).length=f.args.length:=List.length_map _
   repeat' (first|refine z0 ?_|apply ds_nil|apply dw_seq2|refine z16 ?_|apply thenD_n)
   refine dw_condP rfl (fun hk=>?_) (fun hk=>?_)
   ·have hkl:k < f.args.length:=by omega
    have hd2:=all_step (p:=numB) hkl
    repeat' (first|refine z0 ?_|apply ds_nil|apply dw_seq2|refine z16 ?_|apply dw_block|apply dw_skip|apply thenD_n|refine z21 ?_ (hc:=by apply isNumber_fn)|fail)
    refine dw_cond rfl (fun hn=>?_) (fun hn=>?_)
    ·repeat' (first|refine z0 ?_|apply ds_nil|apply dw_seq2|refine z16 ?_|apply dw_ret|apply thenD_n|apply thenD_r|apply inB_r)
     refine ret_i rfl ?_
     have:numB f.args[k]=false:=by simpa using hn
     rw [hC,g2,hd,hF,q2,hd2,this];rfl
    ·repeat' (first|refine z0 ?_|apply ds_nil|refine z16 ?_|apply dw_skip|apply thenD_n|apply inB_n)
     have:numB f.args[k]=true:=by simpa using hn
     exact⟨k + 1,⟨hkl,by rw [q2,hd2,this];rfl⟩,ent_ren id ⟨rfl,rfl,rfl,rfl,trivial⟩ ⟨rfl,rfl,trivial⟩ rfl rfl rfl rfl rfl rfl,by omega⟩
   ·repeat' (first|refine z0 ?_|apply ds_nil|refine z16 ?_|apply dw_exit|apply thenD_n|apply thenD_e|apply inB_n|refine z17 ?_|fail)
    exact⟨i + 1,⟨hi,by rw [g2,hd,hF,q2,all_end (by omega)];rfl⟩,ent_ren id ⟨rfl,rfl,trivial⟩ ⟨rfl,trivial⟩ rfl rfl rfl rfl rfl rfl,by omega⟩
  ·have hS:u.says.all saysB=true:=by rw [g2,all_end (by omega)]
   rw [hS,if_neg (by simp)] at hC
   repeat' (first|refine z0 ?_|apply ds_nil|apply dw_seq2|refine z16 ?_|apply dw_block|apply dw_exit|apply thenD_n|apply thenD_e|refine z17 ?_|fail)
   refine ds_loop (ι:=Nat) (fun i=>⟨1,[(1,.loc 0 0),(6,.d (.int .i64 ((i:Int) + 1)))],[(0,.blk 35 [.d (.int .i64 u.id.author),.d (.int .i64 u.id.number),.d (.slice 2 (u.parents.map encId)),.d (.slice 2 (u.says.map encFct)),.d (.slice 2 (u.takes.map encId))])]⟩)
    (fun i=>i≤u.says.length∧rises ordF u.says=rises ordF (u.says.drop i)) (fun i=>u.says.length - i) 0 ⟨Nat.zero_le _,rfl⟩
    (ent_ren id ⟨rfl,rfl,trivial⟩ ⟨rfl,trivial⟩ rfl rfl rfl rfl rfl rfl) ?_
   rintro j ⟨j1,j2⟩
   repeat' (first|refine z0 ?_|apply ds_nil|apply dw_seq2|refine z16 ?_|apply thenD_n)
   refine dw_condP rfl (fun h=>?_) (fun h=>?_)
   ·have hj:j + 1 < u.says.length:=by omega
    have e0:∀ (m:Nat) (hm:m < u.says.length),m=j→u.says[m]'hm=u.says[j]'(by omega):=by rintro m hm rfl;rfl
    repeat' (first|refine z5 ?_|refine z10 ?_|apply dw_seq2|refine z20 ?_|apply dw_block|apply dw_skip|apply thenD_n|refine z22 ?_ (hc:=by apply orderOf_fn)|fail)
    refine dw_condP rfl (fun hb=>?_) (fun hb=>?_)
    ·repeat' (first|refine z0 ?_|apply ds_nil|apply dw_seq2|refine z16 ?_|apply dw_ret|apply thenD_n|apply thenD_r|apply inB_r)
     rw [e0 _ _ (by omega)] at hb
     exact ret_i rfl (by rw [hC,j2,rises_bad hj (by omega)];rfl)
    ·repeat' (first|refine z0 ?_|apply ds_nil|refine z16 ?_|apply dw_skip|apply thenD_n|apply inB_n)
     rw [e0 _ _ (by omega)] at hb
     exact⟨j + 1,⟨by omega,by rw [j2,rises_ok hj (by omega)]⟩,ent_ren id ⟨rfl,rfl,trivial⟩ ⟨rfl,trivial⟩ rfl rfl rfl rfl rfl rfl,by omega⟩
   ·repeat' (first|refine z0 ?_|apply ds_nil|apply dw_seq2|refine z16 ?_|apply dw_exit|apply dw_ret|apply thenD_n|apply thenD_e|refine z17 ?_|fail)
    exact ret_i rfl (by rw [hC,j2,rises_end (by omega)];rfl)







set_option maxHeartbeats 8000000 in
theorem sameUpdate_fn (a b:Upd):Fn 24 [elUpd a,elUpd b] (fun r=>r = .d (.bool (a.same b))):=by
 refine fnp_enter' _ Tryz.func24 rfl rfl (by kernel_rfl) ?_
 intro O w0 E0 β0
 have h1:=sameIds_fn a.parents b.parents
 have h2:=sameFacts_fn a.says b.says
 have h3:=sameIds_fn a.takes b.takes
 unfold Upd.same
 have e:a.id.same b.id=(decide (a.id.author=b.id.author) && (decide (a.id.number=b.id.number) && true)):=by unfold UId.same;rw [Bool.and_true]
 rw [e]
 generalize sameL UId.same a.parents b.parents=x1 at h1 ⊢
 generalize sameL Fct.same a.says b.says=x2 at h2 ⊢
 generalize sameL UId.same a.takes b.takes=x3 at h3 ⊢
 repeat' (first|refine z0 ?_|refine z12 ?_|apply ds_nil|apply dw_seq2|refine z16 ?_|apply dw_ret|apply thenD_n|refine z21 ?_ (hc:=by apply h1)|refine z21 ?_ (hc:=by apply h2)|refine z21 ?_ (hc:=by apply h3)|refine z1 ?_|((fail_if_success (apply ds_known;exact rfl));apply ds_guardB;exact rfl;exact rfl;exact rfl;all_goals intro hg))
 all_goals exact ret_b rfl (by simp_all)
set_option maxHeartbeats 8000000 in
theorem fact_fn (p:Int) (l:List Int):Fn 47 [.d (.int .i64 p),.d (.slice 1 (l.map encI))] (fun r=>r=elFct ⟨p,l⟩):=by
 refine fnp_enter' _ Tryz.func47 rfl rfl (by kernel_rfl) ?_
 intro O w0 E0 β0
 repeat' (first|refine z0 ?_|apply ds_nil|apply dw_seq2|refine z16 ?_|apply dw_ret|apply thenD_n|refine z1 ?_|refine z3 ?_|fail)
 exact⟨.inl rfl,_,rfl,rfl,rfl⟩
def firstU:Upd:=⟨⟨0,1⟩,[],[⟨0,[1,2]⟩,⟨0,[2,3]⟩],[]⟩
def secondU:Upd:=⟨⟨1,1⟩,[⟨0,1⟩],[⟨0,[4,5]⟩],[⟨0,1⟩]⟩
set_option maxHeartbeats 8000000 in
theorem pairs_fn:Fn 104 [] (fun r=>r = .d (.slice 2 (firstU.says.map encFct))):=by
 refine fnp_enter' _ Tryz.func104 rfl rfl (by kernel_rfl) ?_
 intro O w0 E0 β0
 have h1:=fact_fn 0 [1,2]
 have h2:=fact_fn 0 [2,3]
 repeat' (first|refine z0 ?_|apply ds_nil|apply dw_seq2|refine z16 ?_|apply dw_ret|apply thenD_n|refine z21 ?_ (hc:=by apply h1)|refine z21 ?_ (hc:=by apply h2)|refine z4 ?_|fail)
 exact⟨.inl rfl,_,rfl,rfl,rfl⟩
set_option maxHeartbeats 8000000 in
theorem first_fn:Fn 45 [] (fun r=>r=elUpd firstU):=by
 refine fnp_enter' _ Tryz.func45 rfl rfl (by kernel_rfl) ?_
 intro O w0 E0 β0
 repeat' (first|refine z0 ?_|apply ds_nil|apply dw_seq2|refine z16 ?_|apply thenD_n|refine z21 ?_ (hc:=by apply pairs_fn)|refine z1 ?_|refine z3 ?_|fail)
 refine dw_ent (ent_cellnil 0 2 2 rfl rfl rfl) ?_
 refine dw_ent (ent_cellnil 0 4 2 rfl rfl rfl) ?_
 repeat' (apply dw_ret)
 exact⟨.inl rfl,_,rfl,rfl,rfl⟩
set_option maxHeartbeats 8000000 in
theorem second_fn:Fn 44 [] (fun r=>r=elUpd secondU):=by
 refine fnp_enter' _ Tryz.func44 rfl rfl (by kernel_rfl) ?_
 intro O w0 E0 β0
 have h1:=fact_fn 0 [4,5]
 repeat' (first|refine z0 ?_|apply ds_nil|apply dw_seq2|refine z16 ?_|apply dw_ret|apply thenD_n|refine z21 ?_ (hc:=by apply h1)|refine z1 ?_|refine z3 ?_|refine z4 ?_|fail)
 exact⟨.inl rfl,_,rfl,rfl,rfl⟩
set_option maxHeartbeats 8000000 in
theorem placeOf_fn (l:List Upd) (y:UId) (hl:l.length≤4398046511104):Fn 35 [.d (.slice 5 (l.map encUpd)),elId y] (fun r=>r = .d (.int .i64 (idxF (fun u=>u.id.same y) l))):=by
 refine fnp_enter' _ Tryz.func35 rfl rfl (by kernel_rfl) ?_
 intro O w0 E0 β0
 have ll:(l.map encUpd).length=l.length:=List.length_map _
 repeat' (first|refine z0 ?_|apply ds_nil|apply dw_seq2|refine z16 ?_|apply dw_block|apply thenD_n|refine z1 ?_|fail)
 refine ds_loop (ι:=Nat) (fun i=>⟨1,[(0,.d (.slice 5 (l.map encUpd))),(3,.loc 0 0),(5,.d (.int .i64 i))],[(0,.blk 31 [.d (.int .i64 y.author),.d (.int .i64 y.number)])]⟩)
  (fun i=>i≤l.length∧∀ j (hj:j < l.length),j < i→UId.same l[j].id y=false) (fun i=>l.length - i) 0 ⟨Nat.zero_le _,fun j _ h=>absurd h (Nat.not_lt_zero j)⟩
  (ent_ren id ⟨rfl,rfl,rfl,trivial⟩ ⟨rfl,trivial⟩ rfl rfl rfl rfl rfl rfl) ?_
 rintro i ⟨h1,h2⟩
 dsimp only at h1 h2 ⊢
 repeat' (first|refine z0 ?_|apply ds_nil|apply dw_seq2|refine z16 ?_|apply thenD_n)
 refine dw_condP rfl (fun h=>?_) (fun h=>?_)
 ·have hi:i < l.length:=by omega
  repeat' (first|refine z5 ?_|refine z10 ?_|apply dw_seq2|refine z20 ?_|apply dw_block|apply dw_skip|apply thenD_n)
  refine dw_cond rfl (fun hb=>?_) (fun hb=>?_)
  ·repeat' (first|refine z0 ?_|apply ds_nil|apply dw_seq2|refine z16 ?_|apply dw_ret|apply thenD_n|apply thenD_r|apply inB_r)
   exact ret_i rfl (idxF_hit (p:=fun u:Upd=>u.id.same y) h2 hi (same_beq2 hb)).symm
  ·repeat' (first|refine z0 ?_|apply ds_nil|refine z16 ?_|apply dw_skip|apply thenD_n|apply inB_n)
   exact⟨i + 1,⟨hi,none_step (p:=fun u:Upd=>u.id.same y) h2 hi (same_beq2 hb)⟩,ent_ren id ⟨rfl,rfl,rfl,trivial⟩ ⟨rfl,trivial⟩ rfl rfl rfl rfl rfl rfl,by omega⟩
 ·repeat' (first|refine z0 ?_|apply ds_nil|apply dw_seq2|refine z16 ?_|apply dw_exit|apply dw_ret|apply thenD_n|apply thenD_e|refine z17 ?_|fail)
  exact ret_i rfl (idxF_none (p:=fun u:Upd=>u.id.same y) fun j hj=>h2 j hj (by omega)).symm
set_option maxHeartbeats 8000000 in
theorem underOf_fn (u:Upd) (h:u.parents.length + u.takes.length≤1000000):Fn 132 [elUpd u] (fun r=>r = .d (.slice 2 ((underU u).map encId))):=by
 refine fnp_enter' _ Tryz.func132 rfl rfl (by kernel_rfl) ?_
 intro O w0 E0 β0
 have lp:(u.parents.map encId).length=u.parents.length:=List.length_map _
 have lt:(u.takes.map encId).length=u.takes.length:=List.length_map _
 repeat' (first|(apply dt_bs0;exact rfl;exact rfl;exact rfl;exact rfl;exact rfl;exact rfl;exact rfl;exact rfl;exact rfl;exact rfl)|(first|refine z0 ?_|apply ds_nil|refine z5 ?_|refine z9 ?_|refine z11 ?_|apply dw_seq2|refine z16 ?_|refine z20 ?_|apply thenD_n|refine z1 ?_|fail))
 refine dw_ent (ent_seal 2 rfl rfl rfl) ?_
 repeat' (apply dw_ret)
 exact⟨.inl rfl,_,rfl,rfl,by unfold underU;rw [List.map_append];rfl⟩
set_option maxHeartbeats 8000000 in
theorem sameUpdates_fn (l m:List (Upd)):Fn 46 [.d (.slice 5 (l.map encUpd)),.d (.slice 5 (m.map encUpd))] (fun r=>r = .d (.bool (sameL Upd.same l m))):=by
 refine fnp_enter' _ Tryz.func46 rfl rfl (by kernel_rfl) ?_
 intro O w0 E0 β0
 refine dw_len_map (t:=0) rfl fun hb=>?_
 repeat' (first|refine z0 ?_|apply ds_nil|apply dw_seq2|refine z16 ?_|apply thenD_n)
 refine dw_condP rfl (fun h=>?_) (fun h=>?_)
 ·have hne:l.length≠m.length:=by rw [List.length_map,List.length_map] at h;omega
  repeat' (first|refine z0 ?_|apply ds_nil|apply dw_seq2|refine z16 ?_|apply dw_ret|apply thenD_n|apply thenD_r)
  exact ret_b rfl (sameL_len _ _ _ hne).symm
 ·have hlen:l.length=m.length:=by rw [List.length_map,List.length_map] at h;omega
  repeat' (first|refine z0 ?_|apply ds_nil|apply dw_seq2|refine z16 ?_|apply dw_block|apply dw_skip|apply thenD_n)
  refine ds_loop (ι:=Nat) (fun i=>⟨0,[(0,.d (.slice 5 (l.map encUpd))),(1,.d (.slice 5 (m.map encUpd))),(5,.d (.int .i64 i))],[]⟩)
   (fun i=>i≤l.length∧sameL Upd.same l m=sameL Upd.same (l.drop i) (m.drop i)) (fun i=>l.length - i) 0 ⟨Nat.zero_le _,rfl⟩
   (ent_ren id ⟨rfl,rfl,rfl,trivial⟩ trivial rfl rfl rfl rfl rfl rfl) ?_
  rintro i ⟨h1,h2⟩
  repeat' (first|refine z0 ?_|apply ds_nil|apply dw_seq2|refine z16 ?_|apply thenD_n)
  refine dw_condP rfl (fun h=>?_) (fun h=>?_)
  ·have hi:i < l.length:=by rw [List.length_map] at h;omega
   have hm:i < m.length:=by omega
   have hd:=sameL_drop Upd.same l m i hi hm
   repeat' (first|refine z5 ?_|refine z10 ?_|apply dw_seq2|refine z20 ?_|apply dw_block|apply dw_skip|apply thenD_n|refine z22 ?_ (hc:=by apply sameUpdate_fn)|fail)
   refine dw_cond rfl (fun hb=>?_) (fun hb=>?_)
   ·have hp:Upd.same l[i] m[i]=false:=by simpa using hb
    repeat' (first|refine z0 ?_|apply ds_nil|apply dw_seq2|refine z16 ?_|apply dw_ret|apply thenD_n|apply thenD_r|apply inB_r)
    exact ret_b rfl (by rw [h2,hd,hp];rfl)
   ·have hp:Upd.same l[i] m[i]=true:=by simpa using hb
    repeat' (first|refine z0 ?_|apply ds_nil|refine z16 ?_|apply dw_skip|apply thenD_n|apply inB_n)
    exact⟨i + 1,⟨hi,by rw [h2,hd,hp];rfl⟩,ent_ren id ⟨rfl,rfl,rfl,trivial⟩ trivial rfl rfl rfl rfl rfl rfl,by omega⟩
  ·repeat' (first|refine z0 ?_|apply ds_nil|apply dw_seq2|refine z16 ?_|apply dw_exit|apply dw_ret|apply thenD_n|apply thenD_e|refine z17 ?_|fail)
   exact ret_b rfl (by rw [h2,sameL_end _ _ _ _ (by rw [List.length_map] at h;omega) (by rw [List.length_map] at h;omega)])
set_option maxHeartbeats 8000000 in
theorem sameReplica_fn (a b:Rpl):Fn 23 [elRpl a,elRpl b] (fun r=>r = .d (.bool (sameL Upd.same a.has b.has && sameL Upd.same a.waits b.waits))):=by
 refine fnp_enter' _ Tryz.func23 rfl rfl (by kernel_rfl) ?_
 intro O w0 E0 β0
 have w1:=sameUpdates_fn a.has b.has
 have w2:=sameUpdates_fn a.waits b.waits
 cases hb:sameL Upd.same a.has b.has with
 | true =>
  rw [hb] at w1
  repeat' (first|refine z0 ?_|apply ds_nil|apply dw_seq2|refine z16 ?_|apply dw_ret|apply thenD_n|refine z21 ?_ (hc:=by apply w1)|refine z21 ?_ (hc:=by apply w2)|refine z1 ?_|fail)
  exact ret_b rfl rfl
 | false =>
  rw [hb] at w1
  repeat' (first|refine z0 ?_|refine z12 ?_|apply ds_nil|apply dw_seq2|refine z16 ?_|apply dw_ret|apply thenD_n|refine z21 ?_ (hc:=by apply w1)|refine z1 ?_|fail)
  exact ret_b rfl rfl
theorem hasU_idx (l:List Upd) (i:UId):decide (idxF (fun u=>u.id.same i) l < 0) = !hasU l i:=by
 have h:=idxF_any (fun u:Upd=>u.id.same i) l
 unfold hasU
 rw [← h]
 cases hd:decide (idxF (fun u:Upd=>u.id.same i) l ≥ 0) with
 | true=>rw [decide_eq_true_eq] at hd;exact decide_eq_false (by omega)
 | false=>rw [decide_eq_false_iff_not] at hd;exact decide_eq_true (by omega)
set_option maxHeartbeats 8000000 in
theorem isReadyU_fn (has:List Upd) (u:Upd) (hl:has.length≤4398046511104) (h:u.parents.length + u.takes.length≤1000000):Fn 74 [.d (.slice 5 (has.map encUpd)),elUpd u] (fun r=>r = .d (.bool (readyU has u))):=by
 refine fnp_enter' _ Tryz.func74 rfl rfl (by kernel_rfl) ?_
 intro O w0 E0 β0
 have w1:=underOf_fn u h
 have hr:readyU has u=(underU u).all (hasU has):=rfl
 have hlen:(underU u).length≤1000000:=by unfold underU;rw [List.length_append];omega
 generalize underU u=ids at w1 hr hlen
 have li:(ids.map encId).length=ids.length:=List.length_map _
 repeat' (first|refine z0 ?_|apply ds_nil|apply dw_seq2|refine z16 ?_|apply dw_block|apply thenD_n|refine z21 ?_ (hc:=by apply w1)|refine z1 ?_|fail)
 refine ds_loop (ι:=Nat) (fun i=>⟨0,[(0,.d (.slice 5 (has.map encUpd))),(5,.d (.slice 2 (ids.map encId))),(6,.d (.int .i64 i))],[]⟩)
  (fun i=>i≤ids.length∧readyU has u=(ids.drop i).all (hasU has)) (fun i=>ids.length - i) 0 ⟨Nat.zero_le _,hr⟩ (ent_ren id ⟨rfl,rfl,rfl,trivial⟩ trivial rfl rfl rfl rfl rfl rfl) ?_
 rintro i ⟨g1,g2⟩
 dsimp only at g1 g2 ⊢
 by_cases hi:i < ids.length
 ·have w2:=placeOf_fn has ids[i] hl
  have hd:=hasU_idx has ids[i]
  rw [List.drop_eq_getElem_cons hi,List.all_cons] at g2
  cases hb:hasU has ids[i] with
  | true =>
   rw [hb] at hd g2
   have hd:=of_decide_eq_false hd
   rw [Bool.true_and] at g2
   clear w1
   repeat' (first|refine z0 ?_|apply ds_nil|apply dw_seq2|refine z16 ?_|apply dw_block|apply dw_skip|apply dw_exit|apply thenD_n|apply thenD_e|apply inB_n|refine z17 ?_|refine z21 ?_ (hc:=by apply w2)|(refine z23 ?_ ?_ <;> intro hg)|fail)
   all_goals try (exfalso;omega)
   exact⟨i + 1,⟨hi,g2⟩,ent_ren id ⟨rfl,rfl,rfl,trivial⟩ trivial rfl rfl rfl rfl rfl rfl,by omega⟩
  | false =>
   rw [hb] at hd g2
   have hd:=of_decide_eq_true hd
   rw [Bool.false_and] at g2
   rw [g2]
   clear w1
   repeat' (first|refine z0 ?_|apply ds_nil|apply dw_seq2|refine z16 ?_|apply dw_block|apply dw_skip|apply dw_exit|apply dw_ret|apply thenD_n|apply thenD_e|apply thenD_r|apply inB_n|apply inB_r|refine z17 ?_|refine z21 ?_ (hc:=by apply w2)|(refine z23 ?_ ?_ <;> intro hg)|fail)
   all_goals try (exfalso;omega)
   exact ret_b rfl rfl
 ·rw [List.drop_of_length_le (by omega)] at g2
  rw [g2]
  repeat' (first|refine z0 ?_|apply ds_nil|apply dw_seq2|refine z16 ?_|apply dw_block|apply dw_skip|apply dw_exit|apply dw_ret|apply thenD_n|apply thenD_e|refine z17 ?_|(refine z23 ?_ ?_ <;> intro hg)|fail)
  all_goals try (exfalso;omega)
  exact ret_b rfl rfl
abbrev rplB (r:Rpl):HB:=.blk 29 [.d (.slice 5 (r.has.map encUpd)),.d (.slice 5 (r.waits.map encUpd))]

theorem roundB_iff {has:List Upd} (hs:StrU has) (hr:∀ u∈has,readyU has u=true):roundB has=true↔∃ u∈has,¬ Der has u.id:=by
 unfold roundB
 rw [List.any_eq_true]
 constructor
 ·rintro⟨u,hu,h⟩
  exact⟨u,hu,fun hd=>der_no_round hs hd u hu rfl ((behM_iff hs _ _).1 h)⟩
 ·rintro⟨u,hu,h⟩
  refine Classical.byContradiction fun hn=>h (no_round_der hr (fun v hv hre=>hn ⟨v,hv,(behM_iff hs _ _).2 hre⟩) u hu)
def markOf (has:List Upd) (F:List Bool) (j:UId):Bool:=match has.findIdx? fun u=>u.id.same j with
 | some n=>F.getD n false
 | none=>false
theorem findIdx_at {has:List Upd} (hs:StrU has) {i:Nat} (hi:i < has.length):has.findIdx? (fun u=>u.id.same (has[i]'hi).id)=some i:=by
 rw [List.findIdx?_eq_some_iff_getElem]
 refine⟨hi,same_iff.2 rfl,fun j hj=>?_⟩
 rw [same_iff]
 intro he
 have h1:=hs.uniq (List.getElem_mem (by omega)) (List.getElem_mem hi) he
 have:=(List.getElem_inj hs.nodup).1 h1
 omega
theorem markOf_at {has:List Upd} (hs:StrU has) (F:List Bool) {i:Nat} (hi:i < has.length):markOf has F (has[i]'hi).id=F.getD i false:=by unfold markOf;rw [findIdx_at hs hi]
def FreeOk (has:List Upd) (F:List Bool):Prop:=F.length=has.length∧∀ (i:Nat) (hi:i < has.length),F.getD i false=true→Der has (has[i]'hi).id
theorem FreeOk.mark {has:List Upd} {F:List Bool} (h:FreeOk has F) {j:UId} (hm:markOf has F j=true):Der has j:=by
 unfold markOf at hm
 split at hm
 ·rename_i n hf
  obtain⟨hn,hs,_⟩:=List.findIdx?_eq_some_iff_getElem.1 hf
  rw [← same_iff.1 hs]
  exact h.2 n hn hm
 ·cases hm
theorem FreeOk.set {has:List Upd} {F:List Bool} (h:FreeOk has F) {i:Nat} (hi:i < has.length) (ha:(underU (has[i]'hi)).all (markOf has F)=true):FreeOk has (F.set i true):=by
 refine⟨by rw [List.length_set];exact h.1,fun j hj hm=>?_⟩
 by_cases he:i=j
 ·subst he
  exact .mk _ (List.getElem_mem hi) fun k hk=>h.mark (List.all_eq_true.1 ha k hk)
 ·refine h.2 j hj ?_
  rw [List.getD,List.getElem?_set_ne he] at hm
  exact hm
def Closed (has:List Upd) (F:List Bool):Prop:=∀ (i:Nat) (hi:i < has.length),F.getD i false=false→(underU (has[i]'hi)).all (markOf has F)=false
theorem Closed.der {has:List Upd} (hs:StrU has) {F:List Bool} (h:Closed has F) {j:UId} (hd:Der has j):markOf has F j=true:=by
 induction hd with
 | mk u hu _ ih =>
  obtain⟨i,hi,rfl⟩:=List.mem_iff_getElem.1 hu
  rw [markOf_at hs F hi]
  cases hb:F.getD i false with
  | true=>rfl
  | false =>
   have:=h i hi hb
   rw [List.all_eq_true.2 ih] at this
   cases this
theorem free_iff {has:List Upd} (hs:StrU has) {F:List Bool} (h:FreeOk has F) (hc:Closed has F) {i:Nat} (hi:i < has.length):F.getD i false=true↔Der has (has[i]'hi).id :=
 ⟨h.2 i hi,fun hd=>by rw [← markOf_at hs F hi];exact hc.der hs hd⟩
def leftF (F:List Bool):Nat:=F.countP fun b=>!b
theorem leftF_set {F:List Bool} {i:Nat} (hi:i < F.length) (hf:F.getD i false=false):leftF (F.set i true) + 1=leftF F:=by
 have e:F=F.take i++F[i]::F.drop (i + 1):=by rw [← List.drop_eq_getElem_cons hi,List.take_append_drop]
 have hb:F[i]=false:=by rw [List.getD,List.getElem?_eq_getElem hi] at hf;exact hf
 have e2:F.set i true=F.take i++true::F.drop (i + 1):=by rw [List.set_eq_take_append_cons_drop,if_pos hi]
 unfold leftF
 rw [e2]
 conv=>rhs;rw [e]
 rw [List.countP_append,List.countP_append,List.countP_cons,List.countP_cons,hb]
 simp
 omega
theorem leftF_pos {F:List Bool}:0 < leftF F↔∃ (i:Nat) (_:i < F.length),F.getD i false=false:=by
 unfold leftF
 rw [List.countP_pos_iff]
 constructor
 ·rintro⟨b,hb,h⟩
  obtain⟨i,hi,rfl⟩:=List.mem_iff_getElem.1 hb
  exact⟨i,hi,by rw [List.getD,List.getElem?_eq_getElem hi];simpa using h⟩
 ·rintro⟨i,hi,h⟩
  rw [List.getD,List.getElem?_eq_getElem hi] at h
  exact⟨F[i],List.getElem_mem hi,by simpa using h⟩
theorem left_iff {has:List Upd} (hs:StrU has) {F:List Bool} (h:FreeOk has F) (hc:Closed has F):0 < leftF F↔∃ u∈has,¬ Der has u.id:=by
 rw [leftF_pos]
 constructor
 ·rintro⟨i,hi,hf⟩
  have hi':i < has.length:=by rw [← h.1];exact hi
  exact⟨has[i],List.getElem_mem hi',fun hd=>by rw [(free_iff hs h hc hi').2 hd] at hf;cases hf⟩
 ·rintro⟨u,hu,hd⟩
  obtain⟨i,hi,rfl⟩:=List.mem_iff_getElem.1 hu
  refine⟨i,by rw [h.1];exact hi,?_⟩
  cases hb:F.getD i false with
  | false=>rfl
  | true=>exact absurd ((free_iff hs h hc hi).1 hb) hd
theorem markOf_idx (has:List Upd) (F:List Bool) (j:UId):(idxF (fun u=>u.id.same j) has = -1∧markOf has F j=false)∨∃ (n:Nat) (_:n < has.length),idxF (fun u=>u.id.same j) has=n∧markOf has F j=F.getD n false:=by
 unfold idxF markOf
 cases h:has.findIdx? fun u=>u.id.same j with
 | none=>exact .inl ⟨rfl,rfl⟩
 | some n=>exact .inr ⟨n,(List.findIdx?_eq_some_iff_getElem.1 h).1,rfl,rfl⟩
set_option maxHeartbeats 8000000 in
theorem isRound_fn (has:List Upd) (hl:has.length≤100000) (hs:StrU has) (hk:∀ u∈has,u.parents.length + u.takes.length≤1000000):Fn 75 [.d (.slice 5 (has.map encUpd))] (fun r=>∃ b,r = .d (.bool b)∧(b=true↔∃ u∈has,¬ Der has u.id)):=by
 refine fnp_enter' _ Tryz.func75 rfl rfl (by kernel_rfl) ?_
 intro O w0 E0 β0
 have ll:(has.map encUpd).length=has.length:=List.length_map _
 repeat' (first|refine z0 ?_|apply ds_nil|apply dw_seq2|refine z16 ?_|apply thenD_n)
 refine ds_mk ((List.replicate has.length false).map encBl) rfl rfl (by rw [ll]) rfl rfl rfl rfl rfl rfl (by show 1 * _≤_;omega) (by unfold maxLen;omega) (by rw [List.map_replicate];rfl) rfl rfl ?_
 repeat' (first|refine z0 ?_|apply ds_nil|apply dw_seq2|refine z16 ?_|apply dw_block|apply thenD_n)
 refine ds_loop (ι:=List Bool × Bool) (fun x=>⟨1,[(0,.d (.slice 5 (has.map encUpd))),(3,.row 0),(4,.d (.int .i64 (leftF x.1))),(5,.d (.bool x.2))],[(0,.row 4 1 (x.1.map encBl))]⟩)
  (fun x=>FreeOk has x.1∧(x.2=false→Closed has x.1)) (fun x=>2 * leftF x.1 + (match x.2 with|true=>1|false=>0)) (List.replicate has.length false,true)
  ⟨⟨List.length_replicate,fun i hi h=>by rw [List.getD,List.getElem?_replicate] at h;split at h <;> cases h⟩,fun h=>by cases h⟩ (ent_ren id ⟨rfl,rfl,?_,rfl,trivial⟩ ⟨rfl,trivial⟩ rfl rfl rfl rfl rfl rfl) ?_
 ·exact congrArg (fun z:Int=>SV.d (.int .i64 z)) (by unfold leftF;rw [ll,List.countP_replicate];simp)
 rintro⟨F,ch⟩ ⟨g1,g2⟩
 dsimp only at g1 g2 ⊢
 cases ch with
 | false =>
  repeat' (first|refine z0 ?_|apply ds_nil|apply dw_seq2|refine z16 ?_|apply dw_exit|apply dw_ret|refine z19 ?_|apply thenD_n|apply thenD_e|refine z17 ?_|fail)
  exact⟨.inl rfl,_,rfl,rfl,_,rfl,by rw [decide_eq_true_eq,← left_iff hs g1 (g2 rfl)];omega⟩
 | true =>
  clear g2
  repeat' (first|refine z0 ?_|apply ds_nil|apply dw_seq2|refine z16 ?_|apply dw_block|apply dw_skip|refine z18 ?_|apply thenD_n)
  refine ds_loop (ι:=Nat × List Bool × Bool) (fun x=>⟨1,[(0,.d (.slice 5 (has.map encUpd))),(3,.row 0),(4,.d (.int .i64 (leftF x.2.1))),(5,.d (.bool x.2.2)),(6,.d (.int .i64 x.1))],[(0,.row 4 1 (x.2.1.map encBl))]⟩)
   (fun x=>x.1≤has.length∧FreeOk has x.2.1∧(x.2.2=false→x.2.1=F∧∀ (j:Nat) (hj:j < has.length),j < x.1→F.getD j false=false→(underU (has[j]'hj)).all (markOf has F)=false)∧(x.2.2=true→leftF x.2.1 < leftF F)) (fun x=>has.length - x.1) (0,F,false)
   ⟨Nat.zero_le _,g1,fun _=>⟨rfl,fun j _ h=>absurd h (Nat.not_lt_zero j)⟩,fun h=>by cases h⟩ (ent_ren id ⟨rfl,rfl,rfl,rfl,rfl,trivial⟩ ⟨rfl,trivial⟩ rfl rfl rfl rfl rfl rfl) ?_
  rintro⟨i,G,cg⟩ ⟨f1,f2,f3,f4⟩
  dsimp only at f1 f2 f3 f4 ⊢
  have lg:(G.map encBl).length=G.length:=List.length_map _
  have lgh:=f2.1
  by_cases hi:i < has.length
  ·have w1:=underOf_fn has[i] (hk _ (List.getElem_mem hi))
   have hul:(underU has[i]).length≤1000000:=by unfold underU;rw [List.length_append];exact hk _ (List.getElem_mem hi)
   obtain⟨ids,hids⟩:∃ ids,ids=underU has[i]:=⟨_,rfl⟩
   rw [← hids] at w1 hul
   have li:(ids.map encId).length=ids.length:=List.length_map _
   have hiG:i < G.length:=by omega
   repeat' (first|refine z0 ?_|apply ds_nil|apply dw_seq2|refine z16 ?_|apply dw_block|apply dw_skip|apply dw_exit|apply thenD_n|apply thenD_e|apply inB_n|refine z17 ?_|refine z21 ?_ (hc:=by apply w1)|(refine z23 ?_ ?_ <;> intro hg)|fail)
   all_goals try (exfalso;omega)
   have hgd:G.getD i false=G[i]:=by rw [List.getD,List.getElem?_eq_getElem hiG];rfl
   refine ds_loop (ι:=Nat) (fun k=>⟨1,[(0,.d (.slice 5 (has.map encUpd))),(3,.row 0),(4,.d (.int .i64 (leftF G))),(5,.d (.bool cg)),(6,.d (.int .i64 i)),(7,.d (.slice 2 (ids.map encId))),(8,.d (.bool (!G[i] && (ids.take k).all (markOf has G)))),(9,.d (.int .i64 k))],[(0,.row 4 1 (G.map encBl))]⟩)
    (fun k=>k≤ids.length) (fun k=>ids.length - k) 0 (Nat.zero_le _) (ent_ren id ⟨rfl,rfl,rfl,rfl,rfl,rfl,by rw [List.take_zero,List.all_nil,Bool.and_true];rfl,rfl,trivial⟩ ⟨rfl,trivial⟩ rfl rfl rfl rfl rfl rfl) ?_
   clear w1
   intro k e1
   have stay:(!G[i] && ids.all (markOf has G))=false→((i + 1≤has.length)∧FreeOk has G∧(cg=false→G=F∧∀ (j:Nat) (hj:j < has.length),j < i + 1→F.getD j false=false→(underU (has[j]'hj)).all (markOf has F)=false)∧(cg=true→leftF G < leftF F)):=fun hc=>⟨hi,f2,fun h=>by
     obtain⟨h1,h2⟩:=f3 h
     refine⟨h1,fun j hj hlt hf=>?_⟩
     by_cases he:j=i
     ·subst he
      subst h1
      rw [hgd] at hf
      rw [hf,hids] at hc
      simpa using hc
     ·exact h2 j hj (by omega) hf,f4⟩
   cases hok:(!G[i] && (ids.take k).all (markOf has G)) with
   | true =>
    by_cases hk2:k < ids.length
    ·have w2:=placeOf_fn has ids[k] (by omega)
     have hst:(!G[i] && (ids.take (k + 1)).all (markOf has G))=markOf has G ids[k]:=by
      rw [List.take_succ_eq_append_getElem hk2,List.all_append,← Bool.and_assoc,hok]
      simp
     rcases markOf_idx has G ids[k] with ⟨m1,m2⟩|⟨n,hn,m1,m2⟩
     ·rw [m1] at w2
      rw [m2] at hst
      repeat' (first|refine z0 ?_|refine z12 ?_|apply ds_nil|(apply ds_stP;exact rfl;exact rfl;(apply hv_get;(omega));exact rfl;exact rfl;(exact hv_set rfl);exact rfl;exact rfl;exact rfl;exact rfl;exact rfl;exact rfl)|apply dw_seq2|refine z16 ?_|apply dw_block|apply dw_skip|apply dw_exit|refine z18 ?_|refine z19 ?_|apply thenD_n|apply thenD_e|apply inB_n|refine z17 ?_|refine z21 ?_ (hc:=by apply w2)|((fail_if_success (apply ds_known;exact rfl));apply ds_guardP;exact rfl;exact rfl;exact rfl;all_goals intro hg))
      all_goals try (exfalso;omega)
      exact⟨k + 1,hk2,ent_ren id ⟨rfl,rfl,rfl,rfl,rfl,rfl,by rw [hst];rfl,rfl,trivial⟩ ⟨rfl,trivial⟩ rfl rfl rfl rfl rfl rfl,by omega⟩
     ·have hnG:n < G.length:=by omega
      have hgn:G.getD n false=G[n]:=by rw [List.getD,List.getElem?_eq_getElem hnG];rfl
      rw [m1] at w2
      rw [m2,hgn] at hst
      repeat' (first|refine z0 ?_|refine z12 ?_|apply ds_nil|(apply ds_stP;exact rfl;exact rfl;(apply hv_get;(omega));exact rfl;exact rfl;(exact hv_set rfl);exact rfl;exact rfl;exact rfl;exact rfl;exact rfl;exact rfl)|apply dw_seq2|refine z16 ?_|apply dw_block|apply dw_skip|apply dw_exit|refine z18 ?_|refine z19 ?_|apply thenD_n|apply thenD_e|apply inB_n|refine z17 ?_|refine z21 ?_ (hc:=by apply w2)|((fail_if_success (apply ds_known;exact rfl));apply ds_guardP;exact rfl;exact rfl;exact rfl;all_goals intro hg))
      all_goals try (exfalso;omega)
      exact⟨k + 1,hk2,ent_ren id ⟨rfl,rfl,rfl,rfl,rfl,rfl,by rw [hst];rfl,rfl,trivial⟩ ⟨rfl,trivial⟩ rfl rfl rfl rfl rfl rfl,by omega⟩
    ·rw [List.take_of_length_le (by omega)] at hok
     have hok2:=hok
     rw [Bool.and_eq_true,Bool.not_eq_true'] at hok2
     have hls:=leftF_set hiG (hgd.trans hok2.1)
     have hcl:leftF G≤G.length:=List.countP_le_length
     repeat' (first|refine z0 ?_|refine z12 ?_|apply ds_nil|(apply ds_stP;exact rfl;exact rfl;(apply hv_get;(omega));exact rfl;exact rfl;(exact hv_set rfl);exact rfl;exact rfl;exact rfl;exact rfl;exact rfl;exact rfl)|apply dw_seq2|refine z16 ?_|apply dw_block|apply dw_skip|apply dw_exit|refine z18 ?_|refine z19 ?_|apply thenD_n|apply thenD_e|apply inB_n|refine z17 ?_|((fail_if_success (apply ds_known;exact rfl));apply ds_guardP;exact rfl;exact rfl;exact rfl;all_goals intro hg))
     all_goals try (exfalso;omega)
     refine⟨(i + 1,G.set i true,true),⟨hi,f2.set hi (by rw [← hids];exact hok2.2),fun h=>(by cases h),fun _=>?_⟩,ent_ren id ⟨rfl,rfl,?_,rfl,rfl,trivial⟩ ⟨by rw [List.map_set];rfl,trivial⟩ rfl rfl rfl rfl rfl rfl,by show has.length - (i + 1) < has.length - i;omega⟩
     ·dsimp only
      cases cg with
      | false=>obtain⟨h1,_⟩:=f3 rfl;subst h1;omega
      | true=>have:=f4 rfl;omega
     ·exact congrArg (fun z:Int=>SV.d (.int .i64 z)) (by dsimp only;omega)
   | false =>
    have hall:(!G[i] && ids.all (markOf has G))=false:=by
     cases hb:(!G[i] && ids.all (markOf has G)) with
     | false=>rfl
     | true =>
      rw [Bool.and_eq_true] at hb
      have:=List.all_eq_true.1 hb.2
      rw [hb.1,Bool.true_and] at hok
      have h9:(ids.take k).all (markOf has G)=true:=List.all_eq_true.2 fun x hx=>this x (List.mem_of_mem_take hx)
      rw [h9] at hok
      cases hok
    repeat' (first|refine z0 ?_|refine z12 ?_|apply ds_nil|apply dw_seq2|refine z16 ?_|apply dw_skip|apply dw_exit|refine z19 ?_|apply thenD_n|apply thenD_e|apply inB_n|refine z17 ?_|((fail_if_success (apply ds_known;exact rfl));apply ds_guardP;exact rfl;exact rfl;exact rfl;all_goals intro hg))
    all_goals try (exfalso;omega)
    all_goals exact⟨(i + 1,G,cg),stay hall,ent_ren id ⟨rfl,rfl,rfl,rfl,rfl,trivial⟩ ⟨rfl,trivial⟩ rfl rfl rfl rfl rfl rfl,by show has.length - (i + 1) < has.length - i;omega⟩
  ·repeat' (first|refine z0 ?_|apply ds_nil|apply dw_seq2|refine z16 ?_|apply dw_block|apply dw_skip|apply dw_exit|apply thenD_n|apply thenD_e|apply inB_n|refine z17 ?_|(refine z23 ?_ ?_ <;> intro hg)|fail)
   all_goals try (exfalso;omega)
   refine⟨(G,cg),⟨f2,fun h=>?_⟩,ent_ren id ⟨rfl,rfl,rfl,rfl,trivial⟩ ⟨rfl,trivial⟩ rfl rfl rfl rfl rfl rfl,?_⟩
   ·obtain⟨h1,h2⟩:=f3 h
    dsimp only at h1 ⊢
    subst h1
    exact fun j hj hf=>h2 j hj (by omega) hf
   ·dsimp only
    cases cg with
    | false=>obtain⟨h1,_⟩:=f3 rfl;subst h1;dsimp only;omega
    | true=>have:=f4 rfl;dsimp only;omega
theorem rises_adj {α:Type} {o:α→α→Int}:∀ {l:List α},rises o l=true↔∀ (i:Nat) (h:i + 1 < l.length),o (l[i]'(by omega)) l[i + 1] < 0
 | []=>⟨fun _ i h=>absurd h (Nat.not_lt_zero _),fun _=>rfl⟩
 | [x]=>⟨fun _ i h=>by simp at h,fun _=>rfl⟩
 | x::y::l=>by
  unfold rises
  rw [Bool.and_eq_true,decide_eq_true_eq,rises_adj]
  constructor
  ·rintro⟨h1,h2⟩ i h
   cases i with
   | zero=>exact h1
   | succ i=>exact h2 i (by simpa using h)
  ·intro h
   exact⟨h 0 (by simp),fun i hi=>h (i + 1) (by simpa using hi)⟩
theorem pairs_iff {α:Type} {o:α→α→Int} {a b:List α}:(rises o a=true∧rises o b=true)↔∀ (i:Nat) (h:i + 1 < (a++b).length),i + 1≠a.length→o ((a++b)[i]'(by omega)) (a++b)[i + 1] < 0:=by
 rw [rises_adj,rises_adj]
 constructor
 ·rintro⟨h1,h2⟩ i h hne
  by_cases hi:i + 1 < a.length
  ·rw [List.getElem_append_left (by omega),List.getElem_append_left hi]
   exact h1 i hi
  ·rw [List.length_append] at h
   rw [List.getElem_append_right (by omega),List.getElem_append_right (by omega)]
   have:=h2 (i - a.length) (by omega)
   simp only [show i + 1 - a.length=i - a.length + 1 by omega]
   exact this
 ·intro h
  refine⟨fun i hi=>?_,fun i hi=>?_⟩
  ·have:=h i (by rw [List.length_append];omega) (by omega)
   rw [List.getElem_append_left (by omega),List.getElem_append_left hi] at this
   exact this
  ·have:=h (i + a.length) (by rw [List.length_append];omega) (by omega)
   rw [List.getElem_append_right (by omega),List.getElem_append_right (by omega)] at this
   simp only [show i + a.length + 1 - a.length=i + 1 by omega,Nat.add_sub_cancel] at this
   exact this
theorem any_step {α:Type} {f:α→Bool} {l:List α} {i:Nat} (hi:i < l.length):(l.drop i).any f=(f l[i] || (l.drop (i + 1)).any f):=by rw [List.drop_eq_getElem_cons hi,List.any_cons]
set_option maxHeartbeats 8000000 in
theorem rcheckR_fn (r:Rpl) (hh:r.has.length≤4398046511104) (hw:r.waits.length≤4398046511104):Fn 27 [elRpl r] (fun res=>res = .d (.int .i64 (checkR r))):=by
 have lh:(r.has.map encUpd).length=r.has.length:=List.length_map _
 have lw:(r.waits.map encUpd).length=r.waits.length:=List.length_map _
 refine fnp_enter' _ Tryz.func27 rfl rfl (by kernel_rfl) ?_
 intro O w0 E0 β0
 by_cases h1:200 < r.has.length + r.waits.length
 ·have hc:checkR r=2:=if_pos h1
  rw [hc]
  repeat' (first|refine z0 ?_|apply ds_nil|refine z5 ?_|apply dw_seq2|refine z16 ?_|refine z20 ?_|apply dw_skip|apply dw_ret|apply thenD_n|apply thenD_r|refine z1 ?_|(refine z23 ?_ ?_ <;> intro hg)|fail)
  all_goals try (exfalso;omega)
  all_goals exact ret_i rfl rfl
 ·have hc:checkR r=if firstL checkU (r.has++r.waits)≠0 then firstL checkU (r.has++r.waits)
    else if rises (fun a b:Upd=>ordId a.id b.id) r.has=false∨rises (fun a b:Upd=>ordId a.id b.id) r.waits=false∨(r.waits.any fun u=>hasU r.has u.id)=true then 4
    else if (r.has.any fun u=>!readyU r.has u)=true then 5
    else if roundB r.has=true∨(r.waits.any fun u=>readyU r.has u)=true then 4
    else 0:=if_neg h1
  rw [hc]
  clear hc
  repeat' (first|(apply dt_bs0;exact rfl;exact rfl;exact rfl;exact rfl;exact rfl;exact rfl;exact rfl;exact rfl;exact rfl;exact rfl)|(first|refine z0 ?_|apply ds_nil|refine z5 ?_|refine z9 ?_|refine z11 ?_|apply dw_seq2|refine z16 ?_|refine z20 ?_|apply dw_block|apply dw_skip|apply thenD_n|refine z1 ?_|(refine z23 ?_ ?_ <;> intro hg)|fail))
  all_goals try (exfalso;omega)
  refine dw_ent (ent_seal 3 rfl rfl rfl) ?_
  refine dw_ent (ent_ren (k':=1) (L':=[(1,.loc 0 0),(2,.d (.int .i64 0)),(3,.d (.slice 5 ((r.has++r.waits).map encUpd))),(4,.d (.int .i64 0))]) (H':=[(0,rplB r)]) id ⟨rfl,rfl,by rw [List.map_append];rfl,rfl,trivial⟩ ⟨rfl,trivial⟩ rfl rfl rfl rfl rfl rfl) ?_
  obtain⟨all,hall⟩:∃ all,all=r.has++r.waits:=⟨_,rfl⟩
  have hal:all.length=r.has.length + r.waits.length:=by rw [hall,List.length_append]
  have la:(all.map encUpd).length=all.length:=List.length_map _
  have hpair:=pairs_iff (o:=fun a b:Upd=>ordId a.id b.id) (a:=r.has) (b:=r.waits)
  rw [← hall]
  simp only [← hall] at hpair
  repeat' fail
  refine ds_loop (ι:=Nat) (fun i=>⟨1,[(1,.loc 0 0),(2,.d (.int .i64 0)),(3,.d (.slice 5 (all.map encUpd))),(4,.d (.int .i64 i))],[(0,rplB r)]⟩)
   (fun i=>i≤all.length∧firstL checkU all=firstL checkU (all.drop i)) (fun i=>all.length - i) 0 ⟨Nat.zero_le _,rfl⟩ (ent_ren id ⟨rfl,rfl,rfl,rfl,trivial⟩ ⟨rfl,trivial⟩ rfl rfl rfl rfl rfl rfl) ?_
  rintro i ⟨g1,g2⟩
  dsimp only at g1 g2 ⊢
  by_cases hi:i < all.length
  ·rw [firstL_step hi] at g2
   have w2:=checkUpdate_fn all[i]
   by_cases h3:checkU all[i]≠0
   ·rw [if_pos h3] at g2
    rw [g2,if_pos h3]
    repeat' (first|refine z0 ?_|apply ds_nil|apply dw_seq2|refine z16 ?_|apply dw_block|apply dw_skip|apply dw_exit|apply dw_ret|apply thenD_n|apply thenD_e|apply thenD_r|apply inB_n|apply inB_r|refine z17 ?_|refine z21 ?_ (hc:=by apply w2)|(refine z23 ?_ ?_ <;> intro hg)|fail)
    all_goals try (exfalso;omega)
    all_goals exact ret_i rfl rfl
   ·rw [if_neg h3] at g2
    repeat' (first|refine z0 ?_|apply ds_nil|apply dw_seq2|refine z16 ?_|apply dw_block|apply dw_skip|apply dw_exit|apply dw_ret|apply thenD_n|apply thenD_e|apply thenD_r|apply inB_n|apply inB_r|refine z17 ?_|refine z21 ?_ (hc:=by apply w2)|(refine z23 ?_ ?_ <;> intro hg)|fail)
    all_goals try (exfalso;omega)
    exact⟨i + 1,⟨hi,g2⟩,ent_ren id ⟨rfl,rfl,rfl,rfl,trivial⟩ ⟨rfl,trivial⟩ rfl rfl rfl rfl rfl rfl,by omega⟩
  ·rw [firstL_end (by omega)] at g2
   rw [g2,if_neg (by simp)]
   have hok:=firstL_none g2
   have hsm:∀ u∈all,u.parents.length + u.takes.length≤1000000:=fun u hu=>by have:=checkU_small (hok u hu);omega
   clear g1 g2
   repeat' (first|refine z0 ?_|apply ds_nil|apply dw_seq2|refine z16 ?_|apply dw_block|apply dw_skip|apply dw_exit|apply thenD_n|apply thenD_e|refine z17 ?_|(refine z23 ?_ ?_ <;> intro hg)|fail)
   all_goals try (exfalso;omega)
   clear hi
   refine ds_loop (ι:=Nat) (fun i=>⟨1,[(1,.loc 0 0),(2,.d (.int .i64 0)),(3,.d (.slice 5 (all.map encUpd))),(6,.d (.int .i64 ((i:Int) + 1)))],[(0,rplB r)]⟩)
    (fun i=>i≤all.length∧∀ (j:Nat) (h:j + 1 < all.length),j < i→j + 1≠r.has.length→ordId (all[j]'(by omega)).id all[j + 1].id < 0) (fun i=>all.length - i) 0 ⟨Nat.zero_le _,fun j _ h=>absurd h (Nat.not_lt_zero j)⟩ (ent_ren id ⟨rfl,rfl,rfl,rfl,trivial⟩ ⟨rfl,trivial⟩ rfl rfl rfl rfl rfl rfl) ?_
   rintro i ⟨g1,g2⟩
   dsimp only at g1 g2 ⊢
   by_cases hi:i + 1 < all.length
   ·have step:(i + 1≠r.has.length→ordId (all[i]'(by omega)).id all[i + 1].id < 0)→(i + 1≤all.length∧∀ (j:Nat) (h:j + 1 < all.length),j < i + 1→j + 1≠r.has.length→ordId (all[j]'(by omega)).id all[j + 1].id < 0):=fun h=>⟨by omega,fun j hj hlt hne=>by
     by_cases he:j=i
     ·subst he;exact h hne
     ·exact g2 j hj (by omega) hne⟩
    by_cases hm:i + 1=r.has.length
    ·repeat' (first|refine z0 ?_|apply ds_nil|refine z5 ?_|refine z14 ?_|refine z10 ?_|apply dw_seq2|refine z16 ?_|refine z20 ?_|apply dw_block|apply dw_skip|apply dw_exit|refine z19 ?_|apply thenD_n|apply thenD_e|apply inB_n|refine z17 ?_|(refine z23 ?_ ?_ <;> intro hg)|((fail_if_success (apply dt_known;exact rfl));apply dt_guardP;exact rfl;exact rfl;exact rfl;all_goals intro hg))
     all_goals try (exfalso;omega)
     exact⟨i + 1,step fun h=>absurd hm h,ent_ren id ⟨rfl,rfl,rfl,rfl,trivial⟩ ⟨rfl,trivial⟩ rfl rfl rfl rfl rfl rfl,by omega⟩
    ·have w2:=idOrder_fn (all[i]'(by omega)).id all[i + 1].id
     by_cases ho:ordId (all[i]'(by omega)).id all[i + 1].id < 0
     ·repeat' (first|refine z0 ?_|apply ds_nil|refine z5 ?_|refine z14 ?_|refine z10 ?_|apply dw_seq2|refine z16 ?_|refine z20 ?_|apply dw_block|apply dw_skip|apply dw_exit|refine z19 ?_|apply thenD_n|apply thenD_e|apply inB_n|refine z17 ?_|refine z22 ?_ (hc:=by apply w2)|(refine z23 ?_ ?_ <;> intro hg)|((fail_if_success (apply dt_known;exact rfl));apply dt_guardP;exact rfl;exact rfl;exact rfl;all_goals intro hg))
      all_goals try (exfalso;omega)
      exact⟨i + 1,step fun _=>ho,ent_ren id ⟨rfl,rfl,rfl,rfl,trivial⟩ ⟨rfl,trivial⟩ rfl rfl rfl rfl rfl rfl,by omega⟩
     ·have hb:¬ (rises (fun a b:Upd=>ordId a.id b.id) r.has=true∧rises (fun a b:Upd=>ordId a.id b.id) r.waits=true):=fun h=>ho (hpair.1 h i hi hm)
      rw [if_pos (by
       cases h1:rises (fun a b:Upd=>ordId a.id b.id) r.has with
       | false=>exact .inl rfl
       | true =>
        cases h2:rises (fun a b:Upd=>ordId a.id b.id) r.waits with
        | false=>exact .inr (.inl rfl)
        | true=>exact absurd ⟨h1,h2⟩ hb)]
      repeat' (first|refine z0 ?_|apply ds_nil|refine z5 ?_|refine z14 ?_|refine z10 ?_|apply dw_seq2|refine z16 ?_|refine z20 ?_|apply dw_block|apply dw_skip|apply dw_exit|apply dw_ret|refine z19 ?_|apply thenD_n|apply thenD_e|apply thenD_r|apply inB_n|apply inB_r|refine z17 ?_|refine z22 ?_ (hc:=by apply w2)|(refine z23 ?_ ?_ <;> intro hg)|((fail_if_success (apply dt_known;exact rfl));apply dt_guardP;exact rfl;exact rfl;exact rfl;all_goals intro hg))
      all_goals try (exfalso;omega)
      exact ret_i rfl rfl
   ·obtain⟨hr1,hr2⟩:=hpair.2 fun j hj hne=>g2 j hj (by omega) hne
    have hs:=rises_str hr1
    clear g2 hpair
    rw [hr1,hr2]
    repeat' (first|refine z0 ?_|apply ds_nil|refine z5 ?_|refine z14 ?_|refine z10 ?_|apply dw_seq2|refine z16 ?_|refine z20 ?_|apply dw_block|apply dw_skip|apply dw_exit|refine z19 ?_|apply thenD_n|apply thenD_e|apply inB_n|refine z17 ?_|(refine z23 ?_ ?_ <;> intro hg)|((fail_if_success (apply dt_known;exact rfl));apply dt_guardP;exact rfl;exact rfl;exact rfl;all_goals intro hg))
    all_goals try (exfalso;omega)
    clear hi g1
    refine ds_loop (ι:=Nat) (fun i=>⟨1,[(1,.loc 0 0),(2,.d (.int .i64 0)),(7,.d (.int .i64 i))],[(0,rplB r)]⟩)
     (fun i=>i≤r.waits.length∧(r.waits.any fun u=>hasU r.has u.id)=(r.waits.drop i).any fun u=>hasU r.has u.id) (fun i=>r.waits.length - i) 0 ⟨Nat.zero_le _,rfl⟩ (ent_ren id ⟨rfl,rfl,rfl,trivial⟩ ⟨rfl,trivial⟩ rfl rfl rfl rfl rfl rfl) ?_
    rintro i ⟨g1,g2⟩
    dsimp only at g1 g2 ⊢
    by_cases hi:i < r.waits.length
    ·rw [any_step hi] at g2
     have w2:=placeOf_fn r.has (r.waits[i]'hi).id (by omega)
     have hd:=hasU_idx r.has (r.waits[i]'hi).id
     cases hb:hasU r.has (r.waits[i]'hi).id with
     | true =>
      rw [hb] at g2 hd
      have hd:=of_decide_eq_false hd
      rw [if_pos (.inr (.inr (by rw [g2];rfl)))]
      repeat' (first|refine z0 ?_|apply ds_nil|refine z5 ?_|refine z10 ?_|apply dw_seq2|refine z16 ?_|refine z20 ?_|apply dw_block|apply dw_skip|apply dw_exit|apply dw_ret|apply thenD_n|apply thenD_e|apply thenD_r|apply inB_n|apply inB_r|refine z17 ?_|refine z22 ?_ (hc:=by apply w2)|(refine z23 ?_ ?_ <;> intro hg)|fail)
      all_goals try (exfalso;omega)
      exact ret_i rfl rfl
     | false =>
      rw [hb,Bool.false_or] at g2
      rw [hb] at hd
      have hd:=of_decide_eq_true hd
      repeat' (first|refine z0 ?_|apply ds_nil|refine z5 ?_|refine z10 ?_|apply dw_seq2|refine z16 ?_|refine z20 ?_|apply dw_block|apply dw_skip|apply dw_exit|apply thenD_n|apply thenD_e|apply inB_n|refine z17 ?_|refine z22 ?_ (hc:=by apply w2)|(refine z23 ?_ ?_ <;> intro hg)|fail)
      all_goals try (exfalso;omega)
      exact⟨i + 1,⟨hi,g2⟩,ent_ren id ⟨rfl,rfl,rfl,trivial⟩ ⟨rfl,trivial⟩ rfl rfl rfl rfl rfl rfl,by omega⟩
    ·rw [List.drop_of_length_le (by omega)] at g2
     rw [g2,if_neg (by simp)]
     repeat' (first|refine z0 ?_|apply ds_nil|refine z5 ?_|apply dw_seq2|refine z16 ?_|refine z20 ?_|apply dw_block|apply dw_skip|apply dw_exit|apply thenD_n|apply thenD_e|refine z17 ?_|(refine z23 ?_ ?_ <;> intro hg)|fail)
     all_goals try (exfalso;omega)
     clear hi g1 g2
     refine ds_loop (ι:=Nat) (fun i=>⟨1,[(1,.loc 0 0),(2,.d (.int .i64 0)),(8,.d (.int .i64 i))],[(0,rplB r)]⟩)
      (fun i=>i≤r.has.length∧(r.has.any fun u=>!readyU r.has u)=(r.has.drop i).any fun u=>!readyU r.has u) (fun i=>r.has.length - i) 0 ⟨Nat.zero_le _,rfl⟩ (ent_ren id ⟨rfl,rfl,rfl,trivial⟩ ⟨rfl,trivial⟩ rfl rfl rfl rfl rfl rfl) ?_
     rintro i ⟨g1,g2⟩
     dsimp only at g1 g2 ⊢
     by_cases hi:i < r.has.length
     ·rw [any_step hi] at g2
      have w2:=isReadyU_fn r.has (r.has[i]'hi) (by omega) (hsm _ (by rw [hall];exact List.mem_append_left _ (List.getElem_mem hi)))
      cases hb:readyU r.has (r.has[i]'hi) with
      | false =>
       rw [hb] at g2 w2
       rw [if_pos (by rw [g2];rfl)]
       repeat' (first|refine z0 ?_|apply ds_nil|refine z5 ?_|refine z10 ?_|apply dw_seq2|refine z16 ?_|refine z20 ?_|apply dw_block|apply dw_skip|apply dw_exit|apply dw_ret|refine z18 ?_|apply thenD_n|apply thenD_e|apply thenD_r|apply inB_r|refine z17 ?_|refine z22 ?_ (hc:=by apply w2)|(refine z23 ?_ ?_ <;> intro hg)|fail)
       all_goals try (exfalso;omega)
       exact ret_i rfl rfl
      | true =>
       rw [hb,Bool.not_true,Bool.false_or] at g2
       rw [hb] at w2
       repeat' (first|refine z0 ?_|apply ds_nil|refine z5 ?_|refine z10 ?_|apply dw_seq2|refine z16 ?_|refine z20 ?_|apply dw_block|apply dw_skip|apply dw_exit|refine z19 ?_|apply thenD_n|apply thenD_e|apply inB_n|refine z17 ?_|refine z22 ?_ (hc:=by apply w2)|(refine z23 ?_ ?_ <;> intro hg)|fail)
       all_goals try (exfalso;omega)
       exact⟨i + 1,⟨hi,g2⟩,ent_ren id ⟨rfl,rfl,rfl,trivial⟩ ⟨rfl,trivial⟩ rfl rfl rfl rfl rfl rfl,by omega⟩
     ·rw [List.drop_of_length_le (by omega)] at g2
      rw [g2,if_neg (by simp)]
      have hready:∀ u∈r.has,readyU r.has u=true:=fun u hu=>by
       have:=List.any_eq_false.1 g2 u hu
       simpa using this
      clear g1 g2
      have w5:=isRound_fn r.has (by omega) hs (fun u hu=>hsm u (by rw [hall];exact List.mem_append_left _ hu))
      have hrb:=roundB_iff hs hready
      have w5:Fn 75 [.d (.slice 5 (r.has.map encUpd))] (fun x=>x = .d (.bool (roundB r.has))):=FnP.imp w5 (by
       rintro x ⟨b,rfl,hb⟩
       rw [Bool.eq_iff_iff.2 (hb.trans hrb.symm)])
      cases hr5:roundB r.has with
      | true =>
       rw [hr5] at w5
       rw [if_pos (.inl rfl)]
       repeat' (first|refine z0 ?_|apply ds_nil|refine z5 ?_|apply dw_seq2|refine z16 ?_|refine z20 ?_|apply dw_block|apply dw_skip|apply dw_exit|apply dw_ret|refine z18 ?_|apply thenD_n|apply thenD_e|apply thenD_r|refine z17 ?_|refine z21 ?_ (hc:=by apply w5)|(refine z23 ?_ ?_ <;> intro hg)|fail)
       all_goals try (exfalso;omega)
       exact ret_i rfl rfl
      | false =>
       rw [hr5] at w5
       repeat' (first|refine z0 ?_|apply ds_nil|refine z5 ?_|apply dw_seq2|refine z16 ?_|refine z20 ?_|apply dw_block|apply dw_skip|apply dw_exit|refine z19 ?_|apply thenD_n|apply thenD_e|refine z17 ?_|refine z21 ?_ (hc:=by apply w5)|(refine z23 ?_ ?_ <;> intro hg)|fail)
       all_goals try (exfalso;omega)
       refine ds_loop (ι:=Nat) (fun i=>⟨1,[(1,.loc 0 0),(2,.d (.int .i64 0)),(9,.d (.int .i64 i))],[(0,rplB r)]⟩)
        (fun i=>i≤r.waits.length∧(r.waits.any fun u=>readyU r.has u)=(r.waits.drop i).any fun u=>readyU r.has u) (fun i=>r.waits.length - i) 0 ⟨Nat.zero_le _,rfl⟩ (ent_ren id ⟨rfl,rfl,rfl,trivial⟩ ⟨rfl,trivial⟩ rfl rfl rfl rfl rfl rfl) ?_
       rintro i ⟨g1,g2⟩
       dsimp only at g1 g2 ⊢
       by_cases hi:i < r.waits.length
       ·rw [any_step hi] at g2
        have w2:=isReadyU_fn r.has (r.waits[i]'hi) (by omega) (hsm _ (by rw [hall];exact List.mem_append_right _ (List.getElem_mem hi)))
        cases hb:readyU r.has (r.waits[i]'hi) with
        | true =>
         rw [hb] at g2 w2
         rw [if_pos (.inr (by rw [g2];rfl))]
         repeat' (first|refine z0 ?_|apply ds_nil|refine z5 ?_|refine z10 ?_|apply dw_seq2|refine z16 ?_|refine z20 ?_|apply dw_block|apply dw_skip|apply dw_exit|apply dw_ret|refine z18 ?_|apply thenD_n|apply thenD_e|apply thenD_r|apply inB_r|refine z17 ?_|refine z22 ?_ (hc:=by apply w2)|(refine z23 ?_ ?_ <;> intro hg)|fail)
         all_goals try (exfalso;omega)
         exact ret_i rfl rfl
        | false =>
         rw [hb,Bool.false_or] at g2
         rw [hb] at w2
         repeat' (first|refine z0 ?_|apply ds_nil|refine z5 ?_|refine z10 ?_|apply dw_seq2|refine z16 ?_|refine z20 ?_|apply dw_block|apply dw_skip|apply dw_exit|refine z19 ?_|apply thenD_n|apply thenD_e|apply inB_n|refine z17 ?_|refine z22 ?_ (hc:=by apply w2)|(refine z23 ?_ ?_ <;> intro hg)|fail)
         all_goals try (exfalso;omega)
         exact⟨i + 1,⟨hi,g2⟩,ent_ren id ⟨rfl,rfl,rfl,trivial⟩ ⟨rfl,trivial⟩ rfl rfl rfl rfl rfl rfl,by omega⟩
       ·rw [List.drop_of_length_le (by omega)] at g2
        rw [g2,if_neg (by simp)]
        repeat' (first|refine z0 ?_|apply ds_nil|refine z5 ?_|apply dw_seq2|refine z16 ?_|refine z20 ?_|apply dw_block|apply dw_skip|apply dw_exit|apply dw_ret|apply thenD_n|apply thenD_e|refine z17 ?_|(refine z23 ?_ ?_ <;> intro hg)|fail)
        all_goals try (exfalso;omega)
        exact ret_i rfl rfl
theorem eraseIdx_at {α:Type} (a b:List α) (x:α):(a++x::b).eraseIdx a.length=a++b:=by
 rw [List.eraseIdx_append_of_length_le (Nat.le_refl _),Nat.sub_self,List.eraseIdx_cons_zero]
theorem RplGo.moveAt {A:List Upd} {h a b:List Upd} {x:Upd} (hg:RplGo A ⟨h,a++x::b⟩) (hr:readyU h x=true):RplGo A ⟨insU h x,a++b⟩:=by
 have hm:=hg.move (u:=x) (by simp) hr
 have hi:a.length < (a++x::b).length:=by rw [List.length_append,List.length_cons];omega
 have he:(a++x::b)[a.length]=x:=by rw [List.getElem_append_right (Nat.le_refl _)];simp
 have:=erase_filter hg.sw hi
 dsimp only at hm this
 rw [he] at this
 rw [← this,eraseIdx_at] at hm
 exact hm
end Go.Proofs.YtapciiffpnociabGreat
