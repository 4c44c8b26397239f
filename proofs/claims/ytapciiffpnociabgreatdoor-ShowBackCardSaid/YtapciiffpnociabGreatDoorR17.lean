/- Several texts in one: GxArg ShwH ShwM ShbG ShbH GxRow GxLaw TokIn TreIn GxTie. Condition: none. -/
import Derived.Test.YtapciiffpnociabGreatDoorR02
import Derived.Test.YtapciiffpnociabGreatDoorR14
import Derived.Test.YtapciiffpnociabGreatDoorR15
import Derived.Test.YtapciiffpnociabGreatDoorR16
import Derived.Test.YtapciiffpnociabGreatDoorR10
import Derived.Test.YtapciiffpnociabGreatDoorR08
import Derived.ProofKit
import Derived.SizedLaws
import Derived.Carry
import Derived.ChangeSame
import Derived.JoinedCond
import Derived.Deep.DeepWitnessRowRef
import Derived.LaidMore
import Derived.MakeChecks
import Derived.Lib.LaidTab
import Derived.Lib.ItoaNum
namespace Go.Proofs.YtapciiffpnociabGreatDoor
open Go Go.RowKit
theorem FnP.args {dr:Bool} {P:Program} {τ:List (Nat × TI)} {τok:TabOk P τ} {f:FuncId} {args args':List SV} {R:SV→Prop} (hc:FnP dr P τ τok f args R) (h:∀ X e w vs,RelL X e w args' vs→RelL X e w args vs):FnP dr P τ τok f args' R :=
 ⟨hc.1,fun O e w vs hH hr=>hc.2 O e w vs hH (h _ _ _ _ hr)⟩
theorem nil_rel {X e w} {es:Nat} {v:Value} (h:Rel X e w .nils v):Rel X e w (.d (.slice es [])) v:=by
 rw [show v = .slice none 0 0 from h]
 exact .nil
theorem itoa_one:itoaB 1=⟨#[49]⟩:=by
 unfold itoaB Lib.itoa
 rw [if_neg (by decide),show (1:Int).toNat=1 from rfl]
 unfold Lib.decDigits
 rw [dif_pos (by decide)]
 rfl
theorem itoa_two:itoaB 2=⟨#[50]⟩:=by
 unfold itoaB Lib.itoa
 rw [if_neg (by decide),show (2:Int).toNat=2 from rfl]
 unfold Lib.decDigits
 rw [dif_pos (by decide)]
 rfl
theorem small_show:showS smallRs=smallS:=by
 have h1:showTm ⟨⟨#[]⟩,1⟩=⟨#[49]⟩:=by unfold showTm;rw [if_pos rfl];exact itoa_one
 have h2:showTm ⟨⟨#[]⟩,2⟩=⟨#[50]⟩:=by unfold showTm;rw [if_pos rfl];exact itoa_two
 unfold smallRs
 simp only [showS,showRu,atomS,List.map_cons,List.map_nil,h1,h2]
 rfl
theorem small_ok:∀ r∈smallRs,RuShow r:=by
 have nv:∀ s:ByteArray,s.size≤4294967296→nOk ⟨s,0⟩:=fun s h=>⟨by show (-9999999:Int)≤0;decide,by show (0:Int)≤9999999;decide,h⟩
 have lo:∀ x∈([⟨1,26,0,⟨#[113]⟩,[⟨⟨#[88]⟩,0⟩,⟨⟨#[89]⟩,0⟩]⟩,⟨2,35,0,⟨#[114]⟩,[⟨⟨#[89]⟩,0⟩]⟩,⟨3,45,1,⟨#[]⟩,[⟨⟨#[88]⟩,0⟩,⟨⟨#[89]⟩,0⟩]⟩]:List TLt),LtOk x:=by
  intro x hx
  simp only [List.mem_cons,List.not_mem_nil,or_false] at hx
  rcases hx with rfl|rfl|rfl
  ·exact⟨fun t ht=>by simp only [List.mem_cons,List.not_mem_nil,or_false] at ht;rcases ht with rfl|rfl <;> exact nv _ (by decide),by decide,by decide,⟨by decide,by decide⟩,fun h=>absurd rfl h,fun h=>absurd rfl h⟩
  ·exact⟨fun t ht=>by simp only [List.mem_cons,List.not_mem_nil,or_false] at ht;rcases ht with rfl;exact nv _ (by decide),by decide,by decide,⟨by decide,by decide⟩,fun _ h=>absurd rfl h,fun _ h=>absurd rfl h⟩
  ·exact⟨fun t ht=>by simp only [List.mem_cons,List.not_mem_nil,or_false] at ht;rcases ht with rfl|rfl <;> exact nv _ (by decide),by decide,by decide,⟨by decide,by decide⟩,fun _ _=>by decide,fun _ _ h=>absurd rfl h⟩
 intro r hr
 unfold smallRs at hr
 simp only [List.mem_cons,List.not_mem_nil,or_false] at hr
 rcases hr with rfl|rfl
 ·exact⟨by decide,fun t ht=>by simp only [List.mem_cons,List.not_mem_nil,or_false] at ht;rcases ht with rfl|rfl <;> exact⟨by decide,by decide,by decide⟩,by decide,.inl rfl,fun x hx=>(by cases hx),by decide⟩
 ·exact⟨by decide,fun t ht=>by simp only [List.mem_cons,List.not_mem_nil,or_false] at ht;rcases ht with rfl|rfl <;> exact nv _ (by decide),by decide,.inr ⟨by decide,by decide,by decide⟩,lo,by decide⟩
theorem agg1_rel {X e w} {q:Nat} {v:Value} (h:Rel X e w (.agg [.nils]) v):Rel X e w (.agg [.d (.slice q [])]) v:=by
 obtain⟨us,hv,hr⟩:=h
 match us,hr with
 | [x],⟨h1,_⟩=>exact⟨[x],hv,nil_rel h1,trivial⟩
 | [],h=>exact h.elim
 | _::_::_,⟨_,h⟩=>exact h.elim
attribute [local irreducible] DW DS DL DQ Ev FnOk FnP thenD inBlockD DT
set_option maxHeartbeats 8000000 in
theorem showBegun_fn:Fn 11 [] (fun r=>r = .d (.bool true)):=by
 refine fnp_enter' _ Tryz.func11 rfl rfl (by kernel_rfl) ?_
 intro O w0 E0 β0
 have h1:=parseOf_fn smallS
 rw [small_parse] at h1
 have h2:=sshow_fn smallRs (by decide) small_check (by decide) small_ok
 rw [small_show] at h2
 have h3:=ssame_fn smallRs smallRs
 rw [show sameL (sameTRu false) smallRs smallRs=true by kernel_rfl] at h3
 have h4:=ssame_fn smallRs []
 rw [show sameL (sameTRu false) smallRs []=false by kernel_rfl] at h4
 have h4:Fn 20 [.agg [.d (.slice 5 (smallRs.map encTRu))],.agg [.nils]] _:=FnP.args h4 fun _ _ _ vs h=>match vs,h with
  | _::_::_,⟨g1,g2,g3⟩=>⟨g1,agg1_rel g2,g3⟩
  | [_],⟨_,h⟩=>h.elim
  | [],h=>h.elim
 unfold encParse at h1
 dsimp only at h1
 unfold smallS at h1 h2
 generalize smallRs=rs at *
 repeat' (first|refine z0 ?_|apply ds_nil|apply dw_seq2|refine z16 ?_|apply dw_ret|apply thenD_n|refine z21 ?_ (hc:=by apply h1)|refine z21 ?_ (hc:=by apply h2)|refine z21 ?_ (hc:=by apply h3)|refine z21 ?_ (hc:=by apply h4)|refine z1 ?_|refine z3 ?_|fail)
 all_goals first|exact ret_b rfl rfl|exact ret_b rfl (by decide)
theorem oneS_size {k:Int} {s:ByteArray} (h:oneS k s=true):s.size≤5000:=by
 rw [oneS_eq,isTok_eq] at h
 exact h.2.1
theorem nameS_size {s:ByteArray} (h:nameS s=true):s.size≤5000:=by
 unfold nameS at h
 rw [Bool.and_eq_true] at h
 exact oneS_size h.1
theorem check_show {rs:List TRu} (h:checkT rs=0) :
  rs.length≤12∧(∀ r∈rs,RuShow r)∧∀ r∈rs,∀ x∈r.body,kOk x:=by
 unfold checkT at h
 split at h
 ·cases h
 rename_i hm
 split at h
 rotate_left
 ·cases h
 rename_i ha
 have hl:rs.length≤12:=by omega
 have hmu:∀ r∈rs,muchT r=false:=by
  intro r hr
  cases hx:muchT r with
  | false=>rfl
  | true=>exact absurd (.inr (List.any_eq_true.2 ⟨r,hr,hx⟩)) hm
 have tm:∀ t:TTm,tmOk t=true→nOk t:=by
  intro t ht
  unfold tmOk at ht
  split at ht
  ·rename_i hv
   simp only [Bool.and_eq_true,decide_eq_true_eq] at ht
   exact⟨ht.1,ht.2,by rw [hv];decide⟩
  ·simp only [Bool.and_eq_true,decide_eq_true_eq] at ht
   have hs:=oneS_size ht.1
   exact⟨by omega,by omega,by omega⟩
 have tl:∀ x:TLt,tlOk x=true→x.terms.length≤3→LtOk x∧kOk x:=by
  intro x hx hlen
  unfold tlOk at hx
  rw [Bool.and_eq_true] at hx
  obtain⟨h1,h2⟩:=hx
  have ht:∀ t∈x.terms,nOk t:=fun t ht=>tm t (List.all_eq_true.1 h1 t ht)
  split at h2
  ·rename_i hk
   simp only [Bool.and_eq_true,decide_eq_true_eq] at h2
   have hn:=nameS_size h2.2
   exact⟨⟨ht,hlen,by omega,by omega,fun a b=>by omega,fun a b=>by omega⟩,by omega⟩
  split at h2
  ·rename_i hk
   simp only [Bool.and_eq_true,decide_eq_true_eq] at h2
   exact⟨⟨ht,hlen,by rw [h2.1.2];decide,by omega,fun a b=>by omega,fun a b c=>by omega⟩,by omega⟩
  split at h2
  ·rename_i hk
   simp only [Bool.and_eq_true,decide_eq_true_eq] at h2
   exact⟨⟨ht,hlen,by rw [h2.1.2];decide,by omega,fun a b=>by omega,fun a b c=>by omega⟩,by omega⟩
  ·cases h2
 have hr:∀ r∈rs,RuShow r∧∀ x∈r.body,kOk x:=by
  intro r hr
  have h1:=List.all_eq_true.1 ha r hr
  have h2:=hmu r hr
  unfold muchT at h2
  simp only [Bool.or_eq_false_iff,decide_eq_false_iff_not] at h2
  obtain⟨⟨m1,m2⟩,m3⟩:=h2
  unfold truOk at h1
  simp only [Bool.and_eq_true,Bool.or_eq_true,decide_eq_true_eq] at h1
  obtain⟨⟨⟨⟨t1,t2⟩,t3⟩,t4⟩,t5⟩:=h1
  have b1:=nameS_size t1
  have hbody:∀ x∈r.body,LtOk x∧kOk x:=by
   intro x hx
   have h3:x.terms.length≤3:=by
    by_cases h:3 < x.terms.length
    ·rw [List.any_eq_true.2 ⟨x,hx,by simpa using h⟩] at m3
     cases m3
    ·omega
   exact tl x (List.all_eq_true.1 t5 x hx) h3
  refine⟨⟨by omega,fun t ht=>tm t (List.all_eq_true.1 t2 t ht),by omega,?_,fun x hx=>(hbody x hx).1,by omega⟩,fun x hx=>(hbody x hx).2⟩
  rcases t4 with t4|⟨t4,_⟩
  ·exact .inl t4
  ·by_cases hf:r.fold=0
   ·exact .inl hf
   ·exact .inr ⟨by omega,by omega,List.length_pos_iff.2 t4⟩
 exact⟨hl,fun r h=>(hr r h).1,fun r h=>(hr r h).2⟩
set_option maxHeartbeats 8000000 in
theorem sshow_err (rs:List TRu) (hc:checkT rs≠0):Fn 8 [.agg [.d (.slice 5 (rs.map encTRu))]] (fun r=>r = .tup [.d (.str ⟨#[]⟩),.d (.int .i64 (checkT rs))]):=by
 refine fnp_enter' _ Tryz.func8 rfl rfl (by kernel_rfl) ?_
 intro O w0 E0 β0
 have w1:=tcheck_fn rs
 generalize checkT rs=e at *
 repeat' (first|refine z0 ?_|apply ds_nil|apply dw_seq2|refine z16 ?_|apply dw_block|apply dw_skip|apply dw_ret|apply thenD_n|apply thenD_r|refine z21 ?_ (hc:=by apply w1)|refine z1 ?_|(refine z23 ?_ ?_ <;> intro hg)|fail)
 all_goals try (exfalso;exact hg hc)
 exact⟨.inl rfl,_,rfl,rfl,rfl⟩
set_option maxHeartbeats 8000000 in
theorem bstr_none:FnOk false Tryz.prog tab tab_ok 25 [.loc 0 0] 0 1 [(0,.blk 58 [.val (.pointer none),.nils])] (fun _ r H=>H=[]∧r = .d (.str ⟨#[]⟩)):=by
 refine fn_enterR _ Tryz.func25 rfl rfl (by kernel_rfl) ?_
 intro O w0 E0 β0
 repeat' ((fail_if_success (apply dw_stopS 1));(first|refine z0 ?_|apply ds_nil|apply dw_seq2|refine z16 ?_|apply thenD_n))
 refine dw_seq2 ?_
 refine dw_tail 10 (by kernel_rfl) (by kernel_rfl) (by kernel_rfl) rfl rfl rfl ?_
 repeat' refine z5 ?_
 refine dt_sliceNil 0 rfl rfl rfl rfl ?_
 repeat' (first|refine z5 ?_|refine z10 ?_|fail)
 refine ds_ev (ev_unsafeStringNil rfl rfl) rfl rfl ?_
 repeat' (first|refine z0 ?_|apply ds_nil|apply dw_ret|apply thenD_n)
 exact⟨.inl rfl,_,rfl,id,0,_,[],rfl,trivial,rfl,rfl,rfl,rfl,rfl,rfl,rfl,rfl⟩
set_option maxHeartbeats 8000000 in
theorem sshow_nil:Fn 8 [.agg [.d (.slice 5 (([]:List TRu).map encTRu))]] (fun r=>r = .tup [.d (.str (showS [])),.d (.int .i64 0)]):=by
 refine fnp_enter' _ Tryz.func8 rfl rfl (by kernel_rfl) ?_
 intro O w0 E0 β0
 have w1:=tcheck_fn []
 rw [show checkT []=0 from rfl] at w1
 repeat' (first|refine z0 ?_|apply ds_nil|apply dw_seq2|refine z16 ?_|apply dw_block|apply dw_skip|refine z19 ?_|apply thenD_n|refine z21 ?_ (hc:=by apply w1)|refine z1 ?_|fail)
 refine ds_loop (ι:=Unit) (fun _=>⟨2,[(5,.loc 1 0),(17,.d (.int .i64 0)),(18,.d (.int .i64 0))],[(1,.blk 58 [.val (.pointer none),.nils])]⟩)
  (fun _=>True) (fun _=>0) () trivial (ent_ren id ⟨rfl,rfl,rfl,trivial⟩ ⟨rfl,trivial⟩ rfl rfl rfl rfl rfl rfl) ?_
 intro _ _
 dsimp only
 repeat' (first|refine z0 ?_|apply ds_nil|apply dw_seq2|refine z16 ?_|apply dw_exit|refine z19 ?_|apply thenD_n|apply thenD_e|refine z17 ?_|fail)
 all_goals try (exfalso;omega)
 refine ds_callF (fun j=>match j with|0=>1|j=>j) bstr_none rfl rfl rfl rfl ⟨rfl,trivial⟩ rfl rfl rfl rfl rfl rfl ?_ ?_
 ·rintro k2 res H2 ⟨rfl,rfl⟩;exact⟨rfl,rfl⟩
 rintro k2 res H2 ⟨rfl,rfl⟩
 change DS _ _ _ _ _ _ _ _
 repeat' (first|refine z0 ?_|apply ds_nil|apply dw_ret|apply thenD_n)
 all_goals exact⟨.inl rfl,_,rfl,rfl,rfl⟩
theorem ok_tm {t:TTm} {l:List Pc} (ht:tmOk t=true) (hs:stp (textP l)) (hl:pcOk l):pcOk (tmP t++l):=by
 unfold tmOk at ht
 unfold tmP tmK
 by_cases hv:t.var=⟨#[]⟩
 ·rw [if_pos hv] at ht ⊢
  simp only [Bool.and_eq_true,decide_eq_true_eq] at ht
  by_cases hn:t.n < 0
  ·rw [if_pos hn]
   exact ok_mi (ok_tok (itoa_ok (by omega) (by omega)) hs hl)
  ·rw [if_neg hn]
   exact ok_tok (itoa_ok (by omega) (by omega)) hs hl
 ·rw [if_neg hv] at ht ⊢
  simp only [Bool.and_eq_true,decide_eq_true_eq] at ht
  exact ok_tok (t:=tz 2 t.var) ht.1 hs hl
theorem ok_rp {l:List Pc} (hs:stp (textP l)) (hl:pcOk l):pcOk (rpP::l):=ok_tok (by kernel_rfl) hs hl
theorem ok_co {l:List Pc} (hl:pcOk l):pcOk (coP::.sp 32::l):=ok_tok (by kernel_rfl) ⟨32,_,rfl,by decide⟩ (ok_sp hl)
theorem ok_do {l:List Pc} (hl:pcOk l):pcOk (doP::.sp 10::l):=ok_tok (by kernel_rfl) ⟨10,_,rfl,by decide⟩ ⟨.inr rfl,hl⟩
theorem ok_word {f:Int} (h1:1≤f) (h4:f≤4) {l:List Pc} (hl:pcOk l):pcOk (.tok (tz 1 (wordZ f))::.sp 32::l):=by
 refine ok_tok ?_ ⟨32,_,rfl,by decide⟩ (ok_sp hl)
 rcases word_of h1 h4 with rfl|rfl|rfl|rfl <;> kernel_rfl
theorem ok_op {n:Int} (h1:1≤n) (h7:n≤7) {l:List Pc} (hl:pcOk l):pcOk (.sp 32::.tok (tz 4 (opZ n))::.sp 32::l):=by
 have ho:tokOk (tz 4 (opZ n))=true:=by
  have:n=1∨n=2∨n=3∨n=4∨n=5∨n=6∨n=7:=by omega
  rcases this with rfl|rfl|rfl|rfl|rfl|rfl|rfl
  ·exact show tokOk (tz 4 (opZ 1))=true by kernel_rfl
  ·exact show tokOk (tz 4 (opZ 2))=true by kernel_rfl
  ·exact show tokOk (tz 4 (opZ 3))=true by kernel_rfl
  ·exact show tokOk (tz 4 (opZ 4))=true by kernel_rfl
  ·exact show tokOk (tz 4 (opZ 5))=true by kernel_rfl
  ·exact show tokOk (tz 4 (opZ 6))=true by kernel_rfl
  ·exact show tokOk (tz 4 (opZ 7))=true by kernel_rfl
 exact ok_sp (ok_tok ho ⟨32,_,rfl,by decide⟩ (ok_sp hl))
theorem ok_eq {l:List Pc} (hl:pcOk l):pcOk (.sp 32::.tok (tz 4 eqZ)::.sp 32::l):=ok_sp (ok_tok (by kernel_rfl) ⟨32,_,rfl,by decide⟩ (ok_sp hl))
theorem ok_if {l:List Pc} (hl:pcOk l):pcOk (.sp 32::.tok (tz 4 ifZ)::.sp 32::l):=ok_sp (ok_tok (by kernel_rfl) ⟨32,_,rfl,by decide⟩ (ok_sp hl))
theorem ok_no {l:List Pc} (hl:pcOk l):pcOk (.tok (tz 1 noS)::.sp 32::l):=ok_tok (by kernel_rfl) ⟨32,_,rfl,by decide⟩ (ok_sp hl)
theorem ok_tms {l:List Pc} (hs:stp (textP l)) (hl:pcOk l):∀ ts:List TTm,(∀ t∈ts,tmOk t=true)→pcOk (tmsP ts++l)
 | [],_=>ok_rp hs hl
 | [t],h=>by
  show pcOk ((tmP t++[rpP])++l)
  rw [List.append_assoc]
  exact ok_tm (h t (List.mem_cons_self ..)) ⟨41,_,rfl,by decide⟩ (ok_rp hs hl)
 | t::u::ts,h=>by
  have ih:=ok_tms hs hl (u::ts) fun x hx=>h x (List.mem_cons_of_mem _ hx)
  show pcOk ((tmP t++coP::.sp 32::tmsP (u::ts))++l)
  rw [List.append_assoc]
  exact ok_tm (h t (List.mem_cons_self ..)) ⟨44,_,rfl,by decide⟩ (ok_co ih)
theorem ok_tmsQ {l:List Pc} {f:Int} (f1:1≤f) (f4:f≤4) (hs:stp (textP l)) (hl:pcOk l):∀ ts:List TTm,(∀ t∈ts,tmOk t=true)→pcOk (tmsQ f ts++l)
 | [],_=>ok_rp hs hl
 | [t],h=>by
  show pcOk ((.tok (tz 1 (wordZ f))::.sp 32::(tmP t++[rpP]))++l)
  rw [List.cons_append,List.cons_append,List.append_assoc]
  exact ok_word f1 f4 (ok_tm (h t (List.mem_cons_self ..)) ⟨41,_,rfl,by decide⟩ (ok_rp hs hl))
 | t::u::ts,h=>by
  have ih:=ok_tmsQ f1 f4 hs hl (u::ts) fun x hx=>h x (List.mem_cons_of_mem _ hx)
  show pcOk ((tmP t++coP::.sp 32::tmsQ f (u::ts))++l)
  rw [List.append_assoc]
  exact ok_tm (h t (List.mem_cons_self ..)) ⟨44,_,rfl,by decide⟩ (ok_co ih)
theorem ok_atom {name:ByteArray} {ts:List TTm} {f:Int} {l:List Pc} (hn:nameS name=true) (ht:∀ t∈ts,tmOk t=true) (hf:f=0∨(1≤f∧f≤4)) (hs:stp (textP l)) (hl:pcOk l):pcOk (atomP name ts f++l):=by
 unfold nameS at hn
 rw [Bool.and_eq_true] at hn
 unfold atomP
 rw [List.cons_append,List.cons_append]
 refine ok_tok (t:=tz 1 name) hn.1 ⟨40,_,rfl,by decide⟩ (ok_lp ?_)
 split
 ·exact ok_tms hs hl ts ht
 ·rename_i h0
  obtain⟨f1,f4⟩:1≤f∧f≤4:=by rcases hf with h|h;exact absurd h h0;exact h
  exact ok_tmsQ f1 f4 hs hl ts ht
theorem ok_lit {x:TLt} {l:List Pc} (hx:tlOk x=true) (hs:stp (textP l)) (hl:pcOk l):pcOk (litP x++l):=by
 unfold tlOk at hx
 rw [Bool.and_eq_true] at hx
 obtain⟨ht,hx⟩:=hx
 have ht:=all_mem ht
 have htz:∀ i,i < x.terms.length→tmOk (x.terms.getD i t0S)=true:=by
  intro i hi
  rw [List.getD_eq_getElem?_getD,List.getElem?_eq_getElem hi]
  exact ht _ (List.getElem_mem hi)
 unfold litP
 by_cases k1:x.kind=1
 ·rw [if_pos k1]
  rw [if_pos (.inl k1)] at hx
  simp only [Bool.and_eq_true,decide_eq_true_eq] at hx
  exact ok_atom hx.2 ht (.inl rfl) hs hl
 by_cases k2:x.kind=2
 ·rw [if_neg k1,if_pos k2]
  rw [if_pos (.inr k2)] at hx
  simp only [Bool.and_eq_true,decide_eq_true_eq] at hx
  exact ok_no (ok_atom hx.2 ht (.inl rfl) hs hl)
 rw [if_neg (by omega)] at hx
 by_cases k3:x.kind=3
 ·rw [if_neg k1,if_neg k2,if_pos k3]
  rw [if_pos k3] at hx
  simp only [Bool.and_eq_true,decide_eq_true_eq] at hx
  obtain⟨⟨h1,_⟩,h3⟩:=hx
  rw [List.append_assoc]
  exact ok_tm (htz 0 (by omega)) ⟨32,_,rfl,by decide⟩ (ok_op h1.1 (by omega) (ok_tm (htz 1 (by omega)) hs hl))
 ·rw [if_neg k1,if_neg k2,if_neg k3]
  rw [if_neg k3] at hx
  by_cases k4:x.kind=4
  rotate_left
  ·rw [if_neg k4] at hx;cases hx
  rw [if_pos k4] at hx
  simp only [Bool.and_eq_true,decide_eq_true_eq] at hx
  obtain⟨⟨h1,_⟩,h3⟩:=hx
  rw [List.append_assoc]
  refine ok_tm (htz 0 (by omega)) ⟨32,_,rfl,by decide⟩ (ok_op (by omega) (by omega) ?_)
  show pcOk ((tmP (x.terms.getD 1 t0S)++.sp 32::.tok (tz 4 eqZ)::.sp 32::tmP (x.terms.getD 2 t0S))++l)
  rw [List.append_assoc]
  exact ok_tm (htz 1 (by omega)) ⟨32,_,rfl,by decide⟩ (ok_eq (ok_tm (htz 2 (by omega)) hs hl))
theorem ok_lits {l:List Pc} (hs:stp (textP l)) (hl:pcOk l):∀ b:List TLt,(∀ x∈b,tlOk x=true)→pcOk (litsP b++l)
 | [],_=>hl
 | [x],h=>ok_lit (h x (List.mem_cons_self ..)) hs hl
 | x::y::b,h=>by
  have ih:=ok_lits hs hl (y::b) fun z hz=>h z (List.mem_cons_of_mem _ hz)
  show pcOk ((litP x++coP::.sp 32::litsP (y::b))++l)
  rw [List.append_assoc]
  exact ok_lit (h x (List.mem_cons_self ..)) ⟨44,_,rfl,by decide⟩ (ok_co ih)
theorem ru_parts {r:TRu} (hr:truOk r=true):nameS r.name=true∧(∀ t∈r.terms,tmOk t=true)∧(r.fold=0∨(1≤r.fold∧r.fold≤4))∧(r.fold=0∨r.terms≠[])∧∀ x∈r.body,tlOk x=true:=by
 unfold truOk at hr
 simp only [Bool.and_eq_true,Bool.or_eq_true,decide_eq_true_eq] at hr
 obtain⟨⟨⟨⟨t1,t2⟩,t3⟩,t4⟩,t5⟩:=hr
 refine⟨t1,all_mem t2,by omega,?_,fun x hx=>List.all_eq_true.1 t5 x hx⟩
 rcases t4 with t4|t4
 ·exact .inl t4
 ·exact .inr t4.1
theorem ok_rule {r:TRu} {l:List Pc} (hr:truOk r=true) (hl:pcOk l):pcOk (ruleP r++l):=by
 obtain⟨t1,t2,t3,_,t5⟩:=ru_parts hr
 unfold ruleP
 rw [List.append_assoc,List.append_assoc]
 by_cases hb:r.body=[]
 ·rw [if_pos hb]
  exact ok_atom t1 t2 t3 ⟨46,_,rfl,by decide⟩ (ok_do hl)
 ·rw [if_neg hb]
  refine ok_atom t1 t2 t3 ⟨32,_,rfl,by decide⟩ (ok_if ?_)
  show pcOk ((litsP r.body++[doP])++([.sp 10]++l))
  rw [List.append_assoc]
  exact ok_lits ⟨46,_,rfl,by decide⟩ (ok_do hl) r.body t5
theorem ok_tree:∀ rs:List TRu,(∀ r∈rs,truOk r=true)→pcOk (treeP rs)
 | [],_=>trivial
 | r::rs,h=>ok_rule (h r (List.mem_cons_self ..)) (ok_tree rs fun x hx=>h x (List.mem_cons_of_mem _ hx))
theorem strip_strip (rs:List TRu):(rs.map stripR).map stripR=rs.map stripR:=by
 rw [List.map_map]
 congr 1
 funext r
 show stripR (stripR r)=stripR r
 unfold stripR
 dsimp only
 rw [List.map_map]
 rfl
theorem show_back {rs:List TRu} (hc:checkT rs=0) (hz:(showS rs).size≤5000):∃ us at_,parseS (showS rs)=(us,at_,0)∧sameL (sameTRu false) rs us=true:=by
 have hr:∀ r∈rs,truOk r=true:=by
  have h:=hc
  unfold checkT at h
  split at h
  ·cases h
  split at h
  ·rename_i ha
   exact fun r hr=>List.all_eq_true.1 ha r hr
  ·cases h
 have ht:=treeP_text rs fun r h=>(ru_parts (hr r h)).2.2.2.1
 obtain⟨m,hm,hsame⟩:=scan_pcs (showS rs) (treeP rs) 0 (ok_tree rs hr) (by rw [List.drop_zero,ht])
 have hs:=scanS_ok (showS rs) (by omega) m hm
 rw [treeP_toks] at hsame
 have hk:=sameTk_of hsame
 have hg:=rulesGo_tk hk (showS rs).size (showS rs).size ((treeK rs).length + 1) 0 [] [] rfl
 rw [tree_back hc,hk.len] at hg
 unfold parseS
 rw [hs]
 dsimp only
 rw [if_neg (by simp)]
 cases hu:rulesGo m (showS rs).size (m.length + 1) 0 [] with
 | error k=>rw [hu] at hg;cases hg
 | ok us =>
  rw [hu] at hg
  injection hg with hg
  have hg:(rs.map stripR).map stripR=us.map stripR:=hg
  rw [strip_strip] at hg
  have hcu:checkT us=0:=by rw [← checkT_strip us,← hg,checkT_strip,hc]
  dsimp only
  rw [if_pos hcu]
  exact⟨us,0,rfl,sameL_strip (fun x y=>sameTRu_strip) hg⟩
theorem parse_okB {s:ByteArray} (h:(parseS s).2.2=0):checkT (parseS s).1=0:=by
 unfold parseS at h ⊢
 obtain⟨⟨l,p,er⟩,hq⟩:∃ q,q=scanS s:=⟨_,rfl⟩
 rw [← hq] at h ⊢
 dsimp only at h ⊢
 by_cases he:er=0
 ·rw [if_neg (fun h=>h he)] at h ⊢
  cases hr:rulesGo l s.size (l.length + 1) 0 [] with
  | error j=>rw [hr] at h;cases h
  | ok rs =>
   rw [hr] at h
   dsimp only at h ⊢
   by_cases hc:checkT rs=0
   ·rw [if_pos hc];exact hc
   ·rw [if_neg hc] at h;exact absurd h hc
 ·rw [if_pos he] at h;exact absurd h he
theorem parse_noB {s:ByteArray} (h:(parseS s).2.2≠0):(parseS s).1=[]:=by
 unfold parseS at h ⊢
 obtain⟨⟨l,p,er⟩,hq⟩:∃ q,q=scanS s:=⟨_,rfl⟩
 rw [← hq] at h ⊢
 dsimp only at h ⊢
 by_cases he:er=0
 ·rw [if_neg (fun h=>h he)] at h ⊢
  cases hr:rulesGo l s.size (l.length + 1) 0 [] with
  | error j=>rfl
  | ok rs =>
   rw [hr] at h
   dsimp only at h ⊢
   by_cases hc:checkT rs=0
   ·rw [if_pos hc] at h;exact absurd rfl h
   ·rw [if_neg hc]
 ·rw [if_pos he]
theorem sshow_ok (rs:List TRu) (hc:checkT rs=0):Fn 8 [.agg [.d (.slice 5 (rs.map encTRu))]] (fun r=>r = .tup [.d (.str (showS rs)),.d (.int .i64 0)]):=by
 obtain⟨c1,c2,c3⟩:=check_show hc
 cases rs with
 | nil=>exact sshow_nil
 | cons r l=>exact sshow_fn _ (by simp) hc c1 c2
set_option maxHeartbeats 8000000 in
theorem showBack_fn (rs:List TRu) (s:ByteArray):Fn 6 [.agg [.d (.slice 5 (rs.map encTRu))],.d (.str s)] (fun r=>r = .d (.bool true)):=by
 refine fnp_enter' _ Tryz.func6 rfl rfl (by kernel_rfl) ?_
 intro O w0 E0 β0
 have h0:=showBegun_fn
 have h1:=treeBegun_fn
 have p4:=tparse_fn s
 have hok:=parse_okB (s:=s)
 have hno:=parse_noB (s:=s)
 obtain⟨⟨ws,at2,e2⟩,hp⟩:∃ q,q=parseS s:=⟨_,rfl⟩
 rw [← hp] at p4 hok hno
 dsimp only at hok hno
 unfold encParse treeV at p4
 dsimp only at p4
 by_cases he:e2=0
 ·subst he
  have hcw:checkT ws=0:=hok rfl
  by_cases hy:(showS ws).size≤5000
  ·have s5:=sshow_ok ws hcw
   obtain⟨vs,at3,hv1,hv2⟩:=show_back hcw hy
   have p6:=tparse_fn (showS ws)
   rw [hv1] at p6
   unfold encParse treeV at p6
   dsimp only at p6
   have q7:=ssame_fn ws vs
   rw [hv2] at q7
   by_cases hc:checkT rs=0
   ·by_cases hz:(showS rs).size≤5000
    ·have s1:=sshow_ok rs hc
     obtain⟨us,at1,hu1,hu2⟩:=show_back hc hz
     have p2:=tparse_fn (showS rs)
     rw [hu1] at p2
     unfold encParse treeV at p2
     dsimp only at p2
     have q3:=ssame_fn rs us
     rw [hu2] at q3
     generalize showS rs=X at *
     generalize showS ws=Y at *
     repeat' (first|refine z0 ?_|refine z12 ?_|apply ds_nil|apply dw_seq2|refine z16 ?_|apply dw_skip|apply dw_ret|refine z19 ?_|apply thenD_n|refine z21 ?_ (hc:=by apply h0)|refine z21 ?_ (hc:=by apply h1)|refine z21 ?_ (hc:=by apply p4)|refine z21 ?_ (hc:=by apply s1)|refine z21 ?_ (hc:=by apply p2)|refine z21 ?_ (hc:=by apply q3)|refine z21 ?_ (hc:=by apply s5)|refine z21 ?_ (hc:=by apply p6)|refine z21 ?_ (hc:=by apply q7)|refine z1 ?_|refine z3 ?_|(refine z23 ?_ ?_ <;> intro hg)|((fail_if_success (apply ds_known;exact rfl));apply ds_guardP;exact rfl;exact rfl;exact rfl;all_goals intro hg))
     all_goals try (exfalso;omega)
     all_goals first|exact ret_b rfl rfl|exact ret_b rfl (by simp)|exact ret_b rfl (by simp_all)
    ·have s1:=sshow_ok rs hc
     generalize showS rs=X at *
     generalize showS ws=Y at *
     repeat' (first|refine z0 ?_|refine z12 ?_|apply ds_nil|apply dw_seq2|refine z16 ?_|apply dw_skip|apply dw_ret|refine z19 ?_|apply thenD_n|refine z21 ?_ (hc:=by apply h0)|refine z21 ?_ (hc:=by apply h1)|refine z21 ?_ (hc:=by apply p4)|refine z21 ?_ (hc:=by apply s1)|refine z21 ?_ (hc:=by apply s5)|refine z21 ?_ (hc:=by apply p6)|refine z21 ?_ (hc:=by apply q7)|refine z1 ?_|refine z3 ?_|(refine z23 ?_ ?_ <;> intro hg)|((fail_if_success (apply ds_known;exact rfl));apply ds_guardP;exact rfl;exact rfl;exact rfl;all_goals intro hg))
     all_goals try (exfalso;omega)
     all_goals first|exact ret_b rfl rfl|exact ret_b rfl (by simp)|exact ret_b rfl (by simp_all)
   ·have s1:=sshow_err rs hc
    generalize checkT rs=e at *
    generalize showS ws=Y at *
    repeat' (first|refine z0 ?_|refine z12 ?_|apply ds_nil|apply dw_seq2|refine z16 ?_|apply dw_skip|apply dw_ret|refine z18 ?_|refine z19 ?_|apply thenD_n|refine z21 ?_ (hc:=by apply h0)|refine z21 ?_ (hc:=by apply h1)|refine z21 ?_ (hc:=by apply p4)|refine z21 ?_ (hc:=by apply s1)|refine z21 ?_ (hc:=by apply s5)|refine z21 ?_ (hc:=by apply p6)|refine z21 ?_ (hc:=by apply q7)|refine z1 ?_|refine z3 ?_|((fail_if_success (apply ds_known;exact rfl));apply ds_guardP;exact rfl;exact rfl;exact rfl;all_goals intro hg))
    all_goals try (exfalso;omega)
    all_goals first|exact ret_b rfl rfl|exact ret_b rfl (by simp)|exact ret_b rfl (by simp_all)
  ·have s5:=sshow_ok ws hcw
   have p6:=tparse_fn (showS ws)
   obtain⟨⟨vs,at3,e3⟩,hv⟩:∃ q,q=parseS (showS ws):=⟨_,rfl⟩
   rw [← hv] at p6
   unfold encParse treeV at p6
   dsimp only at p6
   by_cases hc:checkT rs=0
   ·by_cases hz:(showS rs).size≤5000
    ·have s1:=sshow_ok rs hc
     obtain⟨us,at1,hu1,hu2⟩:=show_back hc hz
     have p2:=tparse_fn (showS rs)
     rw [hu1] at p2
     unfold encParse treeV at p2
     dsimp only at p2
     have q3:=ssame_fn rs us
     rw [hu2] at q3
     generalize showS rs=X at *
     generalize showS ws=Y at *
     repeat' (first|refine z0 ?_|refine z12 ?_|apply ds_nil|apply dw_seq2|refine z16 ?_|apply dw_skip|apply dw_ret|refine z19 ?_|apply thenD_n|refine z21 ?_ (hc:=by apply h0)|refine z21 ?_ (hc:=by apply h1)|refine z21 ?_ (hc:=by apply p4)|refine z21 ?_ (hc:=by apply s1)|refine z21 ?_ (hc:=by apply p2)|refine z21 ?_ (hc:=by apply q3)|refine z21 ?_ (hc:=by apply s5)|refine z21 ?_ (hc:=by apply p6)|refine z1 ?_|refine z3 ?_|(refine z23 ?_ ?_ <;> intro hg)|((fail_if_success (apply ds_known;exact rfl));apply ds_guardP;exact rfl;exact rfl;exact rfl;all_goals intro hg))
     all_goals try (exfalso;omega)
     all_goals first|exact ret_b rfl rfl|exact ret_b rfl (by simp)|exact ret_b rfl (by simp_all)
    ·have s1:=sshow_ok rs hc
     generalize showS rs=X at *
     generalize showS ws=Y at *
     repeat' (first|refine z0 ?_|refine z12 ?_|apply ds_nil|apply dw_seq2|refine z16 ?_|apply dw_skip|apply dw_ret|refine z19 ?_|apply thenD_n|refine z21 ?_ (hc:=by apply h0)|refine z21 ?_ (hc:=by apply h1)|refine z21 ?_ (hc:=by apply p4)|refine z21 ?_ (hc:=by apply s1)|refine z21 ?_ (hc:=by apply s5)|refine z21 ?_ (hc:=by apply p6)|refine z1 ?_|refine z3 ?_|(refine z23 ?_ ?_ <;> intro hg)|((fail_if_success (apply ds_known;exact rfl));apply ds_guardP;exact rfl;exact rfl;exact rfl;all_goals intro hg))
     all_goals try (exfalso;omega)
     all_goals first|exact ret_b rfl rfl|exact ret_b rfl (by simp)|exact ret_b rfl (by simp_all)
   ·have s1:=sshow_err rs hc
    generalize checkT rs=e at *
    generalize showS ws=Y at *
    repeat' (first|refine z0 ?_|refine z12 ?_|apply ds_nil|apply dw_seq2|refine z16 ?_|apply dw_skip|apply dw_ret|refine z18 ?_|refine z19 ?_|apply thenD_n|refine z21 ?_ (hc:=by apply h0)|refine z21 ?_ (hc:=by apply h1)|refine z21 ?_ (hc:=by apply p4)|refine z21 ?_ (hc:=by apply s1)|refine z21 ?_ (hc:=by apply s5)|refine z21 ?_ (hc:=by apply p6)|refine z1 ?_|refine z3 ?_|((fail_if_success (apply ds_known;exact rfl));apply ds_guardP;exact rfl;exact rfl;exact rfl;all_goals intro hg))
    all_goals try (exfalso;omega)
    all_goals first|exact ret_b rfl rfl|exact ret_b rfl (by simp)|exact ret_b rfl (by simp_all)
 ·obtain rfl:=hno he
  by_cases hc:checkT rs=0
  ·by_cases hz:(showS rs).size≤5000
   ·have s1:=sshow_ok rs hc
    obtain⟨us,at1,hu1,hu2⟩:=show_back hc hz
    have p2:=tparse_fn (showS rs)
    rw [hu1] at p2
    unfold encParse treeV at p2
    dsimp only at p2
    have q3:=ssame_fn rs us
    rw [hu2] at q3
    generalize showS rs=X at *
    repeat' (first|refine z0 ?_|apply ds_nil|apply dw_seq2|refine z16 ?_|apply dw_skip|apply dw_ret|refine z19 ?_|apply thenD_n|apply thenD_r|refine z21 ?_ (hc:=by apply h0)|refine z21 ?_ (hc:=by apply h1)|refine z21 ?_ (hc:=by apply p4)|refine z21 ?_ (hc:=by apply s1)|refine z21 ?_ (hc:=by apply p2)|refine z21 ?_ (hc:=by apply q3)|refine z1 ?_|refine z3 ?_|(refine z23 ?_ ?_ <;> intro hg)|fail)
    all_goals try (exfalso;omega)
    all_goals first|exact ret_b rfl rfl|exact ret_b rfl (by simp)|exact ret_b rfl (by simp_all)
   ·have s1:=sshow_ok rs hc
    generalize showS rs=X at *
    repeat' (first|refine z0 ?_|apply ds_nil|apply dw_seq2|refine z16 ?_|apply dw_skip|apply dw_ret|refine z19 ?_|apply thenD_n|apply thenD_r|refine z21 ?_ (hc:=by apply h0)|refine z21 ?_ (hc:=by apply h1)|refine z21 ?_ (hc:=by apply p4)|refine z21 ?_ (hc:=by apply s1)|refine z1 ?_|refine z3 ?_|(refine z23 ?_ ?_ <;> intro hg)|fail)
    all_goals try (exfalso;omega)
    all_goals first|exact ret_b rfl rfl|exact ret_b rfl (by simp)|exact ret_b rfl (by simp_all)
  ·have s1:=sshow_err rs hc
   generalize checkT rs=e at *
   repeat' (first|refine z0 ?_|refine z12 ?_|apply ds_nil|apply dw_seq2|refine z16 ?_|apply dw_skip|apply dw_ret|refine z18 ?_|refine z19 ?_|apply thenD_n|apply thenD_r|refine z21 ?_ (hc:=by apply h0)|refine z21 ?_ (hc:=by apply h1)|refine z21 ?_ (hc:=by apply p4)|refine z21 ?_ (hc:=by apply s1)|refine z1 ?_|refine z3 ?_|(refine z23 ?_ ?_ <;> intro hg)|((fail_if_success (apply ds_known;exact rfl));apply ds_guardP;exact rfl;exact rfl;exact rfl;all_goals intro hg))
   all_goals try (exfalso;omega)
   all_goals first|exact ret_b rfl rfl|exact ret_b rfl (by simp)|exact ret_b rfl (by simp_all)
end Go.Proofs.YtapciiffpnociabGreatDoor
namespace Go.Proofs.YtapciiffpnociabGreatDoor
open Go Go.RowKit
inductive RT where
 | bool
 | int (k:IntKind)
 | str
 | slice (cells bytes:Nat) (e:RT)
 | struct (fs:List RT)
mutual
def RT.size:RT→Nat
 | .struct fs=>RT.sizeL fs
 | .bool=>1
 | .int _=>1
 | .str=>1
 | .slice _ _ _=>1
def RT.sizeL:List RT→Nat
 | []=>0
 | r::rs=>r.size + RT.sizeL rs
end
mutual
def rtB (P:Program):RT→TypeId→Bool
 | .bool,t=>match P.underlying t with|some .bool=>true|_=>false
 | .int k,t=>match P.underlying t with|some (.int k')=>sameK k k'|_=>false
 | .str,t=>match P.underlying t with|some .string=>true|_=>false
 | .slice c b e,t=>match P.underlying t with
  | some (.slice te)=>Nat.beq (P.cellsOf te) c && (Nat.beq (P.bytesOf te) b && (Nat.blt 0 c && (Nat.beq e.size c && rtB P e te)))
  | _=>false
 | .struct fs,t=>match P.underlying t with
  | some (.struct fl)=>rtL P fs fl.toList 0 && Nat.beq (P.cellsOf t) (RT.sizeL fs)
  | _=>false
def rtL (P:Program):List RT→List Field→Nat→Bool
 | [],[],_=>true
 | r::rs,f::fl,o=>Nat.beq f.offset o && (Nat.beq (P.cellsOf f.type) r.size && (rtB P r f.type && rtL P rs fl (o + r.size)))
 | _,_,_=>false
end
mutual
def TyDR (R:Nat):RT→List D→Prop
 | .bool,xs=>∃ b,xs=[.bool b]
 | .int k,xs=>∃ n,(Lit.int k n).wf=true∧xs=[.int k n]
 | .str,xs=>∃ s:ByteArray,s.size≤R∧xs=[.str s]
 | .slice c b e,xs=>∃ l:List (List D),l.length * b≤R∧l.length≤maxLen∧xs=[.slice c l]∧∀ x∈l,TyDR R e x
 | .struct fs,xs=>TyFR R fs xs
def TyFR (R:Nat):List RT→List D→Prop
 | [],xs=>xs=[]
 | r::rs,xs=>∃ a b,xs=a++b∧TyDR R r a∧TyFR R rs b
end
abbrev TyD:=TyDR reachBytes
section
variable {H : Type} {enc : TypeId × Value → H} {P : Program} {w : World} {R : Nat}
theorem cells?_spec {base:Nat} {a:Addr} {n:Nat} {vs:List Value} (h:w.cells? base a n=some vs):vs.length=n∧∀ j,j < n→∃ v,vs[j]? = some v∧w.cell? (a.add j)=some v:=by
 unfold World.cells? at h
 split at h
 ·have key:∀ (l:List Nat) (vs:List Value),(l.mapM fun i=>w.cell? (a.add i))=some vs→vs.length=l.length∧∀ (j i:Nat),l[j]? = some i→∃ v,vs[j]? = some v∧w.cell? (a.add i)=some v:=by
   intro l
   induction l with
   | nil=>intro vs h;simp at h;subst h;exact⟨rfl,fun j i hj=>by simp at hj⟩
   | cons x l ih =>
    intro vs h
    rw [List.mapM_cons] at h
    cases hx:w.cell? (a.add x) with
    | none=>simp [hx] at h
    | some v =>
     cases hl:(l.mapM fun i=>w.cell? (a.add i)) with
     | none=>simp [hx,hl] at h
     | some us =>
      simp [hx,hl] at h
      subst h
      obtain⟨h1,h2⟩:=ih us hl
      refine⟨by simp [h1],fun j i hj=>?_⟩
      cases j with
      | zero=>simp at hj;subst hj;exact⟨v,rfl,hx⟩
      | succ j=>simpa using h2 j i (by simpa using hj)
  obtain⟨h1,h2⟩:=key _ _ h
  exact⟨by simpa using h1,fun j hj=>h2 j j (by simp [hj])⟩
 ·cases h
theorem cell?_addr {a:Addr} {v:Value} (h:w.cell? a=some v):a.spot=none∧a.block < w.heap.size:=by
 unfold World.cell? at h
 split at h
 ·rename_i hb
  split at h
  ·cases h
  ·rename_i hs
   exact⟨by simpa using hs,(Array.getElem?_eq_some_iff.1 hb).1⟩
 ·cases h
theorem addr_00 (a:Addr):(a.add 0).add 0=a:=by simp [Go.Addr.add]
def RepL (w:World) (cs:List Value) (xs:List D):Prop:=cs.length=xs.length∧∀ (j:Nat) (u:Value),cs[j]? = some u→∃ x,xs[j]? = some x∧RepC (fun _=>False) w u x
theorem RepL.append {cs cs':List Value} {xs xs':List D} (h:RepL w cs xs) (h':RepL w cs' xs'):RepL w (cs++cs') (xs++xs'):=by
 obtain⟨h1,h2⟩:=h
 obtain⟨g1,g2⟩:=h'
 refine⟨by simp [h1,g1],fun j u hj=>?_⟩
 by_cases hlt:j < cs.length
 ·rw [List.getElem?_append_left hlt] at hj
  obtain⟨x,e1,e2⟩:=h2 j u hj
  exact⟨x,by rw [List.getElem?_append_left (by omega)];exact e1,e2⟩
 ·rw [List.getElem?_append_right (by omega)] at hj
  obtain⟨x,e1,e2⟩:=g2 _ u hj
  exact⟨x,by rw [List.getElem?_append_right (by omega),← h1];exact e1,e2⟩
theorem weightsAll_mem {e:TypeId}:∀ {l:List (DataW H)} {d:DataW H},d∈l→∀ n∈d.weights P e,n∈DataW.weightsAll P e l
 | [],_,h,_,_=>by simp at h
 | x::l,d,h,n,hn=>by
  simp only [DataW.weightsAll,List.mem_append]
  rcases List.mem_cons.1 h with rfl|h
  ·exact .inl hn
  ·exact .inr (weightsAll_mem h n hn)
mutual
theorem open_rt:∀ (r:RT) (t:TypeId) (fuel:Nat) (cs:List Value) (x:DataW H × List MemPlace),rtB P r t=true→DataW.trod enc P w 0 (fun _=>true) true fuel t cs=some x→(∀ n∈x.1.weights P t,n≤R) →
  ∃ xs,TyDR R r xs∧RepL w cs xs
 | .bool,t,fuel,cs,x,hb,h,_=>by
  have ht:P.underlying t=some .bool:=by
   unfold rtB at hb;split at hb <;> first|assumption|cases hb
  obtain⟨b,rfl,rfl⟩:=DataW.trod_bool ht h
  refine⟨[.bool b],⟨b,rfl⟩,rfl,fun j u hj=>?_⟩
  cases j with
  | zero=>simp at hj;subst hj;exact⟨_,rfl,.bool⟩
  | succ j=>simp at hj
 | .int k,t,fuel,cs,x,hb,h,_=>by
  have ht:P.underlying t=some (.int k):=by
   unfold rtB at hb
   split at hb
   ·rename_i k' hk;rw [hk,sameK_spec hb]
   ·cases hb
  obtain⟨n,rfl,rfl,hw⟩:=DataW.trod_int ht h
  refine⟨[.int k n],⟨n,hw,rfl⟩,rfl,fun j u hj=>?_⟩
  cases j with
  | zero=>simp at hj;subst hj;exact⟨_,rfl,.int hw⟩
  | succ j=>simp at hj
 | .str,t,fuel,cs,x,hb,h,hw=>by
  have ht:P.underlying t=some .string:=by
   unfold rtB at hb;split at hb <;> first|assumption|cases hb
  obtain⟨s,rfl,rfl,hs⟩:=DataW.trod_string ht h
  have hr:s.size≤R:=by
   have:=hw s.data.toList.length (by simp [DataW.weights])
   simpa using this
  refine⟨[.str s],⟨s,hr,rfl⟩,rfl,fun j u hj=>?_⟩
  cases j with
  | zero=>simp at hj;subst hj;exact⟨_,rfl,.str hs⟩
  | succ j=>simp at hj
 | .slice c b e,t,fuel,cs,x,hb,h,hw=>by
  obtain⟨te,ht,hc,hby,hpos,hes,hre⟩:∃ te,P.underlying t=some (.slice te)∧P.cellsOf te=c∧P.bytesOf te=b∧0 < c∧e.size=c∧rtB P e te=true:=by
   unfold rtB at hb
   split at hb
   ·rename_i te ht
    simp only [Bool.and_eq_true] at hb
    exact⟨te,ht,Nat.eq_of_beq_eq_true hb.1,Nat.eq_of_beq_eq_true hb.2.1,Nat.le_of_ble_eq_true hb.2.2.1,Nat.eq_of_beq_eq_true hb.2.2.2.1,hb.2.2.2.2⟩
   ·cases hb
  rcases DataW.trod_slice ht h with ⟨rfl,rfl⟩|⟨a,len,cap,elems,rest,n,_,rfl,rfl,_,hlc,hcm,hlen,hel,hsp,_⟩
  ·refine⟨[.slice c []],⟨[],by simp,by simp,rfl,by simp⟩,rfl,fun j u hj=>?_⟩
   cases j with
   | zero=>simp at hj;subst hj;exact⟨_,rfl,.nil⟩
   | succ j=>simp at hj
  ·obtain⟨hrl,hrest⟩:=hsp rfl
   have hcell0:∀ i,i < cap→∃ ci y,w.cells? 0 (a.add (i * c)) c=some ci∧DataW.trod enc P w 0 (fun _=>true) true n te ci=some y∧(∀ hi:i < len,elems[i]? = some y):=by
    intro i hi
    by_cases hil:i < len
    ·have h1:=hel i hil
     have h2:elems[i]? = some (elems[i]'(by omega)):=List.getElem?_eq_getElem (by omega)
     rw [hc,h2,Option.bind_eq_some_iff] at h1
     obtain⟨ci,g1,g2⟩:=h1
     exact⟨ci,_,g1,g2,fun _=>h2⟩
    ·have h1:=hrest (i - len) (by omega)
     have h2:rest[i - len]? = some (rest[i - len]'(by omega)):=List.getElem?_eq_getElem (by omega)
     rw [show len + (i - len)=i by omega,hc,h2,Option.bind_eq_some_iff] at h1
     obtain⟨ci,g1,g2⟩:=h1
     exact⟨ci,_,g1,g2,fun h=>absurd h hil⟩
   have hlist:∀ m,m≤len→∃ l:List (List D),l.length=m∧(∀ x∈l,TyDR R e x)∧∀ i (hi:i < m),∃ ci xi,w.cells? 0 (a.add (i * c)) c=some ci∧l[i]? = some xi∧RepL w ci xi:=by
    intro m
    induction m with
    | zero=>intro _;exact⟨[],rfl,by simp,fun i hi=>by omega⟩
    | succ m ih =>
     intro hm
     obtain⟨l,l1,l2,l3⟩:=ih (by omega)
     obtain⟨ci,y,g1,g2,g3⟩:=hcell0 m (by omega)
     have hy:=g3 (by omega)
     have hmem:y.1∈elems.map (·.1):=List.mem_map.2 ⟨y,List.mem_of_getElem? hy,rfl⟩
     obtain⟨xi,t1,t2⟩:=open_rt e te n ci y hre g2 fun k hk=>hw k (by
      simp only [DataW.weights,ht,List.mem_cons,List.mem_append]
      exact .inr (.inl (weightsAll_mem hmem k hk)))
     refine⟨l++[xi],by simp [l1],fun x hx=>?_,fun i hi=>?_⟩
     ·rcases List.mem_append.1 hx with hx|hx
      ·exact l2 x hx
      ·simp at hx;subst hx;exact t1
     ·by_cases him:i < m
      ·obtain⟨ci',xi',q1,q2,q3⟩:=l3 i him
       exact⟨ci',xi',q1,by rw [List.getElem?_append_left (by omega)];exact q2,q3⟩
      ·have:i=m:=by omega
       subst this
       exact⟨ci,xi,g1,by rw [List.getElem?_append_right (by omega),l1];simp,t2⟩
   obtain⟨l,l1,l2,l3⟩:=hlist len (Nat.le_refl _)
   have hwt:l.length * b≤R:=by
    have:=hw ((elems.length + rest.length) * P.bytesOf te) (by
     simp only [DataW.weights,ht,List.length_map,List.mem_cons,true_or])
    rw [hby] at this
    refine Nat.le_trans (Nat.mul_le_mul_right b ?_) this
    omega
   refine⟨[.slice c l],⟨l,hwt,by omega,rfl,l2⟩,rfl,fun j u hj=>?_⟩
   cases j with
   | succ j=>simp at hj
   | zero =>
    simp at hj
    subst hj
    refine⟨_,rfl,?_⟩
    by_cases hcap:cap=0
    ·have h0:len=0:=by omega
     subst hcap;subst h0
     have:l=[]:=List.eq_nil_of_length_eq_zero l1
     subst this
     exact .zero
    ·obtain⟨c0,y0,g1,_,_⟩:=hcell0 0 (by omega)
     obtain⟨v0,_,hv0⟩:=(cells?_spec g1).2 0 hpos
     rw [Nat.zero_mul,addr_00] at hv0
     obtain⟨s5,s2⟩:=cell?_addr hv0
     obtain⟨ab,ao,asp⟩:=a
     simp only at s5 s2
     subst s5
     have hl3:∀ i (hi:i < l.length),(l[i]'hi).length=c∧∀ j (hj:j < (l[i]'hi).length),∃ v,w.cell? ⟨ab,ao + i * c + j,none⟩=some v∧RepC (fun _=>False) w v ((l[i]'hi)[j]'hj):=by
      intro i hi
      obtain⟨ci,xi,q1,q2,q3,q4⟩:=l3 i (by omega)
      have hxi:l[i]'hi=xi:=by rw [List.getElem?_eq_getElem hi] at q2;exact Option.some.inj q2
      subst hxi
      obtain⟨r1,r2⟩:=cells?_spec q1
      refine⟨by omega,fun j hj=>?_⟩
      obtain⟨v,v1,v2⟩:=r2 j (by omega)
      obtain⟨xx,x1,x2⟩:=q4 j v v1
      rw [Addr.add_at,Addr.add_at] at v2
      have hxx:(l[i]'hi)[j]'hj=xx:=by rw [List.getElem?_eq_getElem hj] at x1;exact Option.some.inj x1
      exact⟨v,v2,hxx▸x2⟩
     refine .slice (fun i j=>(w.cell? ⟨ab,ao + i * c + j,none⟩).getD undef) l1.symm hlc hcm (fun h=>h) s2 (fun i hi=>(hl3 i hi).1) (fun i hi j hj=>?_) (fun i hi j hj=>?_)
     ·obtain⟨v,v1,_⟩:=(hl3 i hi).2 j hj
      rw [v1];rfl
     ·obtain⟨v,v1,v2⟩:=(hl3 i hi).2 j hj
      rw [v1];exact v2
 | .struct fs,t,fuel,cs,x,hb,h,hw=>by
  obtain⟨fl,ht,hf,hc⟩:∃ fl,P.underlying t=some (.struct fl)∧rtL P fs fl.toList 0=true∧P.cellsOf t=RT.sizeL fs:=by
   unfold rtB at hb
   split at hb
   ·rename_i fl ht
    simp only [Bool.and_eq_true] at hb
    exact⟨fl,ht,hb.1,Nat.eq_of_beq_eq_true hb.2⟩
   ·cases hb
  obtain⟨xs,n,_,rfl,hcl,hxl,hx⟩:=DataW.trod_struct ht h
  obtain⟨ys,y1,y2⟩:=open_rts fs fl.toList 0 n cs xs hf (fun i f hi=>hx i f (by simpa using hi)) (by simpa using hxl) (by rw [hcl,hc];omega) (fun k hk=>hw k (by
   simp only [DataW.weights,ht];exact hk))
  exact⟨ys,y1,by simpa using y2⟩
theorem open_rts:∀ (rs:List RT) (fl:List Field) (o n:Nat) (cs:List Value) (xs:List (DataW H × List MemPlace)),rtL P rs fl o=true →
  (∀ (i:Nat) (f:Field),fl[i]? = some f→DataW.trod enc P w 0 (fun _=>true) true n f.type ((cs.drop f.offset).take (P.cellsOf f.type))=xs[i]?)→xs.length=fl.length→cs.length=o + RT.sizeL rs →
  (∀ k∈DataW.weightsEach P (fl.map (·.type)) (xs.map (·.1)),k≤R)→∃ ys,TyFR R rs ys∧RepL w (cs.drop o) ys
 | [],fl,o,n,cs,xs,hb,_,_,hl,_=>by
  refine⟨[],rfl,?_,fun j u hj=>?_⟩
  ·simp [RT.sizeL] at hl ⊢;omega
  ·rw [List.drop_eq_nil_of_le (by simp [RT.sizeL] at hl;omega)] at hj;simp at hj
 | r::rs,[],o,n,cs,xs,hb,_,_,_,_=>by simp [rtL] at hb
 | r::rs,f::fl,o,n,cs,xs,hb,hx,hxl,hl,hw=>by
  simp only [rtL,Bool.and_eq_true] at hb
  obtain⟨b1,b2,b3,b4⟩:=hb
  have b1:=Nat.eq_of_beq_eq_true b1
  have b2:=Nat.eq_of_beq_eq_true b2
  cases xs with
  | nil=>simp at hxl
  | cons y ys =>
   have h0:=hx 0 f rfl
   simp only [List.getElem?_cons_zero] at h0
   rw [b1,b2] at h0
   simp only [RT.sizeL] at hl
   obtain⟨az,a1,a2⟩:=open_rt r f.type n _ y b3 h0 fun k hk=>hw k (by
    simp only [List.map_cons,DataW.weightsEach,List.mem_append]
    exact .inl hk)
   obtain⟨bs,c1,c2⟩:=open_rts rs fl (o + r.size) n cs ys b4 (fun i g hi=>by simpa using hx (i + 1) g (by simpa using hi)) (by simpa using hxl) (by omega) (fun k hk=>hw k (by
    simp only [List.map_cons,DataW.weightsEach,List.mem_append]
    exact .inr hk))
   refine⟨az++bs,⟨az,bs,rfl,a1,c1⟩,?_⟩
   have:=a2.append c2
   have hd:(cs.drop o).take r.size++cs.drop (o + r.size)=cs.drop o:=by
    rw [← List.drop_drop]
    exact List.take_append_drop _ _
   rw [hd] at this
   exact this
end
end
end Go.Proofs.YtapciiffpnociabGreatDoor
namespace Go.Proofs.YtapciiffpnociabGreatDoor
open Go Go.RowKit Go.ChangeShapes Go.WideShapes
def RT.arg:RT→List D→SV
 | .struct _,xs=>.agg (xs.map .d)
 | _,[x]=>.d x
 | _,_=>.junk
def ArgsDR (R:Nat):List RT→List SV→Prop
 | [],az=>az=[]
 | r::rs,az=>∃ xs l,az=r.arg xs::l∧TyDR R r xs∧ArgsDR R rs l
def rtsB (P:Program):List RT→List TypeId→Bool
 | [],[]=>true
 | r::rs,t::ts=>rtB P r t && rtsB P rs ts
 | _,_=>false
section
variable {H : Type} {enc : TypeId × Value → H} {P : Program} {R : Nat}
theorem repL_agg {W:World} {e:Env}:∀ (cs:List Value) (xs:List D),RepL W cs xs→RelL (fun _=>False) e W (xs.map .d) cs
 | [],[],_=>trivial
 | [],_::_,h=>by have:=h.1;simp at this
 | _::_,[],h=>by have:=h.1;simp at this
 | c::cs,x::xs,h=>by
  obtain⟨h1,h2⟩:=h
  refine⟨?_,repL_agg cs xs ⟨by simpa using h1,fun j u hj=>by simpa using h2 (j + 1) u (by simpa using hj)⟩⟩
  obtain⟨y,hy,hr⟩:=h2 0 c rfl
  simp at hy
  subst hy
  exact hr
theorem repL_one {W:World} {e:Env} {v:Value} {x:D} (h:RepL W [v] [x]):Rel (fun _=>False) e W (.d x) v:=by
 obtain⟨y,hy,hr⟩:=h.2 0 v rfl
 simp at hy
 subst hy
 exact hr
theorem rtB_bool {t:TypeId} (h:rtB P .bool t=true):P.underlying t=some .bool:=by
 unfold rtB at h;split at h <;> first|assumption|cases h
theorem rtB_str {t:TypeId} (h:rtB P .str t=true):P.underlying t=some .string:=by
 unfold rtB at h;split at h <;> first|assumption|cases h
theorem rtB_int {t:TypeId} {k:IntKind} (h:rtB P (.int k) t=true):P.underlying t=some (.int k):=by
 unfold rtB at h
 split at h
 ·rename_i k' hk;rw [hk,sameK_spec h]
 ·cases h
theorem rtB_slice {t:TypeId} {c b:Nat} {e:RT} (h:rtB P (.slice c b e) t=true):∃ te,P.underlying t=some (.slice te):=by
 unfold rtB at h
 split at h
 ·rename_i te ht;exact⟨te,ht⟩
 ·cases h
theorem rtB_struct {t:TypeId} {fs:List RT} (h:rtB P (.struct fs) t=true):∃ fl,P.underlying t=some (.struct fl):=by
 unfold rtB at h
 split at h
 ·rename_i te ht;exact⟨te,ht⟩
 ·cases h
theorem arg_open {W:World} {e:Env} {base:Nat}:∀ (r:RT) (t:TypeId) (v:Value) (d:DataW H) (ps:List MemPlace),rtB P r t=true→DataW.Trod enc P W 0 (fun _=>true) true t v d ps→Value.okWide P W .any base t v →
  (∀ n∈d.weights P t,n≤R)→∃ xs,TyDR R r xs∧Rel (fun _=>False) e W (r.arg xs) v:=by
 intro r t v d ps hb ⟨fuel,hd⟩ hok hw
 obtain⟨xs,h1,h2⟩:=open_rt r t fuel v.cells.toList (d,ps) hb hd hw
 refine⟨xs,h1,?_⟩
 cases r with
 | bool =>
  obtain⟨b,rfl⟩:=okWide_bool (rtB_bool hb) hok
  obtain⟨b',rfl⟩:=h1
  exact repL_one h2
 | int k =>
  obtain⟨b,rfl⟩:=okWide_int (rtB_int hb) hok
  obtain⟨b',_,rfl⟩:=h1
  exact repL_one h2
 | str =>
  obtain⟨b,rfl⟩:=okWide_string (rtB_str hb) hok
  obtain⟨b',_,rfl⟩:=h1
  exact repL_one h2
 | slice c b el =>
  obtain⟨te,ht⟩:=rtB_slice hb
  obtain⟨a,n,cap,rfl⟩:=okWide_slice ht hok
  obtain⟨l,_,_,rfl,_⟩:=h1
  exact repL_one h2
 | struct fs =>
  obtain⟨fl,ht⟩:=rtB_struct hb
  obtain⟨cs,rfl,_⟩:=okWide_struct ht hok
  exact⟨cs.toList,by simp,repL_agg _ _ h2⟩
theorem args_open {W:World} {e:Env} {base:Nat}:∀ (rs:List RT) (ts:List TypeId) (vs:List Value) (ds:List (DataW H)) (ps:List MemPlace),rtsB P rs ts=true→DataW.TrodAll enc P W 0 (fun _=>true) true ts vs ds ps →
  (∀ (j:Nat) t v,ts[j]? = some t→vs[j]? = some v→Value.okWide P W .any base t v)→(∀ n∈DataW.weightsEach P ts ds,n≤R)→∃ az,ArgsDR R rs az∧RelL (fun _=>False) e W az vs
 | [],[],vs,ds,ps,_,h,_,_=>by
  obtain⟨rfl,rfl,rfl⟩:=trodAll_nil h
  exact⟨[],rfl,trivial⟩
 | [],_::_,_,_,_,hb,_,_,_=>by simp [rtsB] at hb
 | _::_,[],_,_,_,hb,_,_,_=>by simp [rtsB] at hb
 | r::rs,t::ts,vs,ds,ps,hb,h,hok,hw=>by
  obtain⟨v,vs',d,ds',p,q,rfl,rfl,rfl,h1,h2⟩:=trodAll_cons h
  simp only [rtsB,Bool.and_eq_true] at hb
  simp only [DataW.weightsEach,List.mem_append] at hw
  obtain⟨xs,g1,g2⟩:=arg_open (e:=e) r t v d p hb.1 h1 (hok 0 t v rfl rfl) fun n hn=>hw n (.inl hn)
  obtain⟨az,g3,g4⟩:=args_open (e:=e) rs ts vs' ds' q hb.2 h2 (fun j t v ht hv=>hok (j + 1) t v (by simpa using ht) (by simpa using hv)) fun n hn=>hw n (.inr hn)
  exact⟨r.arg xs::az,⟨xs,az,rfl,g1,g3⟩,g2,g4⟩
def readB (P:Program) (ts:List TypeId):Bool:=ts.all fun t=>P.readableRec t && Nat.blt t P.types.size
theorem args_again {W W':World} {spare:Nat→Bool} (hl:laidOutB P=true) (hb:Below W.heap.size W W'):∀ (ts:List TypeId) (vs:List Value) (ds:List (DataW H)) (ps:List MemPlace),readB P ts=true →
  DataW.TrodAll enc P W 0 (fun _=>true) true ts vs ds ps→(∀ p∈ps,p.block < W.heap.size)→(∀ p∈ps,spare p.block=true)→DataW.TrodAll enc P W' 0 spare true ts vs ds ps
 | [],vs,ds,ps,_,h,_,_=>by
  obtain⟨rfl,rfl,rfl⟩:=trodAll_nil h
  rfl
 | t::ts,vs,ds,ps,hr,h,hlt,hsp=>by
  obtain⟨v,vs',d,ds',p,q,rfl,rfl,rfl,h1,h2⟩:=trodAll_cons h
  simp only [readB,List.all_cons,Bool.and_eq_true] at hr
  refine⟨p,q,?_,args_again hl hb ts vs' ds' q (by simpa [readB] using hr.2) h2 (fun x hx=>hlt x (List.mem_append_right _ hx)) (fun x hx=>hsp x (List.mem_append_right _ hx)),rfl⟩
  exact WideElems.Trod_stays hl hr.1.1 (Nat.le_of_ble_eq_true hr.1.2) h1 (fun x hx=>hb.same (hlt x (List.mem_append_left _ hx))) fun x hx=>hsp x (List.mem_append_left _ hx)
theorem law_post {f:Func} {s:ChangeSpec} {apart fresh handsOn:Bool} {W W':World} {args:Array Value} {ds gs:List (DataW H)} {before:List MemPlace} {tb:TypeId}
  (hv:s.vars=[]) (hW:DataW.Whole enc P f.params.toList s.vars apart W args.toList ds gs before) (hfn:gs=[]→s.fn H (ds++gs) = { results:=[.lit (.bool true)],args:=ds })
  (hres:f.resultTypes = #[tb]) (htb:P.underlying tb=some .bool) (hl:laidOutB P=true) (hr:readB P f.params.toList=true) (hb:Below W.heap.size W W') :
  s.post enc P f apart fresh handsOn false W args (.bool true) W':=by
 have hW0:=hW
 have hlt:=fun p hp=>hW.lt p hp
 obtain⟨p,q,hA,hV,rfl,hfz,hnd⟩:=hW
 rw [hv] at hV
 obtain⟨rfl,rfl⟩:=trodVars_none hV
 have hfn:=hfn rfl
 refine⟨ds,[],p++[],[],p,[],hW0,?_,?_,?_,hb.frame _,fun h=>by cases h⟩
 ·rw [hres,hfn]
  exact trodAll_mk1 (shut_bool htb true)
 ·rw [hfn]
  exact args_again hl hb _ _ _ _ hr hA (fun x hx=>hlt x (List.mem_append_left _ hx)) fun x hx=>by simpa using hlt x (List.mem_append_left _ hx)
 ·rw [hv,hfn]
  rfl
theorem ctxX_nil {τ τok} {e:Env} {W:World} {n J β0}:∀ b,Ctx.X ⟨P,τ,τok,fun _=>False,W,fun b=>b∈ownedL e [],n,J,β0,none,noPan,true,false⟩ e [] b→False:=by
 rintro b (h|h)
 ·exact h
 ·simp [ownedL] at h
def TabW (P:Program) (W:World):Prop:=Tabs P (fun _=>False) W
theorem TabW.none {P : Program} {W : World} (h : P.globalNamed "internal/strconv.uint64pow10" = none) : TabW P W := fun g hg => by rw [h] at hg; cases hg
theorem law_calls {τ:List (Nat × TI)} {τok:TabOk P τ} {f:FuncId} {rs:List RT} {ts:List TypeId} {args:Array Value} {ds:List (DataW H)} {ps:List MemPlace} {W:World} {base:Nat}
  (hc:∀ az,ArgsDR R rs az→FnP false P τ τok f az (fun r=>r = .d (.bool true))) (hb:rtsB P rs ts=true) (hA:DataW.TrodAll enc P W 0 (fun _=>true) true ts args.toList ds ps)
  (hok:∀ (j:Nat) t v,ts[j]? = some t→args.toList[j]? = some v→Value.okWide P W .any base t v) (hw:∀ n∈DataW.weightsEach P ts ds,n≤R) (hT:TabW P W) :
  Calls P f args W fun en W'=>en = .returned (.bool true)∧Below W.heap.size W W':=by
 let e:Env:=⟨fun _=>0,fun _=>undef,lo 0⟩
 obtain⟨az,h1,h2⟩:=args_open (e:=e) rs ts args.toList ds ps hb hA hok hw
 have hk:=(hc az h1).2 (fun _=>False) e W args.toList ?_ ?_
 ·rw [Array.toArray_toList] at hk
  refine Calls.mono hk ?_
  rintro en W' ⟨k',r,H',e',v,⟨rfl,_,rfl⟩,rfl,hH,hr⟩
  have hr':RepC _ W' v (.bool true):=hr
  cases hr'
  exact⟨rfl,⟨hH.os,hH.tape,hH.output,hH.size,fun b hb=>hH.block b hb (by simp [ownedL])⟩⟩
 ·exact { top:=fun _=>Iff.rfl,heap:=(fun p hp=>nomatch hp),ids:=.nil,nodup:=.nil,mine:=(fun b hb=>nomatch hb),os:=rfl,tape:=rfl,output:=rfl,drawn:=(fun _=>Nat.le_refl _),size:=Nat.le_refl _,block:=(fun _ _ _=>rfl),obound:=(fun _ h=>h.elim),tabs:=hT.sub (by simp [ownedL]),jle:=(fun _ h=>nomatch h),anchor:=(fun _ h=>nomatch h) }
 ·exact RelL.keep (Nat.le_refl _) (fun _ _ _=>rfl) (fun b _ hy=>ctxX_nil b hy) _ _ h2
end
open Go Go.RowKit
theorem list_of {α:Type} {e:RT} {enc:α→List D} (h:∀ x,TyD e x→∃ t,x=enc t):∀ (l:List (List D)),(∀ x∈l,TyD e x)→∃ ts:List α,l=ts.map enc
 | [],_=>⟨[],rfl⟩
 | x::l,hl=>by
  obtain⟨t,rfl⟩:=h x (hl x (List.mem_cons_self ..))
  obtain⟨ts,rfl⟩:=list_of h l fun y hy=>hl y (List.mem_cons_of_mem _ hy)
  exact⟨t::ts,rfl⟩
abbrev rtTTm:RT:=.struct [.str,.int .i64]
abbrev rtTLt:RT:=.struct [.int .i64,.int .i64,.int .i64,.str,.slice 2 24 rtTTm]
abbrev rtTRu:RT:=.struct [.int .i64,.str,.slice 2 24 rtTTm,.int .i64,.slice 5 64 rtTLt]
abbrev rtTree:RT:=.struct [.slice 5 80 rtTRu]
theorem sliceT {α:Type} {c b:Nat} {e:RT} {enc:α→List D} (h:∀ x,TyD e x→∃ t,x=enc t) (x:List D) (hx:TyD (.slice c b e) x):∃ ts:List α,x=[.slice c (ts.map enc)]:=by
 obtain⟨l,_,_,rfl,h3⟩:=hx
 obtain⟨ts,rfl⟩:=list_of h l h3
 exact⟨ts,rfl⟩
theorem ttm_of (x:List D) (h:TyD rtTTm x):∃ t,x=encTTm t:=by
 obtain⟨a,b,rfl,⟨k,_,rfl⟩,c,d,rfl,⟨p,_,rfl⟩,rfl⟩:=h
 exact⟨⟨k,p⟩,rfl⟩
theorem tlt_of (x:List D) (h:TyD rtTLt x):∃ t,x=encTLt t:=by
 obtain⟨a,b,rfl,⟨k,_,rfl⟩,c,d,rfl,⟨p,_,rfl⟩,e,f,rfl,⟨q,_,rfl⟩,u,v,rfl,⟨n,_,rfl⟩,g,i,rfl,h4,rfl⟩:=h
 obtain⟨l,rfl⟩:=sliceT ttm_of g h4
 exact⟨⟨k,p,q,n,l⟩,rfl⟩
theorem tru_of (x:List D) (h:TyD rtTRu x):∃ t,x=encTRu t:=by
 obtain⟨a,b,rfl,⟨k,_,rfl⟩,c,d,rfl,⟨p,_,rfl⟩,e,f,rfl,h3,u,v,rfl,⟨n,_,rfl⟩,g,i,rfl,h4,rfl⟩:=h
 obtain⟨l,rfl⟩:=sliceT ttm_of e h3
 obtain⟨m,rfl⟩:=sliceT tlt_of g h4
 exact⟨⟨k,p,l,n,m⟩,rfl⟩
theorem tree_arg (x:List D) (h:TyD rtTree x):∃ rs:List TRu,RT.arg rtTree x = .agg [.d (.slice 5 (rs.map encTRu))]:=by
 obtain⟨c,d,rfl,h2,rfl⟩:=h
 obtain⟨l,rfl⟩:=sliceT tru_of c h2
 exact⟨l,rfl⟩
end Go.Proofs.YtapciiffpnociabGreatDoor
namespace Go.Proofs.YtapciiffpnociabGreatDoor
open Go Go.RowKit Go.ChangeShapes Go.WideShapes
section
variable {H : Type} {enc : TypeId × Value → H} {R : Nat}
theorem law_lifted_row {C:Checked} {τ:List (Nat × TI)} {τok:TabOk C.prog τ} {os:Os} (started:os.Started) {f:FuncId} {fn:Func} {s:OpenSpec} {F:Stop.Interp} {conds:List PathCond} {apart fresh handsOn:Bool} {laid:List (String × DataW Unit)} {rs:List RT} {tb:TypeId}
  (own:ownKnob C.prog.godebug=none) (noInit:C.prog.inits.idxOf? f=none) (hfn:C.prog.funcs[f]? = some fn)
  (witness:∃ (w:World) (tape:Tape) (i:Input),w.os=os∧(w.forCall tape i).Shaped C.prog∧i.vars=[]∧Input.okWide C.prog (w.forCall tape i) .any w.heap.size f i ∧
   s.preRow enc C.prog fn conds apart laid (w.forCall tape i).memory i.args∧({}:Assume).holds C.prog (lone (Frame.enter C.prog f i.args .normal) [] (w.forCall tape i)))
  (hv:s.vars=[]) (hva:(s.at F).vars=[]) (hvt:s.bare.plain.varTypes C.prog=[]) (hs:∀ (ds:List (DataW H)),ds.length=fn.params.toList.length→(s.at F).fn H ds = { results:=[.lit (.bool true)],args:=ds })
  (hres:fn.resultTypes = #[tb]) (htb:C.prog.underlying tb=some .bool) (hl:laidOutB C.prog=true) (hr:readB C.prog fn.params.toList=true) (hb:rtsB C.prog rs fn.params.toList=true)
  (hkR:∀ ds:List (DataW H),(∀ k,s.cond=some k→k H ds=true)→(∀ n∈DataW.weightsEach C.prog fn.params.toList ds,n≤reachBytes)→∀ n∈DataW.weightsEach C.prog fn.params.toList ds,n≤R)
  (hc:∀ az,ArgsDR R rs az→FnP false C.prog τ τok f az (fun r=>r = .d (.bool true))) (hT:∀ W,laidMetH C.prog laid W→TabW C.prog W) :
  ReturnsInHanded {} C os f .any (s.preRow enc C.prog fn conds apart laid) ((s.at F).post enc C.prog fn apart fresh handsOn false):=by
 refine returnsInHanded_of_row own started noInit hfn witness ?_
 intro W base args ds gs before hval hW _ hkk hwt hld _ _
 obtain⟨p,q,hA,hV,hpq,hfz,hnd⟩:=id hW
 rw [hv] at hV
 obtain⟨rfl,rfl⟩:=trodVars_none hV
 rw [hvt,List.append_nil,List.append_nil] at hwt
 simp only [List.append_nil] at hkk
 have hlen:∀ (ts:List TypeId) (vs:List Value) (ds:List (DataW H)) (ps:List MemPlace),DataW.TrodAll enc C.prog W 0 (fun _=>true) true ts vs ds ps→ds.length=ts.length:=by
  intro ts
  induction ts with
  | nil=>intro vs ds ps h;obtain⟨rfl,rfl,rfl⟩:=trodAll_nil h;rfl
  | cons t ts ih =>
   intro vs ds ps h
   obtain⟨v,vs',d,ds',p,q,rfl,rfl,rfl,h1,h2⟩:=trodAll_cons h
   simp [ih _ _ _ h2]
 refine (law_calls hc hb hA (fun j t v ht hv=>hval j t v (by simpa using ht) (by simpa using hv)) (hkR ds hkk fun n hn=>by simpa using List.all_eq_true.1 hwt n hn) (hT W hld)).mono ?_
 rintro en W' ⟨rfl,hbl⟩
 rw [hv] at hW
 exact⟨_,rfl,law_post hva (by rw [hva];exact hW) (fun _=>by rw [List.append_nil];exact hs ds (hlen _ _ _ _ hA)) hres htb hl hr hbl⟩
theorem laid_tail {P:Program} {x:String × DataW Unit} {rest:List (String × DataW Unit)} {W:World} (h:laidMet P (x::rest) W):laidMet P rest W:=by
 obtain⟨ps,⟨g,t,cs,fuel,p,q,_,_,_,_,hr,rfl⟩,hn,hf⟩:=h
 exact⟨q,hr,(List.nodup_append.1 hn).2.1,fun b off hb=>hf b off (List.mem_append_right _ hb)⟩
theorem tabW_of {P : Program} {W : World} (h : Lib.TabIs P W "internal/strconv.uint64pow10" .u64 Lib.pow10Tab) : TabW P W := fun g hg => by
 unfold Lib.TabIs World.var? at h
 rw [hg] at h
 simp only [Option.bind_some] at h
 refine⟨fun h=>h,?_⟩
 split at h
 ·rename_i cs a b hh
  have hcs:cs=_:=Option.some.inj h
  refine⟨a,b,?_⟩
  rw [hh,hcs]
  rfl
 ·cases h
end
end Go.Proofs.YtapciiffpnociabGreatDoor
