/- Several texts in one: TreN TreO TokK TokO TreT ShbA ShbB ShbE ShwC ShwE. Condition: none. -/
import Derived.Test.YtapciiffpnociabGreatDoorR12
import Derived.Test.YtapciiffpnociabGreatDoorR10
import Derived.Test.YtapciiffpnociabGreatDoorR09
import Derived.Test.YtapciiffpnociabGreatDoorR11
namespace Go.Proofs.YtapciiffpnociabGreatDoor
open Go Go.RowKit
theorem checkT_2 {rs:List TRu} (h:12 < rs.length∨∃ i,∃ h:i < rs.length,muchT rs[i]=true):checkT rs=2:=by
 unfold checkT
 rw [if_pos]
 rcases h with h|⟨i,hi,h⟩
 ·exact .inl h
 ·exact .inr (List.any_eq_true.2 ⟨_,List.getElem_mem hi,h⟩)
theorem checkT_no {rs:List TRu} (h1:¬ 12 < rs.length) (h2:∀ i (h:i < rs.length),muchT rs[i]=false):checkT rs=if rs.all truOk=true then 0 else 1:=by
 unfold checkT
 rw [if_neg]
 rintro (h|h)
 ·exact h1 h
 ·obtain⟨x,hx,hm⟩:=List.any_eq_true.1 h
  obtain⟨i,hi,rfl⟩:=List.mem_iff_getElem.1 hx
  rw [h2 i hi] at hm
  cases hm
theorem checkT_1 {rs:List TRu} (h1:¬ 12 < rs.length) (h2:∀ i (h:i < rs.length),muchT rs[i]=false) {i:Nat} (hi:i < rs.length) (h3:truOk rs[i]=false):checkT rs=1:=by
 rw [checkT_no h1 h2,if_neg]
 intro h
 rw [List.all_eq_true.1 h _ (List.getElem_mem hi)] at h3
 cases h3
theorem checkT_0 {rs:List TRu} (h1:¬ 12 < rs.length) (h2:∀ i (h:i < rs.length),muchT rs[i]=false) (h3:∀ i (h:i < rs.length),truOk rs[i]=true):checkT rs=0:=by
 rw [checkT_no h1 h2,if_pos]
 refine List.all_eq_true.2 fun x hx=>?_
 obtain⟨i,hi,rfl⟩:=List.mem_iff_getElem.1 hx
 exact h3 i hi
theorem muchT_1 {r:TRu} (h:3 < r.terms.length∨4 < r.body.length∨∃ i,∃ h:i < r.body.length,3 < r.body[i].terms.length):muchT r=true:=by
 unfold muchT
 simp only [Bool.or_eq_true,decide_eq_true_eq]
 rcases h with h|h|⟨i,hi,h⟩
 ·exact .inl (.inl h)
 ·exact .inl (.inr h)
 ·exact .inr (List.any_eq_true.2 ⟨_,List.getElem_mem hi,decide_eq_true h⟩)
theorem muchT_0 {r:TRu} (h1:¬ 3 < r.terms.length) (h2:¬ 4 < r.body.length) (h3:∀ i (h:i < r.body.length),¬ 3 < r.body[i].terms.length):muchT r=false:=by
 unfold muchT
 rw [decide_eq_false h1,decide_eq_false h2,Bool.false_or,Bool.false_or]
 cases h:r.body.any fun x=>decide (3 < x.terms.length) with
 | false=>rfl
 | true =>
  obtain⟨x,hx,hm⟩:=List.any_eq_true.1 h
  obtain⟨i,hi,rfl⟩:=List.mem_iff_getElem.1 hx
  exact absurd (of_decide_eq_true hm) (h3 i hi)
def headOk (r:TRu):Bool:=nameS r.name && tmsOk r.terms && decide (0≤r.fold∧r.fold≤4) && (decide (r.fold=0) || (decide (r.terms≠[]) && decide (r.body≠[])))
theorem truOk_eq (r:TRu):truOk r=(headOk r && r.body.all tlOk):=rfl
theorem tms_step {l:List TTm} {i:Nat} (hi:i < l.length) (h:tmOk l[i]=false):tmsOk l=false:=by
 unfold tmsOk
 cases hb:l.all tmOk with
 | false=>rfl
 | true=>rw [List.all_eq_true.1 hb _ (List.getElem_mem hi)] at h;cases h
theorem tms_end {l:List TTm} (h:∀ i (h:i < l.length),tmOk l[i]=true):tmsOk l=true:=by
 refine List.all_eq_true.2 fun x hx=>?_
 obtain⟨i,hi,rfl⟩:=List.mem_iff_getElem.1 hx
 exact h i hi
theorem nameR_eq (s:ByteArray):nameR s=nameS s:=by unfold nameR nameS;rw [oneS_eq]
attribute [local irreducible] DW DS DL DQ Ev FnOk FnP thenD inBlockD DT
set_option maxHeartbeats 8000000 in
theorem areTerms_fn (l:List TTm):Fn 27 [.d (.slice 2 (l.map encTTm))] (fun r=>r = .d (.bool (tmsOk l))):=by
 refine fnp_enter' _ Tryz.func27 rfl rfl (by kernel_rfl) ?_
 intro O w0 E0 β0
 have ll:(l.map encTTm).length=l.length:=List.length_map _
 refine dw_len (t:=0) rfl (fun hml=>?_)
 rw [ll] at hml
 have hml:l.length≤9223372036854775807:=Nat.le_trans hml (by decide)
 repeat' (first|refine z0 ?_|apply ds_nil|apply dw_seq2|refine z16 ?_|apply dw_block|apply thenD_n)
 refine ds_loop (ι:=Nat) (fun i=>⟨0,[(0,.d (.slice 2 (l.map encTTm))),(3,.d (.int .i64 i))],[]⟩)
  (fun i=>i≤l.length∧∀ j (hj:j < l.length),j < i→tmOk l[j]=true) (fun i=>l.length - i) 0 ⟨Nat.zero_le _,fun j _ h=>absurd h (Nat.not_lt_zero j)⟩ (ent_ren id ⟨rfl,rfl,trivial⟩ trivial rfl rfl rfl rfl rfl rfl) ?_
 rintro i ⟨hi,hk⟩
 dsimp only at hi hk ⊢
 by_cases hil:i < l.length
 ·have w1:=between_fn l[i].n (-9999999) 9999999
  have w2:=isToken_fn 2 l[i].var
  rw [← oneS_eq] at w2
  have hm:tmOk l[i]=if l[i].var=⟨#[]⟩ then decide (-9999999≤l[i].n) && decide (l[i].n≤9999999) else oneS 2 l[i].var && decide (l[i].n=0):=rfl
  cases hb:tmOk l[i] with
  | true =>
   have hnext:∀ j (hj:j < l.length),j < i + 1→tmOk l[j]=true:=fun j hj h=>by
    rcases Nat.lt_or_ge j i with h1|h1
    ·exact hk j hj h1
    ·have:j=i:=by omega
     subst this
     exact hb
   rw [hb] at hm
   by_cases hv:l[i].var=⟨#[]⟩
   ·rw [if_pos hv] at hm
    rw [← hm] at w1
    repeat' (first|refine z0 ?_|refine z12 ?_|apply ds_nil|apply dw_seq2|refine z16 ?_|apply dw_block|apply dw_skip|apply dw_exit|apply dw_ret|refine z18 ?_|refine z19 ?_|apply thenD_n|apply thenD_e|apply thenD_r|apply inB_n|apply inB_r|refine z17 ?_|refine z21 ?_ (hc:=by apply w1)|refine z21 ?_ (hc:=by apply w2)|refine z1 ?_|refine z3 ?_|(refine z23 ?_ ?_ <;> intro hg)|(apply dw_cond;exact rfl;all_goals intro hg)|((fail_if_success (apply ds_known;exact rfl));apply ds_guardP;exact rfl;exact rfl;exact rfl;all_goals intro hg))
    all_goals try (exfalso;first|omega|exact absurd hv (by assumption)|exact absurd (by assumption) hv)
    all_goals exact⟨i + 1,⟨by omega,hnext⟩,ent_ren id ⟨rfl,rfl,trivial⟩ trivial rfl rfl rfl rfl rfl rfl,by show l.length - (i + 1) < l.length - i;omega⟩
   ·rw [if_neg hv] at hm
    have h2:=(Bool.and_eq_true _ _).mp hm.symm
    have h0:=of_decide_eq_true h2.2
    rw [h2.1] at w2
    repeat' (first|refine z0 ?_|refine z12 ?_|apply ds_nil|apply dw_seq2|refine z16 ?_|apply dw_block|apply dw_skip|apply dw_exit|apply dw_ret|refine z18 ?_|refine z19 ?_|apply thenD_n|apply thenD_e|apply thenD_r|apply inB_n|apply inB_r|refine z17 ?_|refine z21 ?_ (hc:=by apply w1)|refine z21 ?_ (hc:=by apply w2)|refine z1 ?_|refine z3 ?_|(refine z23 ?_ ?_ <;> intro hg)|((fail_if_success (apply ds_known;exact rfl));apply ds_guardP;exact rfl;exact rfl;exact rfl;all_goals intro hg)|((fail_if_success (apply ds_known;exact rfl));apply ds_guardB;exact rfl;exact rfl;exact rfl;all_goals intro hg))
    all_goals try (exfalso;first|omega|exact absurd hv (by assumption)|exact absurd (by assumption) hv)
    all_goals exact⟨i + 1,⟨by omega,hnext⟩,ent_ren id ⟨rfl,rfl,trivial⟩ trivial rfl rfl rfl rfl rfl rfl,by show l.length - (i + 1) < l.length - i;omega⟩
  | false =>
   have hend:=tms_step hil hb
   rw [hb] at hm
   by_cases hv:l[i].var=⟨#[]⟩
   ·rw [if_pos hv] at hm
    rw [← hm] at w1
    repeat' (first|refine z0 ?_|refine z12 ?_|apply ds_nil|apply dw_seq2|refine z16 ?_|apply dw_block|apply dw_skip|apply dw_exit|apply dw_ret|refine z18 ?_|refine z19 ?_|apply thenD_n|apply thenD_e|apply thenD_r|apply inB_n|apply inB_r|refine z17 ?_|refine z21 ?_ (hc:=by apply w1)|refine z21 ?_ (hc:=by apply w2)|refine z1 ?_|refine z3 ?_|(refine z23 ?_ ?_ <;> intro hg)|(apply dw_cond;exact rfl;all_goals intro hg)|((fail_if_success (apply ds_known;exact rfl));apply ds_guardP;exact rfl;exact rfl;exact rfl;all_goals intro hg))
    all_goals try (exfalso;first|omega|exact absurd hv (by assumption)|exact absurd (by assumption) hv)
    all_goals exact ret_b rfl hend.symm
   ·rw [if_neg hv] at hm
    cases h2:oneS 2 l[i].var with
    | true =>
     rw [h2] at hm w2
     have h0:=of_decide_eq_false hm.symm
     repeat' (first|refine z0 ?_|refine z12 ?_|apply ds_nil|apply dw_seq2|refine z16 ?_|apply dw_block|apply dw_skip|apply dw_exit|apply dw_ret|refine z18 ?_|refine z19 ?_|apply thenD_n|apply thenD_e|apply thenD_r|apply inB_n|apply inB_r|refine z17 ?_|refine z21 ?_ (hc:=by apply w1)|refine z21 ?_ (hc:=by apply w2)|refine z1 ?_|refine z3 ?_|(refine z23 ?_ ?_ <;> intro hg)|((fail_if_success (apply ds_known;exact rfl));apply ds_guardP;exact rfl;exact rfl;exact rfl;all_goals intro hg)|((fail_if_success (apply ds_known;exact rfl));apply ds_guardB;exact rfl;exact rfl;exact rfl;all_goals intro hg))
     all_goals try (exfalso;first|omega|exact absurd hv (by assumption)|exact absurd (by assumption) hv)
     all_goals exact ret_b rfl hend.symm
    | false =>
     rw [h2] at w2
     repeat' (first|refine z0 ?_|refine z12 ?_|apply ds_nil|apply dw_seq2|refine z16 ?_|apply dw_block|apply dw_skip|apply dw_exit|apply dw_ret|refine z18 ?_|refine z19 ?_|apply thenD_n|apply thenD_e|apply thenD_r|apply inB_n|apply inB_r|refine z17 ?_|refine z21 ?_ (hc:=by apply w1)|refine z21 ?_ (hc:=by apply w2)|refine z1 ?_|refine z3 ?_|(refine z23 ?_ ?_ <;> intro hg)|((fail_if_success (apply ds_known;exact rfl));apply ds_guardP;exact rfl;exact rfl;exact rfl;all_goals intro hg)|((fail_if_success (apply ds_known;exact rfl));apply ds_guardB;exact rfl;exact rfl;exact rfl;all_goals intro hg))
     all_goals try (exfalso;first|omega|exact absurd hv (by assumption)|exact absurd (by assumption) hv)
     all_goals exact ret_b rfl hend.symm
 ·have hend:tmsOk l=true:=tms_end fun j hj=>hk j hj (by omega)
  repeat' (first|refine z0 ?_|refine z12 ?_|apply ds_nil|apply dw_seq2|refine z16 ?_|apply dw_block|apply dw_skip|apply dw_exit|apply dw_ret|refine z18 ?_|refine z19 ?_|apply thenD_n|apply thenD_e|apply thenD_r|apply inB_n|apply inB_r|refine z17 ?_|refine z1 ?_|refine z3 ?_|(refine z23 ?_ ?_ <;> intro hg)|((fail_if_success (apply ds_known;exact rfl));apply ds_guardP;exact rfl;exact rfl;exact rfl;all_goals intro hg))
  all_goals try (exfalso;omega)
  exact ret_b rfl hend.symm
abbrev truB (r:TRu):HB:=.blk 47 [.d (.int .i64 r.at_),.d (.str r.name),.d (.slice 2 (r.terms.map encTTm)),.d (.int .i64 r.fold),.d (.slice 5 (r.body.map encTLt))]
abbrev treeB (rs:List TRu):HB:=.blk 24 [.d (.slice 5 (rs.map encTRu))]
theorem next_all {α:Type} {p:α→Bool} {b:Bool} {l:List α} {i:Nat} (hk:∀ j (hj:j < l.length),j < i→p l[j]=b) (hi:i < l.length) (hb:p l[i]=b):∀ j (hj:j < l.length),j < i + 1→p l[j]=b:=fun j hj h=>by
 rcases Nat.lt_or_ge j i with h1|h1
 ·exact hk j hj h1
 ·have:j=i:=by omega
  subst this
  exact hb
theorem truOk_lit {r:TRu} {k:Nat} (hk:k < r.body.length) (h:tlOk r.body[k]=false):truOk r=false:=by
 rw [truOk_eq]
 cases hb:r.body.all tlOk with
 | false=>exact Bool.and_false _
 | true=>rw [List.all_eq_true.1 hb _ (List.getElem_mem hk)] at h;cases h
theorem truOk_all {r:TRu} (h0:headOk r=true) (h:∀ k (hk:k < r.body.length),tlOk r.body[k]=true):truOk r=true:=by
 rw [truOk_eq,h0,Bool.true_and]
 refine List.all_eq_true.2 fun x hx=>?_
 obtain⟨i,hi,rfl⟩:=List.mem_iff_getElem.1 hx
 exact h i hi
theorem headOk_true {r:TRu} (h:headOk r=true):nameS r.name=true∧tmsOk r.terms=true∧(0≤r.fold∧r.fold≤4)∧(r.fold=0∨(r.terms.length≠0∧r.body.length≠0)):=by
 unfold headOk at h
 simp only [Bool.and_eq_true,Bool.or_eq_true,decide_eq_true_eq] at h
 obtain⟨⟨⟨h1,h2⟩,h3⟩,h4⟩:=h
 exact⟨h1,h2,h3,h4.imp id fun⟨a,b⟩=>⟨fun e=>a (List.length_eq_zero_iff.1 e),fun e=>b (List.length_eq_zero_iff.1 e)⟩⟩
theorem headOk_false {r:TRu} (h:headOk r=false):nameS r.name=false∨tmsOk r.terms=false∨¬(0≤r.fold∧r.fold≤4)∨(r.fold≠0∧(r.terms.length=0∨r.body.length=0)):=by
 unfold headOk at h
 simp only [Bool.and_eq_false_iff,Bool.or_eq_false_iff,decide_eq_false_iff_not] at h
 rcases h with ((h|h)|h)|⟨h,h2⟩
 ·exact .inl h
 ·exact .inr (.inl h)
 ·exact .inr (.inr (.inl h))
 ·refine .inr (.inr (.inr ⟨h,?_⟩))
  rcases h2 with h2|h2
  ·exact .inl (by rw [Classical.not_not.1 h2];rfl)
  ·exact .inr (by rw [Classical.not_not.1 h2];rfl)
set_option maxHeartbeats 8000000 in
theorem checkTree_fn (rs:List TRu):Fn 9 [.agg [.d (.slice 5 (rs.map encTRu))]] (fun o=>o = .d (.int .i64 (checkT rs))):=by
 refine fnp_enter' _ Tryz.func9 rfl rfl (by kernel_rfl) ?_
 intro O w0 E0 β0
 have lr:(rs.map encTRu).length=rs.length:=List.length_map _
 by_cases h12:12 < rs.length
 ·have he:=checkT_2 (rs:=rs) (.inl h12)
  repeat' (first|refine z0 ?_|apply ds_nil|apply dw_seq2|refine z16 ?_|apply dw_block|apply dw_skip|apply dw_ret|apply thenD_n|apply thenD_r|refine z1 ?_|(refine z23 ?_ ?_ <;> intro hg)|fail)
  all_goals try (exfalso;omega)
  exact ret_i rfl he.symm
 repeat' (first|refine z0 ?_|apply ds_nil|apply dw_seq2|refine z16 ?_|apply dw_block|apply dw_skip|apply dw_ret|apply thenD_n|apply thenD_r|refine z1 ?_|(refine z23 ?_ ?_ <;> intro hg)|fail)
 all_goals try (exfalso;omega)
 refine ds_loop (ι:=Nat) (fun i=>⟨1,[(1,.loc 0 0),(3,.d (.int .i64 i))],[(0,treeB rs)]⟩)
  (fun i=>i≤rs.length∧∀ j (hj:j < rs.length),j < i→muchT rs[j]=false) (fun i=>rs.length - i) 0 ⟨Nat.zero_le _,fun j _ h=>absurd h (Nat.not_lt_zero j)⟩ (ent_ren id ⟨rfl,rfl,trivial⟩ ⟨rfl,trivial⟩ rfl rfl rfl rfl rfl rfl) ?_
 rintro i ⟨hi,hk⟩
 dsimp only at hi hk ⊢
 by_cases hil:i < rs.length
 ·have lt:(rs[i].terms.map encTTm).length=rs[i].terms.length:=List.length_map _
  have lb:(rs[i].body.map encTLt).length=rs[i].body.length:=List.length_map _
  by_cases h3:3 < rs[i].terms.length
  ·have he:=checkT_2 (rs:=rs) (.inr ⟨i,hil,muchT_1 (.inl h3)⟩)
   repeat' (first|refine z0 ?_|refine z12 ?_|apply ds_nil|apply dw_seq2|refine z16 ?_|apply dw_block|apply dw_skip|apply dw_exit|apply dw_ret|refine z18 ?_|apply thenD_n|apply thenD_e|apply thenD_r|apply inB_r|refine z17 ?_|refine z1 ?_|refine z3 ?_|(refine z23 ?_ ?_ <;> intro hg)|((fail_if_success (apply ds_known;exact rfl));apply ds_guardP;exact rfl;exact rfl;exact rfl;all_goals intro hg))
   all_goals try (exfalso;omega)
   all_goals exact ret_i rfl he.symm
  by_cases h4:4 < rs[i].body.length
  ·have he:=checkT_2 (rs:=rs) (.inr ⟨i,hil,muchT_1 (.inr (.inl h4))⟩)
   repeat' (first|refine z0 ?_|refine z12 ?_|apply ds_nil|apply dw_seq2|refine z16 ?_|apply dw_block|apply dw_skip|apply dw_exit|apply dw_ret|refine z18 ?_|apply thenD_n|apply thenD_e|apply thenD_r|apply inB_r|refine z17 ?_|refine z1 ?_|refine z3 ?_|(refine z23 ?_ ?_ <;> intro hg)|((fail_if_success (apply ds_known;exact rfl));apply ds_guardP;exact rfl;exact rfl;exact rfl;all_goals intro hg))
   all_goals try (exfalso;omega)
   all_goals exact ret_i rfl he.symm
  repeat' (first|refine z0 ?_|refine z12 ?_|apply ds_nil|apply dw_seq2|refine z16 ?_|apply dw_block|apply dw_skip|apply dw_exit|apply dw_ret|refine z18 ?_|apply thenD_n|apply thenD_e|apply thenD_r|apply inB_r|refine z17 ?_|refine z1 ?_|refine z3 ?_|(refine z23 ?_ ?_ <;> intro hg)|((fail_if_success (apply ds_known;exact rfl));apply ds_guardP;exact rfl;exact rfl;exact rfl;all_goals intro hg))
  all_goals try (exfalso;omega)
  refine ds_loop (ι:=Nat) (fun k=>⟨2,[(1,.loc 0 0),(3,.d (.int .i64 i)),(4,.loc 1 0),(5,.d (.int .i64 k))],[(0,treeB rs),(1,truB rs[i])]⟩)
   (fun k=>k≤rs[i].body.length∧∀ j (hj:j < rs[i].body.length),j < k→decide (3 < rs[i].body[j].terms.length)=false) (fun k=>rs[i].body.length - k) 0 ⟨Nat.zero_le _,fun j _ h=>absurd h (Nat.not_lt_zero j)⟩ (ent_ren id ⟨rfl,rfl,rfl,rfl,trivial⟩ ⟨rfl,rfl,trivial⟩ rfl rfl rfl rfl rfl rfl) ?_
  rintro k ⟨hkl,hkk⟩
  dsimp only at hkl hkk ⊢
  by_cases hkb:k < rs[i].body.length
  ·have lt2:(rs[i].body[k].terms.map encTTm).length=rs[i].body[k].terms.length:=List.length_map _
   by_cases h5:3 < rs[i].body[k].terms.length
   ·have he:=checkT_2 (rs:=rs) (.inr ⟨i,hil,muchT_1 (.inr (.inr ⟨k,hkb,h5⟩))⟩)
    repeat' (first|refine z0 ?_|apply ds_nil|apply dw_seq2|refine z16 ?_|apply dw_block|apply dw_skip|apply dw_exit|apply dw_ret|apply thenD_n|apply thenD_e|apply thenD_r|apply inB_n|apply inB_r|refine z17 ?_|(refine z23 ?_ ?_ <;> intro hg)|fail)
    all_goals try (exfalso;omega)
    all_goals exact ret_i rfl he.symm
   ·have hn:=next_all (p:=fun x:TLt=>decide (3 < x.terms.length)) hkk hkb (decide_eq_false h5)
    repeat' (first|refine z0 ?_|apply ds_nil|apply dw_seq2|refine z16 ?_|apply dw_block|apply dw_skip|apply dw_exit|apply dw_ret|apply thenD_n|apply thenD_e|apply thenD_r|apply inB_n|apply inB_r|refine z17 ?_|(refine z23 ?_ ?_ <;> intro hg)|fail)
    all_goals try (exfalso;omega)
    exact⟨k + 1,⟨by omega,hn⟩,ent_ren id ⟨rfl,rfl,rfl,rfl,trivial⟩ ⟨rfl,rfl,trivial⟩ rfl rfl rfl rfl rfl rfl,by show rs[i].body.length - (k + 1) < rs[i].body.length - k;omega⟩
  ·have hn:=next_all (p:=muchT) hk hil (muchT_0 h3 h4 fun j hj=>of_decide_eq_false (hkk j hj (by omega)))
   repeat' (first|refine z0 ?_|apply ds_nil|apply dw_seq2|refine z16 ?_|apply dw_block|apply dw_skip|apply dw_exit|apply dw_ret|apply thenD_n|apply thenD_e|apply thenD_r|apply inB_n|apply inB_r|refine z17 ?_|(refine z23 ?_ ?_ <;> intro hg)|fail)
   all_goals try (exfalso;omega)
   exact⟨i + 1,⟨by omega,hn⟩,ent_ren id ⟨rfl,rfl,trivial⟩ ⟨rfl,trivial⟩ rfl rfl rfl rfl rfl rfl,by show rs.length - (i + 1) < rs.length - i;omega⟩
 have hno:∀ j (hj:j < rs.length),muchT rs[j]=false:=fun j hj=>hk j hj (by omega)
 clear hk
 repeat' (first|refine z0 ?_|refine z12 ?_|apply ds_nil|apply dw_seq2|refine z16 ?_|apply dw_block|apply dw_skip|apply dw_exit|apply dw_ret|refine z18 ?_|apply thenD_n|apply thenD_e|apply thenD_r|apply inB_r|refine z17 ?_|refine z1 ?_|refine z3 ?_|(refine z23 ?_ ?_ <;> intro hg)|((fail_if_success (apply ds_known;exact rfl));apply ds_guardP;exact rfl;exact rfl;exact rfl;all_goals intro hg))
 all_goals try (exfalso;omega)
 refine ds_loop (ι:=Nat) (fun i=>⟨1,[(1,.loc 0 0),(6,.d (.int .i64 i))],[(0,treeB rs)]⟩)
  (fun i=>i≤rs.length∧∀ j (hj:j < rs.length),j < i→truOk rs[j]=true) (fun i=>rs.length - i) 0 ⟨Nat.zero_le _,fun j _ h=>absurd h (Nat.not_lt_zero j)⟩ (ent_ren id ⟨rfl,rfl,trivial⟩ ⟨rfl,trivial⟩ rfl rfl rfl rfl rfl rfl) ?_
 clear hi hil
 rintro i ⟨hi,hk⟩
 dsimp only at hi hk ⊢
 by_cases hil:i < rs.length
 ·have lt:(rs[i].terms.map encTTm).length=rs[i].terms.length:=List.length_map _
  have lb:(rs[i].body.map encTLt).length=rs[i].body.length:=List.length_map _
  have w1:=isName_fn rs[i].name
  rw [nameR_eq] at w1
  have w2:=areTerms_fn rs[i].terms
  have w3:=between_fn rs[i].fold 0 4
  repeat' ((fail_if_success (apply dw_stopR 18));(first|refine z0 ?_|apply ds_nil|apply dw_seq2|refine z16 ?_|apply dw_block|apply dw_skip|apply dw_exit|apply dw_ret|apply thenD_n|apply thenD_e|refine z17 ?_|refine z1 ?_|refine z3 ?_|(refine z23 ?_ ?_ <;> intro hg)|fail))
  all_goals try (exfalso;omega)
  refine dw_cut (ι:=Unit) (fun _=>⟨2,[(1,.loc 0 0),(6,.d (.int .i64 i)),(7,.loc 1 0)],[(0,treeB rs),(1,truB rs[i])]⟩) (fun _=>headOk rs[i]=true) ?_ ?_
  ·cases hh:headOk rs[i] with
   | false =>
    have he:=checkT_1 h12 hno hil (by rw [truOk_eq,hh];rfl)
    rcases headOk_false hh with h|h|h|⟨h,h'⟩
    ·rw [h] at w1
     repeat' (first|refine z0 ?_|refine z12 ?_|apply ds_nil|apply dw_seq2|refine z16 ?_|apply dw_ret|refine z18 ?_|apply thenD_n|apply thenD_r|apply inB_r|refine z21 ?_ (hc:=by apply w1)|fail)
     all_goals try (exfalso;omega)
     all_goals exact ret_i rfl he.symm
    ·rw [h] at w2
     cases hn:nameS rs[i].name
     all_goals
      rw [hn] at w1
      repeat' (first|refine z0 ?_|refine z12 ?_|apply ds_nil|apply dw_seq2|refine z16 ?_|apply dw_ret|refine z18 ?_|apply thenD_n|apply thenD_r|apply inB_r|refine z21 ?_ (hc:=by apply w1)|refine z21 ?_ (hc:=by apply w2)|fail)
     all_goals try (exfalso;omega)
     all_goals exact ret_i rfl he.symm
    ·rw [show (decide (0≤rs[i].fold) && decide (rs[i].fold≤4))=false by simp;omega] at w3
     cases hn:nameS rs[i].name <;> cases ht:tmsOk rs[i].terms
     all_goals
      rw [hn] at w1
      rw [ht] at w2
      repeat' (first|refine z0 ?_|refine z12 ?_|apply ds_nil|apply dw_seq2|refine z16 ?_|apply dw_ret|refine z18 ?_|apply thenD_n|apply thenD_r|apply inB_r|refine z21 ?_ (hc:=by apply w1)|refine z21 ?_ (hc:=by apply w2)|refine z21 ?_ (hc:=by apply w3)|fail)
     all_goals try (exfalso;omega)
     all_goals exact ret_i rfl he.symm
    ·cases hn:nameS rs[i].name <;> cases ht:tmsOk rs[i].terms <;> cases hf:(decide (0≤rs[i].fold) && decide (rs[i].fold≤4))
     all_goals
      rw [hn] at w1
      rw [ht] at w2
      rw [hf] at w3
      try simp only [Bool.and_eq_true,decide_eq_true_eq] at hf
      repeat' (first|refine z0 ?_|refine z12 ?_|apply ds_nil|apply dw_seq2|refine z16 ?_|apply dw_skip|apply dw_ret|refine z18 ?_|refine z19 ?_|apply thenD_n|apply thenD_r|apply inB_r|refine z21 ?_ (hc:=by apply w1)|refine z21 ?_ (hc:=by apply w2)|refine z21 ?_ (hc:=by apply w3)|(refine z23 ?_ ?_ <;> intro hg)|((fail_if_success (apply ds_known;exact rfl));apply ds_guardP;exact rfl;exact rfl;exact rfl;all_goals intro hg))
     all_goals try (exfalso;omega)
     all_goals exact ret_i rfl he.symm
   | true =>
    obtain⟨a1,a2,a3,a4⟩:=headOk_true hh
    rw [a1] at w1
    rw [a2] at w2
    rw [show (decide (0≤rs[i].fold) && decide (rs[i].fold≤4))=true by simp;omega] at w3
    repeat' (first|refine z0 ?_|refine z12 ?_|apply ds_nil|apply dw_seq2|refine z16 ?_|apply dw_skip|apply dw_ret|refine z18 ?_|refine z19 ?_|apply thenD_n|apply thenD_r|apply inB_r|refine z21 ?_ (hc:=by apply w1)|refine z21 ?_ (hc:=by apply w2)|refine z21 ?_ (hc:=by apply w3)|(refine z23 ?_ ?_ <;> intro hg)|((fail_if_success (apply ds_known;exact rfl));apply ds_guardP;exact rfl;exact rfl;exact rfl;all_goals intro hg))
    all_goals try (exfalso;omega)
    all_goals exact⟨(),rfl,ent_ren id ⟨rfl,rfl,rfl,trivial⟩ ⟨rfl,rfl,trivial⟩ rfl rfl rfl rfl rfl rfl⟩
  ·intro _ hh
   clear w1 w2 w3
   have hb4:rs[i].body.length≤4:=by
    have:=hno i hil
    unfold muchT at this
    simp only [Bool.or_eq_false_iff,decide_eq_false_iff_not] at this
    omega
   repeat' (first|refine z0 ?_|apply ds_nil|apply dw_seq2|refine z16 ?_|apply dw_block|apply thenD_n)
   refine ds_loop (ι:=Nat) (fun k=>⟨2,[(1,.loc 0 0),(6,.d (.int .i64 i)),(7,.loc 1 0),(8,.d (.int .i64 k))],[(0,treeB rs),(1,truB rs[i])]⟩)
    (fun k=>k≤rs[i].body.length∧∀ j (hj:j < rs[i].body.length),j < k→tlOk rs[i].body[j]=true) (fun k=>rs[i].body.length - k) 0 ⟨Nat.zero_le _,fun j _ h=>absurd h (Nat.not_lt_zero j)⟩ (ent_ren id ⟨rfl,rfl,rfl,rfl,trivial⟩ ⟨rfl,rfl,trivial⟩ rfl rfl rfl rfl rfl rfl) ?_
   rintro k ⟨hkl,hkk⟩
   dsimp only at hkl hkk ⊢
   by_cases hkb:k < rs[i].body.length
   ·have lt2:(rs[i].body[k].terms.map encTTm).length=rs[i].body[k].terms.length:=List.length_map _
    have v1:=areTerms_fn rs[i].body[k].terms
    have v2:=isName_fn rs[i].body[k].name
    have v3:=between_fn rs[i].body[k].op 1 4
    have v4:=between_fn rs[i].body[k].op 5 7
    rw [nameR_eq] at v2
    cases hb1:tmsOk rs[i].body[k].terms <;> cases hb2:nameS rs[i].body[k].name
    all_goals
     rw [hb1] at v1
     rw [hb2] at v2
     repeat' (first|refine z0 ?_|refine z12 ?_|apply ds_nil|apply dw_seq2|refine z16 ?_|apply dw_block|apply dw_skip|apply dw_exit|apply dw_ret|refine z18 ?_|refine z19 ?_|apply thenD_n|apply thenD_e|apply thenD_r|apply inB_n|apply inB_r|refine z17 ?_|refine z21 ?_ (hc:=by apply v1)|refine z21 ?_ (hc:=by apply v2)|refine z21 ?_ (hc:=by apply v3)|refine z21 ?_ (hc:=by apply v4)|refine z1 ?_|refine z3 ?_|(refine z23 ?_ ?_ <;> intro hg)|(apply dw_cond;exact rfl;all_goals intro hg)|((fail_if_success (apply ds_known;exact rfl));apply ds_guardP;exact rfl;exact rfl;exact rfl;all_goals intro hg)|((fail_if_success (apply ds_known;exact rfl));apply ds_guardB;exact rfl;exact rfl;exact rfl;all_goals intro hg))
    all_goals try (exfalso;omega)
    all_goals first
     | exact ret_i rfl (checkT_1 h12 hno hil (truOk_lit hkb (by unfold tlOk;first|(simp_all;done)|(simp_all;omega)))).symm
     | exact⟨k + 1,⟨by omega,next_all hkk hkb (by unfold tlOk;first|(simp_all;done)|(simp_all;omega))⟩,ent_ren id ⟨rfl,rfl,rfl,rfl,trivial⟩ ⟨rfl,rfl,trivial⟩ rfl rfl rfl rfl rfl rfl,by show rs[i].body.length - (k + 1) < rs[i].body.length - k;omega⟩
   ·have hn:=next_all (p:=truOk) hk hil (truOk_all hh fun j hj=>hkk j hj (by omega))
    repeat' (first|refine z0 ?_|apply ds_nil|apply dw_seq2|refine z16 ?_|apply dw_block|apply dw_skip|apply dw_exit|apply thenD_n|apply thenD_e|apply inB_n|refine z17 ?_|refine z1 ?_|refine z3 ?_|(refine z23 ?_ ?_ <;> intro hg)|fail)
    all_goals try (exfalso;omega)
    exact⟨i + 1,⟨by omega,hn⟩,ent_ren id ⟨rfl,rfl,trivial⟩ ⟨rfl,trivial⟩ rfl rfl rfl rfl rfl rfl,by show rs.length - (i + 1) < rs.length - i;omega⟩
 ·have he:=checkT_0 h12 hno fun j hj=>hk j hj (by omega)
  repeat' (first|refine z0 ?_|apply ds_nil|apply dw_seq2|refine z16 ?_|apply dw_block|apply dw_skip|apply dw_exit|apply dw_ret|apply thenD_n|apply thenD_e|refine z17 ?_|refine z1 ?_|refine z3 ?_|(refine z23 ?_ ?_ <;> intro hg)|fail)
  all_goals try (exfalso;omega)
  exact ret_i rfl he.symm
def sameTTm (a b:TTm):Bool:=decide (a.var=b.var) && decide (a.n=b.n)
def sameTLt (at_:Bool) (x y:TLt):Bool:=(!at_ || decide (x.at_=y.at_)) && (decide (x.kind=y.kind) && (decide (x.op=y.op) && (decide (x.name=y.name) && sameL sameTTm x.terms y.terms)))
def sameTRu (at_:Bool) (a b:TRu):Bool:=(!at_ || decide (a.at_=b.at_)) && (decide (a.name=b.name) && (decide (a.fold=b.fold) && (sameL sameTTm a.terms b.terms && sameL (sameTLt at_) a.body b.body)))
theorem ttm_not {x y:TTm} {b:Bool} (h:(!(decide (x.var=y.var) && (decide (x.n=y.n) && true))) = !b):sameTTm x y=b:=by
 unfold sameTTm
 rw [Bool.and_true] at h
 exact Bool.not_inj h

theorem same_refl (t:Tok) (k:Int):Tok.same false t ⟨t.kind,k,t.text⟩=true:=by
 unfold Tok.same
 simp
theorem sameAll_nn {α:Type} (p:α→α→Bool):sameAll p [] []=true:=by kernel_rfl
theorem sameAll_nc {α:Type} (p:α→α→Bool) (y:α) (ys:List α):sameAll p [] (y::ys)=false:=by kernel_rfl
theorem sameAll_cn {α:Type} (p:α→α→Bool) (x:α) (xs:List α):sameAll p (x::xs) []=false:=by kernel_rfl
theorem sameAll_cc {α:Type} (p:α→α→Bool) (x y:α) (xs ys:List α):sameAll p (x::xs) (y::ys)=(p x y && sameAll p xs ys):=by kernel_rfl
def stripL (x:TLt):TLt:=⟨x.kind,0,x.op,x.name,x.terms⟩
def stripR (r:TRu):TRu:=⟨0,r.name,r.terms,r.fold,r.body.map stripL⟩
structure SameTk (l m:List Tok):Prop where
 len:l.length=m.length
 at':∀ i:Nat,(l[i]?).map (fun t:Tok=>(t.kind,t.text))=(m[i]?).map (fun t:Tok=>(t.kind,t.text))
theorem sameTk_of:∀ {l m:List Tok},sameAll (Tok.same false) l m=true→SameTk l m
 | [],[],_=>⟨rfl,fun _=>rfl⟩
 | [],_::_,h=>by rw [sameAll_nc] at h;cases h
 | _::_,[],h=>by rw [sameAll_cn] at h;cases h
 | x::xs,y::ys,h=>by
  rw [sameAll_cc] at h
  rw [Bool.and_eq_true] at h
  have ih:=sameTk_of h.2
  have hx:=h.1
  unfold Tok.same at hx
  simp only [Bool.and_eq_true,decide_eq_true_eq] at hx
  refine⟨by simp [ih.len],fun i=>?_⟩
  cases i with
  | zero=>simp [hx.1.1,hx.1.2]
  | succ i=>simpa using ih.at' i
variable {l m : List Tok} (h : SameTk l m)
include h
theorem seesT_tk:seesT l=seesT m:=by
 funext i s
 have:=h.at' i
 unfold seesT
 cases h1:l[i]? <;> cases h2:m[i]? <;> simp_all
theorem nameT_tk:nameT l=nameT m:=by
 funext i
 have:=h.at' i
 unfold nameT
 cases h1:l[i]? <;> cases h2:m[i]? <;> simp_all
theorem isTestT_tk:isTestT l=isTestT m:=by
 funext i
 have:=h.at' i
 unfold isTestT
 cases h1:l[i]? <;> cases h2:m[i]? <;> simp_all
theorem termT_tk:termT l=termT m:=by
 funext i
 unfold termT
 rw [seesT_tk h]
 cases seesT m i ⟨#[45]⟩ with
 | true =>
  dsimp only
  have:=h.at' (i + 1)
  cases h1:l[i + 1]? <;> cases h2:m[i + 1]? <;> simp_all
 | false =>
  dsimp only
  have:=h.at' i
  cases h1:l[i]? <;> cases h2:m[i]? <;> simp_all
theorem firstT_tk:firstT l=firstT m:=by
 funext i ws
 induction ws with
 | nil=>rfl
 | cons w ws ih =>
  funext n
  unfold firstT
  rw [seesT_tk h,ih]
theorem firstQ_tk:firstQ l=firstQ m:=by
 funext ws j q
 unfold firstQ
 rw [firstT_tk h]
theorem foldT_tk:foldT l=foldT m:=by
 funext a b c
 unfold foldT
 rw [firstT_tk h]
theorem termsGo_tk:termsGo l=termsGo m:=by
 funext head n
 induction n with
 | zero=>rfl
 | succ n ih =>
  funext i acc
  rw [termsGo_succ,termsGo_succ,termT_tk h,foldT_tk h,seesT_tk h,ih]
theorem termsT_tk:termsT l=termsT m:=by
 funext i head
 unfold termsT
 rw [seesT_tk h,termsGo_tk h,h.len]
theorem testT_tk:testT l=testT m:=by
 funext i
 unfold testT
 rw [termT_tk h,firstQ_tk h,seesT_tk h]
def mapL (p:PR TLt):PR TLt:=p.map fun q=>(stripL q.1,q.2)
theorem litT_tk (e e':Int) (i:Nat):mapL (litT l e i)=mapL (litT m e' i):=by
 unfold litT
 rw [seesT_tk h,nameT_tk h,isTestT_tk h,testT_tk h,termsT_tk h]
 cases seesT m i ⟨#[110,111,116]⟩ with
 | true =>
  dsimp only
  cases nameT m (i + 1) with
  | error k=>rfl
  | ok p =>
   obtain⟨s,k⟩:=p
   dsimp only
   cases termsT m k false with
   | error k=>rfl
   | ok p=>rfl
 | false =>
  dsimp only
  cases isTestT m i with
  | true =>
   dsimp only
   cases testT m i with
   | error k=>rfl
   | ok p=>rfl
  | false =>
   dsimp only
   cases nameT m i with
   | error k=>rfl
   | ok p =>
    obtain⟨s,k⟩:=p
    dsimp only
    cases termsT m k false with
    | error k=>rfl
    | ok p=>rfl
def mapLs (p:PR (List TLt)):PR (List TLt):=p.map fun q=>(q.1.map stripL,q.2)
theorem litsGo_tk (e e':Int):∀ (n i:Nat) (a b:List TLt),a.map stripL=b.map stripL→mapLs (litsGo l e n i a)=mapLs (litsGo m e' n i b)
 | 0,_,_,_,_=>rfl
 | n + 1,i,a,b,hab=>by
  rw [litsGo_succ,litsGo_succ]
  have hl:=litT_tk h e e' i
  cases h1:litT l e i with
  | error k =>
   rw [h1] at hl
   cases h2:litT m e' i with
   | error k'=>rw [h2] at hl;injection hl with hl;subst hl;rfl
   | ok q=>rw [h2] at hl;cases hl
  | ok p =>
   rw [h1] at hl
   cases h2:litT m e' i with
   | error k'=>rw [h2] at hl;cases hl
   | ok q =>
    rw [h2] at hl
    obtain⟨x,k⟩:=p
    obtain⟨y,k'⟩:=q
    injection hl with hl
    injection hl with hx hk
    dsimp only at hx hk ⊢
    subst hk
    have hab':(a++[x]).map stripL=(b++[y]).map stripL:=by rw [List.map_append,List.map_append,hab,List.map_singleton,List.map_singleton,hx]
    rw [seesT_tk h]
    split
    ·exact litsGo_tk e e' n (k + 1) _ _ hab'
    ·show Except.ok ((a++[x]).map stripL,k)=Except.ok ((b++[y]).map stripL,k)
     rw [hab']
def mapR (p:PR TRu):PR TRu:=p.map fun q=>(stripR q.1,q.2)
theorem ruleT_tk (e e':Int) (i:Nat):mapR (ruleT l e i)=mapR (ruleT m e' i):=by
 unfold ruleT
 rw [seesT_tk h,nameT_tk h,termsT_tk h,h.len]
 cases nameT m i with
 | error k=>rfl
 | ok p =>
  obtain⟨s,k⟩:=p
  dsimp only
  cases termsT m k true with
  | error k=>rfl
  | ok p =>
   obtain⟨⟨ts,f⟩,j⟩:=p
   dsimp only
   split
   ·rfl
   ·split
    ·have hl:=litsGo_tk h e e' (m.length + 1) (j + 1) [] [] rfl
     cases h1:litsGo l e (m.length + 1) (j + 1) [] with
     | error k =>
      rw [h1] at hl
      cases h2:litsGo m e' (m.length + 1) (j + 1) [] with
      | error k'=>rw [h2] at hl;injection hl with hl;subst hl;rfl
      | ok q=>rw [h2] at hl;cases hl
     | ok p =>
      rw [h1] at hl
      cases h2:litsGo m e' (m.length + 1) (j + 1) [] with
      | error k'=>rw [h2] at hl;cases hl
      | ok q =>
       rw [h2] at hl
       obtain⟨x,k⟩:=p
       obtain⟨y,k'⟩:=q
       injection hl with hl
       injection hl with hx hk
       dsimp only at hx hk ⊢
       subst hk
       split
       ·show Except.ok _=Except.ok _
        unfold stripR
        dsimp only
        rw [hx]
       ·rfl
    ·rfl
def mapRs (p:Except Nat (List TRu)):Except Nat (List TRu):=p.map fun q=>q.map stripR
theorem rulesGo_tk (e e':Int):∀ (n i:Nat) (a b:List TRu),a.map stripR=b.map stripR→mapRs (rulesGo l e n i a)=mapRs (rulesGo m e' n i b)
 | 0,_,a,b,hab=>by show Except.ok (a.map stripR)=Except.ok (b.map stripR);rw [hab]
 | n + 1,i,a,b,hab=>by
  rw [rulesGo_succ,rulesGo_succ,h.len]
  split
  ·have hl:=ruleT_tk h e e' i
   cases h1:ruleT l e i with
   | error k =>
    rw [h1] at hl
    cases h2:ruleT m e' i with
    | error k'=>rw [h2] at hl;injection hl with hl;subst hl;rfl
    | ok q=>rw [h2] at hl;cases hl
   | ok p =>
    rw [h1] at hl
    cases h2:ruleT m e' i with
    | error k'=>rw [h2] at hl;cases hl
    | ok q =>
     rw [h2] at hl
     obtain⟨x,k⟩:=p
     obtain⟨y,k'⟩:=q
     injection hl with hl
     injection hl with hx hk
     dsimp only at hx hk ⊢
     subst hk
     exact rulesGo_tk e e' n k _ _ (by rw [List.map_append,List.map_append,hab,List.map_singleton,List.map_singleton,hx])
  ·show Except.ok (a.map stripR)=Except.ok (b.map stripR)
   rw [hab]
omit h
theorem tlOk_strip (x:TLt):tlOk (stripL x)=tlOk x:=rfl
theorem all_map' {α β:Type} (f:α→β) (p:β→Bool) (q:α→Bool) (hp:∀ x,p (f x)=q x):∀ l:List α,(l.map f).all p=l.all q
 | []=>rfl
 | a::l=>by rw [List.map_cons,List.all_cons,List.all_cons,hp,all_map' f p q hp l]
theorem any_map' {α β:Type} (f:α→β) (p:β→Bool) (q:α→Bool) (hp:∀ x,p (f x)=q x):∀ l:List α,(l.map f).any p=l.any q
 | []=>rfl
 | a::l=>by rw [List.map_cons,List.any_cons,List.any_cons,hp,any_map' f p q hp l]
theorem truOk_strip (r:TRu):truOk (stripR r)=truOk r:=by
 unfold truOk stripR
 dsimp only
 rw [all_map' stripL tlOk tlOk tlOk_strip]
 have:(decide (r.body.map stripL≠[]))=decide (r.body≠[]):=by
  apply decide_eq_decide.2
  rw [ne_eq,List.map_eq_nil_iff]
 rw [this]
theorem muchT_strip (r:TRu):muchT (stripR r)=muchT r:=by
 unfold muchT stripR
 dsimp only
 rw [List.length_map,any_map' stripL _ (fun x=>decide (3 < x.terms.length)) (fun x=>rfl)]
theorem checkT_strip (rs:List TRu):checkT (rs.map stripR)=checkT rs:=by
 unfold checkT
 rw [List.length_map,all_map' stripR truOk truOk truOk_strip,any_map' stripR muchT muchT muchT_strip]
theorem sameTTms_refl (l:List TTm):sameL sameTTm l l=true:=sameL_refl (fun x=>by unfold sameTTm;simp) l
theorem sameTLt_strip {x y:TLt} (h:stripL x=stripL y):sameTLt false x y=true:=by
 unfold stripL at h
 injection h with h1 h2 h3 h4 h5
 unfold sameTLt
 rw [h1,h3,h4,h5,sameTTms_refl]
 simp
theorem sameL_strip {α β:Type} {f:α→β} {p:α→α→Bool} (hp:∀ x y,f x=f y→p x y=true):∀ {a b:List α},a.map f=b.map f→sameL p a b=true
 | [],[],_=>rfl
 | [],_::_,h=>by cases h
 | _::_,[],h=>by cases h
 | x::a,y::b,h=>by
  rw [List.map_cons,List.map_cons] at h
  injection h with h1 h2
  unfold sameL
  rw [hp x y h1,sameL_strip hp h2]
  rfl
theorem sameTRu_strip {x y:TRu} (h:stripR x=stripR y):sameTRu false x y=true:=by
 unfold stripR at h
 injection h with h1 h2 h3 h4 h5
 unfold sameTRu
 rw [h2,h3,h4,sameTTms_refl,sameL_strip (fun x y=>sameTLt_strip) h5]
 simp
abbrev tz (kind:Int) (s:ByteArray):Tok:=⟨kind,0,s⟩
abbrev lpS:ByteArray:=⟨#[40]⟩
abbrev rpS:ByteArray:=⟨#[41]⟩
abbrev coS:ByteArray:=⟨#[44]⟩
abbrev miS:ByteArray:=⟨#[45]⟩
abbrev doS:ByteArray:=⟨#[46]⟩
abbrev eqZ:ByteArray:=⟨#[61]⟩
abbrev ifZ:ByteArray:=⟨#[58,45]⟩
abbrev noS:ByteArray:=⟨#[110,111,116]⟩
theorem at_head {l r:List Tok} {i:Nat} {x:Tok} (h:l.drop i=x::r):l[i]? = some x∧l.drop (i + 1)=r:=by
 have hi:i < l.length:=by
  rcases Nat.lt_or_ge i l.length with h2|h2
  ·exact h2
  ·rw [List.drop_eq_nil_of_le h2] at h;cases h
 rw [List.drop_eq_getElem_cons hi] at h
 injection h with h1 h2
 exact⟨by rw [List.getElem?_eq_getElem hi,h1],h2⟩
theorem sees_head {l r:List Tok} {i:Nat} {x:Tok} (h:l.drop i=x::r) (s:ByteArray):seesT l i s=decide (x.text=s):=by
 unfold seesT
 rw [(at_head h).1]
theorem numT_itoa:∀ (u:Nat),numT (itoaB (u:Int))=u:=by
 intro u
 induction u using Nat.strongRecOn with
 | _ u ih =>
 by_cases h:u < 10
 ·rw [itoaB_lt h]
  have hb:∀ k:Fin 10,numT ⟨#[UInt8.ofNat (48 + k.val)]⟩=(k.val:Int):=by decide
  exact hb ⟨u,h⟩
 ·have h1:=ih (u / 10) (by omega)
  rw [itoaB_ge h]
  have hb:∀ k:Fin 10,itoaB ((k.val:Nat):Int)=⟨#[UInt8.ofNat (48 + k.val)]⟩:=fun k=>itoaB_lt k.isLt
  have hc:∀ (a:ByteArray) (k:Fin 10),numT (a++⟨#[UInt8.ofNat (48 + k.val)]⟩)=10 * numT a + k.val:=by
   intro a k
   unfold numT
   simp only [ByteArray.data_append,Array.toList_append,List.foldl_append]
   have:∀ (n:Int) (k:Fin 10),List.foldl (fun (n:Int) (c:UInt8)=>10 * n + ((c.toNat:Int) - 48)) n [UInt8.ofNat (48 + k.val)]=10 * n + (k.val:Int):=by
    intro n k
    have hk:((UInt8.ofNat (48 + k.val)).toNat:Int) - 48=k.val:=by
     have:∀ k:Fin 10,((UInt8.ofNat (48 + k.val)).toNat:Int) - 48=k.val:=by decide
     exact this k
    simp only [List.foldl_cons,List.foldl_nil,hk]
   exact this _ k
  have h10:u % 10 < 10:=Nat.mod_lt _ (by omega)
  rw [hb ⟨u % 10,h10⟩,hc _ ⟨u % 10,h10⟩,h1]
  show 10 * ((u / 10:Nat):Int) + ((u % 10:Nat):Int)=u
  omega
def tmK (t:TTm):List Tok:=if t.var=⟨#[]⟩ then (if t.n < 0 then [tz 4 miS,tz 3 (itoaB (-t.n))] else [tz 3 (itoaB t.n)]) else [tz 2 t.var]
theorem term_back {l r:List Tok} {i:Nat} {t:TTm} (ht:tmOk t=true) (h:l.drop i=tmK t++r):termT l i = .ok (t,i + (tmK t).length)∧l.drop (i + (tmK t).length)=r:=by
 unfold tmK at h ⊢
 unfold tmOk at ht
 by_cases hv:t.var=⟨#[]⟩
 ·rw [if_pos hv] at h ht ⊢
  by_cases hn:t.n < 0
  ·rw [if_pos hn] at h ⊢
   have h1:=at_head h
   have h2:=at_head h1.2
   obtain⟨u,hu⟩:∃ u:Nat,-t.n=(u:Int):=⟨t.n.natAbs,by omega⟩
   have hnum:=numT_itoa u
   rw [← hu] at hnum
   refine⟨?_,h2.2⟩
   unfold termT
   rw [sees_head h,decide_eq_true rfl]
   dsimp only
   rw [h2.1]
   dsimp only
   have h48:itoaB (-t.n)≠⟨#[48]⟩:=by
    intro e
    rw [e] at hnum
    have:numT ⟨#[48]⟩=0:=by decide
    omega
   rw [if_neg (by rintro⟨e,_⟩;cases e),if_neg (by rintro (e|⟨_,e⟩);exact e rfl;exact h48 e),hnum]
   have:(⟨⟨#[]⟩,-1 * -t.n⟩:TTm)=t:=by
    cases t
    simp only at hv
    subst hv
    simp
   rw [this]
   rfl
  ·rw [if_neg hn] at h ⊢
   have h1:=at_head h
   obtain⟨u,hu⟩:∃ u:Nat,t.n=(u:Int):=⟨t.n.natAbs,by omega⟩
   have hnum:=numT_itoa u
   rw [← hu] at hnum
   refine⟨?_,h1.2⟩
   have hm:itoaB t.n≠miS:=by
    intro e
    rw [e] at hnum
    have:numT miS = -3:=by decide
    omega
   unfold termT
   rw [sees_head h,decide_eq_false hm]
   dsimp only
   rw [h1.1]
   dsimp only
   rw [if_neg (by rintro⟨e,_⟩;cases e),if_neg (by rintro (e|⟨e,_⟩);exact e rfl;cases e),hnum]
   have:(⟨⟨#[]⟩,1 * t.n⟩:TTm)=t:=by
    cases t
    simp only at hv
    subst hv
    simp
   rw [this]
   rfl
 ·rw [if_neg hv] at h ht ⊢
  have h1:=at_head h
  simp only [Bool.and_eq_true,decide_eq_true_eq] at ht
  refine⟨?_,h1.2⟩
  have hm:t.var≠miS:=by
   intro e
   rw [e] at ht
   exact absurd ht.1 (by rw [show oneS 2 miS=false by kernel_rfl];exact Bool.false_ne_true)
  unfold termT
  rw [sees_head h,decide_eq_false hm]
  dsimp only
  rw [h1.1]
  dsimp only
  rw [if_pos ⟨rfl,rfl⟩]
  have:(⟨t.var,0⟩:TTm)=t:=by
   cases t
   simp only at ht
   rw [ht.2]
  rw [this]
  rfl
theorem itoa_digits:∀ (u:Nat),∀ c∈(itoaB (u:Int)).data.toList,digitB c=true:=by
 intro u
 induction u using Nat.strongRecOn with
 | _ u ih =>
 intro c hc
 have hb:∀ k:Fin 10,∀ c∈[UInt8.ofNat (48 + k.val)],digitB c=true:=by
  unfold digitB
  decide
 by_cases h:u < 10
 ·rw [itoaB_lt h] at hc
  exact hb ⟨u,h⟩ c hc
 ·rw [itoaB_ge h,itoaB_lt (Nat.mod_lt u (by omega:0 < 10))] at hc
  simp only [ByteArray.data_append,Array.toList_append,List.mem_append] at hc
  rcases hc with hc|hc
  ·exact ih (u / 10) (by omega) c hc
  ·exact hb ⟨u % 10,Nat.mod_lt u (by omega)⟩ c hc
theorem itoa_not {n:Int} (hn:0≤n) {s:ByteArray} (hs:∃ c∈s.data.toList,digitB c=false):itoaB n≠s:=by
 intro e
 obtain⟨u,rfl⟩:=Int.eq_ofNat_of_zero_le hn
 obtain⟨c,hc,hd⟩:=hs
 rw [itoa_digits u c (by rw [show itoaB ((u:Nat):Int)=s from e];exact hc)] at hd
 cases hd
structure NotTm (s:ByteArray):Prop where
 var:oneS 2 s=false
 dig:∃ c∈s.data.toList,digitB c=false
 neg:s≠miS
theorem tm_head {t:TTm} (ht:tmOk t=true):∃ x r,tmK t=x::r∧∀ s,NotTm s→x.text≠s:=by
 unfold tmK
 unfold tmOk at ht
 by_cases hv:t.var=⟨#[]⟩
 ·rw [if_pos hv]
  by_cases hn:t.n < 0
  ·rw [if_pos hn]
   exact⟨_,_,rfl,fun s hs e=>hs.neg e.symm⟩
  ·rw [if_neg hn]
   exact⟨_,_,rfl,fun s hs=>itoa_not (by omega) hs.dig⟩
 ·rw [if_neg hv] at ht ⊢
  simp only [Bool.and_eq_true,decide_eq_true_eq] at ht
  exact⟨_,_,rfl,fun s hs e=>by
   rw [show t.var=s from e,hs.var] at ht
   exact absurd ht.1 Bool.false_ne_true⟩
theorem notTm_rp:NotTm rpS:=⟨by kernel_rfl,⟨41,by decide,by unfold digitB;decide⟩,by decide⟩
theorem notTm_word:∀ s∈foldsT,NotTm s:=by
 intro s hs
 unfold foldsT wordsL at hs
 simp only [List.drop_succ_cons,List.drop_zero,List.mem_cons,List.not_mem_nil,or_false] at hs
 rcases hs with rfl|rfl|rfl|rfl
 ·exact⟨by kernel_rfl,⟨99,by decide,by unfold digitB;decide⟩,by decide⟩
 ·exact⟨by kernel_rfl,⟨115,by decide,by unfold digitB;decide⟩,by decide⟩
 ·exact⟨by kernel_rfl,⟨108,by decide,by unfold digitB;decide⟩,by decide⟩
 ·exact⟨by kernel_rfl,⟨109,by decide,by unfold digitB;decide⟩,by decide⟩
theorem first_none {l r:List Tok} {i:Nat} {x:Tok} (h:l.drop i=x::r):∀ (ws:List ByteArray) (n:Int),(∀ s∈ws,x.text≠s)→firstT l i ws n=0
 | [],_,_=>rfl
 | s::ws,n,hs=>by
  unfold firstT
  rw [sees_head h,decide_eq_false (hs s (List.mem_cons_self ..)),if_neg Bool.false_ne_true]
  exact first_none h ws (n + 1) fun u hu=>hs u (List.mem_cons_of_mem _ hu)
def tmsK:List TTm→List Tok
 | []=>[tz 4 rpS]
 | [t]=>tmK t++[tz 4 rpS]
 | t::u::l=>tmK t++tz 4 coS::tmsK (u::l)
def tmsF (f:Int):List TTm→List Tok
 | []=>[tz 4 rpS]
 | [t]=>tz 1 (wordsL.getD f.toNat ⟨#[]⟩)::(tmK t++[tz 4 rpS])
 | t::u::l=>tmK t++tz 4 coS::tmsF f (u::l)
theorem first_tm {l r:List Tok} {i:Nat} {t:TTm} (ht:tmOk t=true) (h:l.drop i=tmK t++r):firstT l i foldsT 1=0:=by
 obtain⟨x,q,hx,hs⟩:=tm_head ht
 rw [hx] at h
 exact first_none (r:=q++r) h foldsT 1 fun s hm=>hs s (notTm_word s hm)
theorem sees_not {l r:List Tok} {i:Nat} {t:TTm} (ht:tmOk t=true) (h:l.drop i=tmK t++r) {s:ByteArray} (hn:NotTm s):seesT l i s=false:=by
 obtain⟨x,q,hx,hs⟩:=tm_head ht
 rw [hx] at h
 rw [sees_head (r:=q++r) h,decide_eq_false (hs s hn)]
theorem terms_back {l r:List Tok} (head:Bool):∀ (ts:List TTm) (n i:Nat) (acc:List TTm),ts≠[]→(∀ t∈ts,tmOk t=true)→ts.length≤n→l.drop i=tmsK ts++r→termsGo l head n i acc = .ok ((acc++ts,0),i + (tmsK ts).length)∧l.drop (i + (tmsK ts).length)=r
 | [],_,_,_,h,_,_,_=>absurd rfl h
 | _::_,0,_,_,_,_,h,_=>by simp at h
 | [t],n + 1,i,acc,_,ht,_,h=>by
  have h0:=ht t (List.mem_cons_self ..)
  have h:l.drop i=tmK t++(tz 4 rpS::r):=by rw [h];simp [tmsK]
  obtain⟨a1,a2⟩:=term_back h0 h
  have hf:foldT l head i 0=0:=by cases head;rfl;exact first_tm h0 h
  have b1:=at_head a2
  refine⟨?_,by
   show l.drop (i + (tmK t++[tz 4 rpS]).length)=r
   rw [List.length_append,← Nat.add_assoc]
   exact b1.2⟩
  rw [termsGo_succ,hf,if_neg (fun h=>h rfl),a1]
  dsimp only
  rw [sees_head a2,sees_head a2,if_pos (.inr (decide_eq_false (by decide))),if_pos (decide_eq_true rfl)]
  show _=Except.ok ((acc++[t],0),i + (tmK t++[tz 4 rpS]).length)
  rw [List.length_append,← Nat.add_assoc]
  rfl
 | t::u::ts,n + 1,i,acc,_,ht,hn,h=>by
  have h0:=ht t (List.mem_cons_self ..)
  have h:l.drop i=tmK t++(tz 4 coS::(tmsK (u::ts)++r)):=by rw [h];simp [tmsK]
  obtain⟨a1,a2⟩:=term_back h0 h
  have hf:foldT l head i 0=0:=by cases head;rfl;exact first_tm h0 h
  have b1:=at_head a2
  obtain⟨c1,c2⟩:=terms_back head (u::ts) n (i + (tmK t).length + 1) (acc++[t]) (by simp) (fun x hx=>ht x (List.mem_cons_of_mem _ hx)) (by simp only [List.length_cons] at hn ⊢;omega) b1.2
  have e:i + (tmsK (t::u::ts)).length=i + (tmK t).length + 1 + (tmsK (u::ts)).length:=by
   show i + (tmK t++tz 4 coS::tmsK (u::ts)).length=_
   rw [List.length_append,List.length_cons]
   omega
  rw [e]
  refine⟨?_,c2⟩
  rw [termsGo_succ,hf,if_neg (fun h=>h rfl),a1]
  dsimp only
  rw [sees_head a2,if_neg (by rintro (h|h);exact h rfl;rw [decide_eq_true rfl] at h;cases h),c1,List.append_assoc]
  rfl
inductive Pc where
 | tok (t:Tok)
 | sp (c:UInt8)
def textP:List Pc→List UInt8
 | []=>[]
 | .tok t::l=>t.text.data.toList++textP l
 | .sp c::l=>c::textP l
def toksP:List Pc→List Tok
 | []=>[]
 | .tok t::l=>t::toksP l
 | .sp _::l=>toksP l
def pcOk:List Pc→Prop
 | []=>True
 | .tok t::l=>tokOk t=true∧tokAt (t.text.data.toList++textP l)=(t.kind,t.text.size)∧pcOk l
 | .sp c::l=>(c=32∨c=10)∧pcOk l
theorem textP_app:∀ (a b:List Pc),textP (a++b)=textP a++textP b
 | [],_=>rfl
 | .tok t::a,b=>by
  show t.text.data.toList++textP (a++b)=(t.text.data.toList++textP a)++textP b
  rw [textP_app a b,List.append_assoc]
 | .sp c::a,b=>by
  show c::textP (a++b)=c::textP a++textP b
  rw [textP_app a b]
  rfl
theorem toksP_app:∀ (a b:List Pc),toksP (a++b)=toksP a++toksP b
 | [],_=>rfl
 | .tok t::a,b=>by
  show t::toksP (a++b)=(t::toksP a)++toksP b
  rw [toksP_app a b]
  rfl
 | .sp c::a,b=>toksP_app a b
theorem scan_pcs (s:ByteArray):∀ (l:List Pc) (i:Nat),pcOk l→s.data.toList.drop i=textP l→∃ m,scanAt s false i = .ok m∧sameAll (Tok.same false) (toksP l) m=true
 | [],i,_,hd=>by
  have:=drop_size s i
  rw [hd] at this
  exact⟨[],scanAt_end s false i (by simp [textP] at this;omega),sameAll_nn _⟩
 | .sp c::l,i,hok,hd=>by
  have hd:s.data.toList.drop i=c::textP l:=hd
  have hs:=drop_size s i
  rw [hd,List.length_cons] at hs
  have hi:i < s.size:=by omega
  have hb:=byte_of_drop s i hi _ _ hd
  have h6:=scanAt_blank s i hi (by rw [hb];rcases hok.1 with h|h <;> rw [h] <;> rfl) (by rw [hb];rcases hok.1 with h|h <;> rw [h] <;> rfl)
  have hd3:s.data.toList.drop (i + 1)=textP l:=by
   rw [← List.drop_drop,hd];rfl
  rw [h6]
  exact scan_pcs s l (i + 1) hok.2 hd3
 | .tok t::l,i,hok,hd=>by
  have hd:s.data.toList.drop i=t.text.data.toList++textP l:=hd
  obtain⟨hok1,hta,hok2⟩:=hok
  obtain⟨h0,h1,h2,h3⟩:=ok_parts hok1
  obtain⟨l0,hl0⟩:=first_byte t.text h0
  have hlen:t.text.data.toList.length=t.text.size:=Array.length_toList
  have hs:=drop_size s i
  rw [hd,List.length_append,hlen] at hs
  have hi:i < s.size:=by omega
  have hb:=byte_of_drop s i hi _ (l0++textP l) (by rw [hd,hl0];rfl)
  have h5:=scan_one s i t.kind t.text.size hi (by rw [hd];exact hta) (by rw [hb];exact h3)
  have hd2:=drop_append_right s i _ _ hd
  rw [hlen] at hd2
  obtain⟨m,hm,hsame⟩:=scan_pcs s l (i + t.text.size) hok2 hd2
  rw [hm] at h5
  refine⟨_,h5,?_⟩
  have hx:s.extract i (i + t.text.size)=t.text:=bytes_inj (by rw [ext_list,hd,← hlen];exact List.take_left)
  rw [hx]
  show sameAll (Tok.same false) (t::toksP l) (_::m)=true
  rw [sameAll_cc,same_refl,Bool.true_and]
  exact hsame
def stpB (c:UInt8):Bool:=c == 32 || c == 40 || c == 41 || c == 44 || c == 46 || c == 10
def stp (l:List UInt8):Prop:=∃ c r,l=c::r∧stpB c=true
theorem stpB_cases {c:UInt8} (h:stpB c=true):c=32∨c=40∨c=41∨c=44∨c=46∨c=10:=by
 unfold stpB at h
 simp only [Bool.or_eq_true,beq_iff_eq] at h
 rcases h with ((((h|h)|h)|h)|h)|h
 ·exact .inl h
 ·exact .inr (.inl h)
 ·exact .inr (.inr (.inl h))
 ·exact .inr (.inr (.inr (.inl h)))
 ·exact .inr (.inr (.inr (.inr (.inl h))))
 ·exact .inr (.inr (.inr (.inr (.inr h))))
theorem stp_alnum {c:UInt8} (h:stpB c=true):alnumB c=false:=by
 rcases stpB_cases h with rfl|rfl|rfl|rfl|rfl|rfl <;> (unfold alnumB letterB smallB greatB digitB;decide)
theorem stp_digit {c:UInt8} (h:stpB c=true):digitB c=false:=by
 rcases stpB_cases h with rfl|rfl|rfl|rfl|rfl|rfl <;> (unfold digitB;decide)
theorem stp_pair {c:UInt8} (h:stpB c=true) (a:UInt8) (r:List UInt8):pairB (a::c::r)=false:=by
 unfold pairB
 rcases stpB_cases h with rfl|rfl|rfl|rfl|rfl|rfl <;> simp
theorem tokAt_stp (u:List UInt8) (k:Int) (hu:u≠[]) (h:tokAt u=(k,u.length)) {w:List UInt8} (hw:stp w):tokAt (u++w)=(k,u.length):=by
 obtain⟨x,r,rfl,hx⟩:=hw
 cases u with
 | nil=>exact absurd rfl hu
 | cons c l =>
  rw [List.cons_append]
  rw [tokAt_cons] at h ⊢
  by_cases a:letterB c=true
  ·rw [if_pos a] at h ⊢
   injection h with h1 h2
   rw [h1,takeW_full alnumB x r (stp_alnum hx) l (by simp only [List.length_cons] at h2;omega)]
   simp only [List.length_cons];rw [Nat.add_comm]
  ·rw [if_neg a] at h ⊢
   by_cases b:digitB c=true
   ·rw [if_pos b] at h ⊢
    injection h with h1 h2
    rw [h1,takeW_full digitB x r (stp_digit hx) l (by simp only [List.length_cons] at h2;omega)]
    simp only [List.length_cons];rw [Nat.add_comm]
   ·rw [if_neg b] at h ⊢
    by_cases d:pairB (c::l)=true
    ·rw [if_pos d] at h
     injection h with h1 h2
     match l,h2,d with
     | [b'],h2,d =>
      rw [List.singleton_append,pairB_cons2 c b' (x::r) [],if_pos d,h1]
      rfl
    ·rw [if_neg d] at h
     by_cases e:signs.contains c=true
     ·rw [if_pos e] at h
      injection h with h1 h2
      match l,h2 with
      | [],_ =>
       rw [List.nil_append,if_neg (by rw [stp_pair hx];exact Bool.false_ne_true),if_pos e,h1]
       rfl
     ·rw [if_neg e] at h
      injection h with h1 h2
      simp at h2
theorem ok_tok {t:Tok} {l:List Pc} (h:tokOk t=true) (hs:stp (textP l)) (hl:pcOk l):pcOk (.tok t::l):=by
 obtain⟨h0,h1,h2,h3⟩:=ok_parts h
 obtain⟨l0,hl0⟩:=first_byte t.text h0
 have hlen:t.text.data.toList.length=t.text.size:=Array.length_toList
 have:=tokAt_stp t.text.data.toList t.kind (by rw [hl0];exact List.cons_ne_nil _ _) (by rw [h2,hlen]) hs
 rw [hlen] at this
 exact⟨h,this,hl⟩
theorem ok_sp {l:List Pc} (hl:pcOk l):pcOk (.sp 32::l):=⟨.inl rfl,hl⟩
theorem tokAt_lp (w:List UInt8):tokAt (40::w)=(4,1):=by
 rw [tokAt_cons,if_neg (by unfold letterB smallB greatB;decide),if_neg (by unfold digitB;decide),if_neg (by cases w <;> simp [pairB]),if_pos (by decide)]
theorem tokAt_mi (w:List UInt8):tokAt (45::w)=(4,1):=by
 rw [tokAt_cons,if_neg (by unfold letterB smallB greatB;decide),if_neg (by unfold digitB;decide),if_neg (by cases w <;> simp [pairB]),if_pos (by decide)]
theorem ok_lp {l:List Pc} (hl:pcOk l):pcOk (.tok (tz 4 lpS)::l):=⟨by kernel_rfl,tokAt_lp _,hl⟩
theorem ok_mi {l:List Pc} (hl:pcOk l):pcOk (.tok (tz 4 miS)::l):=⟨by kernel_rfl,tokAt_mi _,hl⟩
theorem takeW_all (p:UInt8→Bool):∀ l:List UInt8,(∀ c∈l,p c=true)→takeW p l=l.length
 | [],_=>by unfold takeW;rfl
 | c::l,h=>by
  unfold takeW
  rw [if_pos (h c (List.mem_cons_self ..)),takeW_all p l fun x hx=>h x (List.mem_cons_of_mem _ hx)]
  rfl
theorem itoa_len:∀ (k u:Nat),u < 10 ^ (k + 1)→(itoaB (u:Int)).size≤k + 1:=by
 intro k
 induction k with
 | zero =>
  intro u h
  rw [itoaB_lt (by simpa using h)]
  exact Nat.le_refl 1
 | succ k ih =>
  intro u h
  by_cases h1:u < 10
  ·rw [itoaB_lt h1]
   show 1≤k + 1 + 1
   omega
  ·rw [itoaB_ge h1,ByteArray.size_append,itoaB_lt (u:=u % 10) (by omega)]
   have:=ih (u / 10) (Nat.div_lt_of_lt_mul (by rw [Nat.pow_succ] at h;omega))
   show _ + 1≤k + 1 + 1
   omega
theorem itoa_first:∀ (u:Nat),0 < u→∃ c r,(itoaB (u:Int)).data.toList=c::r∧c≠48:=by
 intro u
 induction u using Nat.strongRecOn with
 | _ u ih =>
 intro hu
 by_cases h:u < 10
 ·rw [itoaB_lt h]
  have:∀ k:Fin 10,0 < k.val→UInt8.ofNat (48 + k.val)≠48:=by decide
  exact⟨_,_,rfl,this ⟨u,h⟩ hu⟩
 ·obtain⟨c,r,hc,hn⟩:=ih (u / 10) (by omega) (by omega)
  rw [itoaB_ge h]
  simp only [ByteArray.data_append,Array.toList_append,hc]
  exact⟨c,_,rfl,hn⟩
theorem digit_letter {c:UInt8} (h:digitB c=true):letterB c=false:=by
 unfold digitB at h
 unfold letterB smallB greatB
 simp only [Bool.and_eq_true,decide_eq_true_eq] at h
 simp only [Bool.or_eq_false_iff,Bool.and_eq_false_iff,decide_eq_false_iff_not]
 omega
theorem itoa_ok {n:Int} (h0:0≤n) (h9:n≤9999999):tokOk (tz 3 (itoaB n))=true:=by
 obtain⟨u,rfl⟩:=Int.eq_ofNat_of_zero_le h0
 have hl:=itoa_len 6 u (by show u < 10000000;omega)
 have hd:=itoa_digits u
 obtain⟨c,r,hc,hz⟩:∃ c r,(itoaB (u:Int)).data.toList=c::r∧(0 < u→c≠48):=by
  by_cases hu:0 < u
  ·obtain⟨c,r,h1,h2⟩:=itoa_first u hu
   exact⟨c,r,h1,fun _=>h2⟩
  ·have:u=0:=by omega
   subst this
   exact⟨48,[],by rw [itoaB_lt (by omega)];rfl,fun h=>by omega⟩
 have hlen:(itoaB (u:Int)).data.toList.length=(itoaB (u:Int)).size:=Array.length_toList
 have hs:r.length + 1=(itoaB (u:Int)).size:=by rw [← hlen,hc];rfl
 show oneS 3 (itoaB (u:Int))=true
 rw [oneS_eq,isTok_eq]
 have hp:0 < (itoaB (u:Int)).size:=by omega
 refine⟨hp,by omega,?_,?_⟩
 ·have hdc:=hd c (by rw [hc];exact List.mem_cons_self ..)
  rw [hc,tokAt_cons,if_neg (by rw [digit_letter hdc];exact Bool.false_ne_true),if_pos hdc,takeW_all digitB r fun x hx=>hd x (by rw [hc];exact List.mem_cons_of_mem _ hx),← hs,Nat.add_comm]
 ·have h48:(itoaB (u:Int))[0]=c:=byte_of_drop _ 0 hp c r hc
  rw [h48]
  unfold tokErr
  rw [if_neg (by decide),if_neg (by rintro (⟨h|h,_⟩|⟨_,h⟩);exact absurd h (by decide);exact absurd h (by decide);omega),if_neg]
  rintro⟨_,h1,rfl⟩
  by_cases hu:0 < u
  ·exact hz hu rfl
  ·have:u=0:=by omega
   subst this
   have:(itoaB ((0:Nat):Int)).size=1:=by rw [itoaB_lt (by omega)];rfl
   omega
theorem eachTm_size (l:List TTm) (hl:l.length≤16) (hok:∀ t∈l,nOk t):(eachS (l.map showTm)).size≤68719476768:=by
 have hs:=join_size cmS (by decide) (l.map showTm) 4294967296 (fun x hx=>by
  obtain⟨t,ht,rfl⟩:=List.mem_map.1 hx
  exact showTm_size (hok t ht))
 rw [List.length_map] at hs
 have:l.length * (4294967296 + 2)≤16 * (4294967296 + 2):=Nat.mul_le_mul_right _ hl
 exact Nat.le_trans hs (Nat.le_trans this (by decide))
def atomS (name:ByteArray) (l:List TTm) (fold:Int):ByteArray :=
 if fold=0 then name++⟨#[40]⟩++eachS (l.map showTm)++⟨#[41]⟩
 else name++⟨#[40]⟩++(if 1 < l.length then eachS ((l.take (l.length - 1)).map showTm)++cmS else eachS ((l.take (l.length - 1)).map showTm))++wordsL.getD fold.toNat ⟨#[]⟩++⟨#[32]⟩++showTm (l.getD (l.length - 1) ⟨⟨#[]⟩,0⟩)++⟨#[41]⟩
set_option maxHeartbeats 8000000 in
theorem satom_fn (name:ByteArray) (l:List TTm) (fold:Int) (hl:l.length≤16) (hok:∀ t∈l,nOk t) (hn:name.size≤4294967296) (hf:fold=0∨(1≤fold∧fold≤4∧0 < l.length)):Fn 22 [.d (.str name),.d (.slice 2 (l.map encTTm)),.d (.int .i64 fold)] (fun r=>r = .d (.str (atomS name l fold))):=by
 refine fnp_enter' _ Tryz.func22 rfl rfl (by kernel_rfl) ?_
 intro O w0 E0 β0
 have ll:(l.map encTTm).length=l.length:=List.length_map _
 have s40:(⟨#[40]⟩:ByteArray).size=1:=rfl
 have s41:(⟨#[41]⟩:ByteArray).size=1:=rfl
 have s32:(⟨#[32]⟩:ByteArray).size=1:=rfl
 have scm:(⟨#[44,32]⟩:ByteArray).size=2:=rfl
 have hd:atomS name l fold=if fold=0 then name++⟨#[40]⟩++eachS (l.map showTm)++⟨#[41]⟩
  else name++⟨#[40]⟩++(if 1 < l.length then eachS ((l.take (l.length - 1)).map showTm)++cmS else eachS ((l.take (l.length - 1)).map showTm))++wordsL.getD fold.toNat ⟨#[]⟩++⟨#[32]⟩++showTm (l.getD (l.length - 1) ⟨⟨#[]⟩,0⟩)++⟨#[41]⟩:=rfl
 rw [hd]
 by_cases h0:fold=0
 ·subst h0
  rw [if_pos rfl]
  have w1:=eachTm_fn l hl hok
  have hs:=eachTm_size l hl hok
  generalize eachS (l.map showTm)=E at *
  repeat' (first|refine z0 ?_|apply ds_nil|apply dw_seq2|refine z16 ?_|apply dw_ret|refine z18 ?_|apply thenD_n|apply thenD_r|refine z21 ?_ (hc:=by apply w1)|fail)
  all_goals try (exfalso;omega)
  exact⟨.inl rfl,_,rfl,rfl,rfl⟩
 ·rw [if_neg h0]
  obtain⟨f1,f2,f3⟩:1≤fold∧fold≤4∧0 < l.length:=by rcases hf with h|h;exact absurd h h0;exact h
  have hok2:∀ t∈l.take (l.length - 1),nOk t:=fun t ht=>hok t (List.mem_of_mem_take ht)
  have hl2:(l.take (l.length - 1)).length≤16:=by rw [List.length_take];omega
  have w1:=eachTm_fn (l.take (l.length - 1)) hl2 hok2
  have hs:=eachTm_size (l.take (l.length - 1)) hl2 hok2
  generalize eachS ((l.take (l.length - 1)).map showTm)=E at *
  have e1:(((l.map encTTm).length:Int) - 1).toNat=l.length - 1:=by rw [ll];omega
  have hlast:(((l.map encTTm).length:Int) - 1).toNat < l.length:=by omega
  have hg:l.getD (l.length - 1) ⟨⟨#[]⟩,0⟩=l[(((l.map encTTm).length:Int) - 1).toNat]:=by rw [← e1,List.getD_eq_getElem?_getD,List.getElem?_eq_getElem hlast];rfl
  rw [hg]
  have w2:=sterm_fn l[(((l.map encTTm).length:Int) - 1).toNat] (hok _ (List.getElem_mem hlast))
  have hs2:=showTm_size (hok _ (List.getElem_mem hlast))
  generalize showTm l[(((l.map encTTm).length:Int) - 1).toNat]=T at *
  rw [← e1] at w1
  clear hg hd
  have hw:∀ x∈wordsL,x.size≤5:=by decide
  have hfw:fold.toNat < wordsL.length:=by show fold.toNat < 5;omega
  have hgw:wordsL.getD fold.toNat ⟨#[]⟩=wordsL[fold.toNat]:=by rw [List.getD_eq_getElem?_getD,List.getElem?_eq_getElem hfw];rfl
  rw [hgw]
  have hw2:=hw _ (List.getElem_mem hfw)
  by_cases h1:1 < l.length
  ·rw [if_pos h1]
   repeat' (first|(apply ds_slD;exact rfl;exact rfl;exact rfl;exact rfl;exact rfl;exact rfl;(refine⟨?_,?_,?_⟩ <;> (omega));((with_reducible apply hv_take);(exact (Int.toNat_of_nonneg (by omega)).symm));exact rfl;exact rfl)|refine z0 ?_|apply ds_nil|refine z5 ?_|refine z10 ?_|apply dw_seq2|refine z16 ?_|refine z20 ?_|apply dw_skip|apply dw_ret|apply thenD_n|refine z21 ?_ (hc:=by apply w1)|refine z22 ?_ (hc:=by apply w2)|refine z22 ?_ (hc:=by apply words_fn)|(refine z23 ?_ ?_ <;> intro hg)|fail)
   all_goals try (exfalso;omega)
   exact⟨.inl rfl,_,rfl,rfl,rfl⟩
  ·rw [if_neg h1]
   repeat' (first|(apply ds_slD;exact rfl;exact rfl;exact rfl;exact rfl;exact rfl;exact rfl;(refine⟨?_,?_,?_⟩ <;> (omega));((with_reducible apply hv_take);(exact (Int.toNat_of_nonneg (by omega)).symm));exact rfl;exact rfl)|refine z0 ?_|apply ds_nil|refine z5 ?_|refine z10 ?_|apply dw_seq2|refine z16 ?_|refine z20 ?_|apply dw_skip|apply dw_ret|apply thenD_n|refine z21 ?_ (hc:=by apply w1)|refine z22 ?_ (hc:=by apply w2)|refine z22 ?_ (hc:=by apply words_fn)|(refine z23 ?_ ?_ <;> intro hg)|fail)
   all_goals try (exfalso;omega)
   exact⟨.inl rfl,_,rfl,rfl,rfl⟩
def opsS:List ByteArray:=⟨#[]⟩::opsT
abbrev t0S:TTm:=⟨⟨#[]⟩,0⟩
def showLt (x:TLt):ByteArray :=
 if x.kind=1 then atomS x.name x.terms 0
 else if x.kind=2 then ⟨#[110,111,116,32]⟩++atomS x.name x.terms 0
 else if x.kind=3 then showTm (x.terms.getD 0 t0S)++⟨#[32]⟩++opsS.getD x.op.toNat ⟨#[]⟩++⟨#[32]⟩++showTm (x.terms.getD 1 t0S)
 else showTm (x.terms.getD 0 t0S)++⟨#[32]⟩++opsS.getD x.op.toNat ⟨#[]⟩++⟨#[32]⟩++showTm (x.terms.getD 1 t0S)++⟨#[32,61,32]⟩++showTm (x.terms.getD 2 t0S)
structure LtOk (x:TLt):Prop where
 terms:∀ t∈x.terms,nOk t
 len:x.terms.length≤3
 name:x.name.size≤4294967296
 op:0≤x.op∧x.op≤7
 two:x.kind≠1→x.kind≠2→2≤x.terms.length
 three:x.kind≠1→x.kind≠2→x.kind≠3→3≤x.terms.length
theorem atomS_size (name:ByteArray) (l:List TTm) (hl:l.length≤16) (hok:∀ t∈l,nOk t) (hn:name.size≤4294967296):(atomS name l 0).size≤73014444066:=by
 unfold atomS
 rw [if_pos rfl]
 have hs:=eachTm_size l hl hok
 have s40:(⟨#[40]⟩:ByteArray).size=1:=rfl
 have s41:(⟨#[41]⟩:ByteArray).size=1:=rfl
 simp only [ByteArray.size_append]
 omega
set_option maxHeartbeats 8000000 in
theorem slit_fn (x:TLt) (h:LtOk x):Fn 24 [elTLt x] (fun r=>r = .d (.str (showLt x))):=by
 refine fnp_enter' _ Tryz.func24 rfl rfl (by kernel_rfl) ?_
 intro O w0 E0 β0
 have ll:(x.terms.map encTTm).length=x.terms.length:=List.length_map _
 have s32:(⟨#[32]⟩:ByteArray).size=1:=rfl
 have s4:(⟨#[110,111,116,32]⟩:ByteArray).size=4:=rfl
 have s3:(⟨#[32,61,32]⟩:ByteArray).size=3:=rfl
 obtain⟨o0,o1⟩:=h.op
 have hd:showLt x=if x.kind=1 then atomS x.name x.terms 0
  else if x.kind=2 then ⟨#[110,111,116,32]⟩++atomS x.name x.terms 0
  else if x.kind=3 then showTm (x.terms.getD 0 t0S)++⟨#[32]⟩++opsS.getD x.op.toNat ⟨#[]⟩++⟨#[32]⟩++showTm (x.terms.getD 1 t0S)
  else showTm (x.terms.getD 0 t0S)++⟨#[32]⟩++opsS.getD x.op.toNat ⟨#[]⟩++⟨#[32]⟩++showTm (x.terms.getD 1 t0S)++⟨#[32,61,32]⟩++showTm (x.terms.getD 2 t0S):=rfl
 rw [hd]
 have w1:=satom_fn x.name x.terms 0 (by have:=h.len;omega) h.terms h.name (.inl rfl)
 have hs:=atomS_size x.name x.terms (by have:=h.len;omega) h.terms h.name
 have lo:(opsS.map encT).length=8:=rfl
 have ho:x.op.toNat < opsS.length:=by show x.op.toNat < 8;omega
 have hgo:opsS.getD x.op.toNat ⟨#[]⟩=opsS[x.op.toNat]:=by rw [List.getD_eq_getElem?_getD,List.getElem?_eq_getElem ho];rfl
 rw [hgo]
 have hw:∀ s∈opsS,s.size≤2:=by decide
 have hw2:=hw _ (List.getElem_mem ho)
 generalize atomS x.name x.terms 0=A at *
 repeat' (first|(refine ds_bsS opsS rfl rfl rfl rfl rfl rfl rfl rfl rfl rfl rfl rfl ?_)|((fail_if_success (apply dw_stopS 3));(first|refine z0 ?_|apply ds_nil|apply dw_seq2|refine z16 ?_|apply dw_block|apply thenD_n|refine z1 ?_|fail)))
 clear hd
 by_cases k1:x.kind=1
 ·rw [if_pos k1]
  repeat' (first|refine z0 ?_|apply ds_nil|refine z5 ?_|apply dw_seq2|refine z16 ?_|refine z20 ?_|apply dw_skip|apply dw_ret|apply thenD_n|apply thenD_r|apply inB_n|apply inB_r|refine z21 ?_ (hc:=by apply w1)|(refine z23 ?_ ?_ <;> intro hg)|fail)
  all_goals try (exfalso;omega)
  all_goals exact⟨.inl rfl,_,rfl,rfl,rfl⟩
 ·rw [if_neg k1]
  by_cases k2:x.kind=2
  ·rw [if_pos k2]
   repeat' (first|refine z0 ?_|apply ds_nil|refine z5 ?_|apply dw_seq2|refine z16 ?_|refine z20 ?_|apply dw_skip|apply dw_ret|apply thenD_n|apply thenD_r|apply inB_n|apply inB_r|refine z21 ?_ (hc:=by apply w1)|(refine z23 ?_ ?_ <;> intro hg)|fail)
   all_goals try (exfalso;omega)
   all_goals exact⟨.inl rfl,_,rfl,rfl,rfl⟩
  ·rw [if_neg k2]
   have g2:=h.two k1 k2
   have e0:x.terms.getD 0 t0S=x.terms[0]:=by rw [List.getD_eq_getElem?_getD,List.getElem?_eq_getElem (by omega)];rfl
   have e1:x.terms.getD 1 t0S=x.terms[1]:=by rw [List.getD_eq_getElem?_getD,List.getElem?_eq_getElem (by omega)];rfl
   rw [e0,e1]
   have v0:=sterm_fn x.terms[0] (h.terms _ (List.getElem_mem _))
   have v1:=sterm_fn x.terms[1] (h.terms _ (List.getElem_mem _))
   have yz0':=showTm_size (h.terms _ (List.getElem_mem (by omega:0 < x.terms.length)))
   have yz1':=showTm_size (h.terms _ (List.getElem_mem (by omega:1 < x.terms.length)))
   by_cases k3:x.kind=3
   ·rw [if_pos k3]
    generalize showTm x.terms[0]=T0 at *
    generalize showTm x.terms[1]=T1 at *
    repeat' (first|refine z0 ?_|apply ds_nil|refine z5 ?_|refine z10 ?_|apply dw_seq2|refine z16 ?_|refine z20 ?_|apply dw_skip|apply dw_ret|apply thenD_n|apply thenD_r|apply inB_n|apply inB_r|refine z22 ?_ (hc:=by apply v0)|refine z22 ?_ (hc:=by apply v1)|(refine z23 ?_ ?_ <;> intro hg)|fail)
    all_goals try (exfalso;omega)
    all_goals exact⟨.inl rfl,_,rfl,rfl,rfl⟩
   ·rw [if_neg k3]
    have g3:=h.three k1 k2 k3
    have e2:x.terms.getD 2 t0S=x.terms[2]:=by rw [List.getD_eq_getElem?_getD,List.getElem?_eq_getElem (by omega)];rfl
    rw [e2]
    have v2:=sterm_fn x.terms[2] (h.terms _ (List.getElem_mem _))
    have yz2':=showTm_size (h.terms _ (List.getElem_mem (by omega:2 < x.terms.length)))
    generalize showTm x.terms[0]=T0 at *
    generalize showTm x.terms[1]=T1 at *
    generalize showTm x.terms[2]=T2 at *
    repeat' (first|refine z0 ?_|apply ds_nil|refine z5 ?_|refine z10 ?_|apply dw_seq2|refine z16 ?_|refine z20 ?_|apply dw_skip|apply dw_ret|apply thenD_n|apply thenD_r|apply inB_n|apply inB_r|refine z22 ?_ (hc:=by apply v0)|refine z22 ?_ (hc:=by apply v1)|refine z22 ?_ (hc:=by apply v2)|(refine z23 ?_ ?_ <;> intro hg)|fail)
    all_goals try (exfalso;omega)
    all_goals exact⟨.inl rfl,_,rfl,rfl,rfl⟩
theorem showLt_size {x:TLt} (h:LtOk x):(showLt x).size≤137438953472:=by
 have hs:=atomS_size x.name x.terms (by have:=h.len;omega) h.terms h.name
 have s32:(⟨#[32]⟩:ByteArray).size=1:=rfl
 have s4:(⟨#[110,111,116,32]⟩:ByteArray).size=4:=rfl
 have s3:(⟨#[32,61,32]⟩:ByteArray).size=3:=rfl
 obtain⟨o0,o1⟩:=h.op
 have ho:x.op.toNat < opsS.length:=by show x.op.toNat < 8;omega
 have hgo:opsS.getD x.op.toNat ⟨#[]⟩=opsS[x.op.toNat]:=by rw [List.getD_eq_getElem?_getD,List.getElem?_eq_getElem ho];rfl
 have hw:∀ s∈opsS,s.size≤2:=by decide
 have hw2:=hw _ (List.getElem_mem ho)
 have hg:∀ i,(showTm (x.terms.getD i t0S)).size≤4294967296:=by
  intro i
  rw [List.getD_eq_getElem?_getD]
  cases hx:x.terms[i]? with
  | none=>exact showTm_size (t:=t0S) ⟨by decide,by decide,by decide⟩
  | some t=>exact showTm_size (h.terms t (List.mem_of_getElem? hx))
 have g0:=hg 0
 have g1:=hg 1
 have g2:=hg 2
 unfold showLt
 rw [hgo]
 split
 ·omega
 split
 ·simp only [ByteArray.size_append];omega
 split
 ·simp only [ByteArray.size_append];omega
 ·simp only [ByteArray.size_append];omega
set_option maxHeartbeats 8000000 in
theorem eachLt_fn (l:List TLt) (hl:l.length≤16) (hok:∀ x∈l,LtOk x):Fn 23 [.d (.slice 5 (l.map encTLt)),.fn 24 []] (fun r=>r = .d (.str (eachS (l.map showLt)))):=by
 refine fnp_enter' _ Tryz.func23 rfl rfl (by kernel_rfl) ?_
 intro O w0 E0 β0
 have ll:(l.map encTLt).length=l.length:=List.length_map _
 repeat' (first|refine z0 ?_|apply ds_nil|apply dw_seq2|refine z16 ?_|apply dw_block|apply thenD_n)
 refine dw_ent (ent_nilrow (t:=5) 9 1 rfl) ?_
 repeat' fail
 refine ds_loop (ι:=Nat) (fun i=>⟨1,[(1,.fn 24 []),(5,.row 0),(8,.d (.slice 5 (l.map encTLt))),(9,.d (.int .i64 l.length)),(10,.d (.int .i64 i))],[(0,.row 9 1 ((l.take i).map fun t=>encT (showLt t)))]⟩)
  (fun i=>i≤l.length) (fun i=>l.length - i) 0 (Nat.zero_le _) (ent_ren id ⟨rfl,rfl,rfl,by rw [← ll];rfl,rfl,trivial⟩ ⟨rfl,trivial⟩ rfl rfl rfl rfl rfl rfl) ?_
 intro i hle
 dsimp only at hle ⊢
 by_cases hi:i < l.length
 ·have w1:Fn 24 ([elTLt l[i]]++[]) _:=slit_fn l[i] (hok _ (List.getElem_mem hi))
  have lt:((l.take i).map fun t=>encT (showLt t)).length=i:=by rw [List.length_map,List.length_take];omega
  have hst:(l.take (i + 1)).map (fun t=>encT (showLt t))=(l.take i).map (fun t=>encT (showLt t))++[encT (showLt l[i])]:=by rw [List.take_succ_eq_append_getElem hi,List.map_append];rfl
  repeat' (first|refine z0 ?_|apply ds_nil|apply dw_seq2|refine z16 ?_|apply dw_block|apply dw_skip|apply dw_exit|apply thenD_n|apply thenD_e|apply inB_n|refine z17 ?_|(apply ds_callV;exact rfl;exact rfl;exact rfl;exact rfl;apply w1;exact rfl;(exact rfl);exact rfl;rintro _ rfl)|refine z1 ?_|refine z3 ?_|refine z4 ?_|refine z2 ?_|(refine z23 ?_ ?_ <;> intro hg)|fail)
  all_goals try (exfalso;omega)
  exact⟨i + 1,hi,ent_ren (fun j=>match j with|0=>_|j=>j) ⟨rfl,rfl,rfl,rfl,rfl,trivial⟩ ⟨by rw [hst];rfl,trivial⟩ rfl rfl rfl rfl rfl rfl,by omega⟩
 ·rw [List.take_of_length_le (by omega)]
  have hs:=join_size cmS (by decide) (l.map showLt) 137438953472 (fun x hx=>by
   obtain⟨t,ht,rfl⟩:=List.mem_map.1 hx
   exact showLt_size (hok t ht))
  rw [List.length_map] at hs
  have hs2:(joinB (l.map showLt) cmS).size≤140737488355328:=by
   have:l.length * (137438953472 + 2)≤16 * (137438953472 + 2):=Nat.mul_le_mul_right _ hl
   omega
  have w1:=join_fn (l.map showLt) cmS (by rw [List.length_map];omega) hs2
  rw [show encStrs (l.map showLt)=l.map (fun t=>encT (showLt t)) from List.map_map ..] at w1
  repeat' ((fail_if_success (apply dw_stopS 7));(first|refine z0 ?_|apply ds_nil|apply dw_seq2|refine z16 ?_|apply dw_block|apply dw_skip|apply dw_exit|apply thenD_n|apply thenD_e|refine z17 ?_|refine z1 ?_|refine z3 ?_|(refine z23 ?_ ?_ <;> intro hg)|fail))
  all_goals try (exfalso;omega)
  refine dw_ent (ent_seal 5 rfl rfl rfl) ?_
  repeat' (first|refine z0 ?_|apply ds_nil|apply dw_seq2|refine z16 ?_|apply dw_ret|apply thenD_n|refine z21 ?_ (hc:=by apply w1)|fail)
  exact⟨.inl rfl,_,rfl,rfl,rfl⟩
end Go.Proofs.YtapciiffpnociabGreatDoor
