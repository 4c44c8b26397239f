/- Several texts in one: TreN TreO ShwG TreJ TreL TreR TreV TreW. Condition: none. -/
import Derived.Test.YtapciiffpnociabGreatDoorS10
import Derived.Test.YtapciiffpnociabGreatDoorS12
import Derived.Test.YtapciiffpnociabGreatDoorS09
import Derived.Test.YtapciiffpnociabGreatDoorS08
namespace Go.Proofs.YtapciiffpnociabGreatDoor
open Go Go.RowKit
theorem checkT_2 {rs:List TRu} (h:12 < rs.length∨∃ i,∃ h:i < rs.length,muchT rs[i]=true):checkT rs=2:=by
 unfold checkT
 rw [if_pos]
 rcases h with h|⟨i,hi,h⟩
 ·exact .inl h
 ·exact .inr (List.any_eq_true.2 ⟨_,List.getElem_mem hi,h⟩)
theorem checkT_no {rs:List TRu} (h1:¬ 12 < rs.length) (h2:∀ i (h:i < rs.length),muchT rs[i]=false):checkT rs=if rs.all truOk=true then 0 else 1:=by
 unfold checkT
 rw [if_neg]
 rintro (h|h)
 ·exact h1 h
 ·obtain⟨x,hx,hm⟩:=List.any_eq_true.1 h
  obtain⟨i,hi,rfl⟩:=List.mem_iff_getElem.1 hx
  rw [h2 i hi] at hm
  cases hm
theorem checkT_1 {rs:List TRu} (h1:¬ 12 < rs.length) (h2:∀ i (h:i < rs.length),muchT rs[i]=false) {i:Nat} (hi:i < rs.length) (h3:truOk rs[i]=false):checkT rs=1:=by
 rw [checkT_no h1 h2,if_neg]
 intro h
 rw [List.all_eq_true.1 h _ (List.getElem_mem hi)] at h3
 cases h3
theorem checkT_0 {rs:List TRu} (h1:¬ 12 < rs.length) (h2:∀ i (h:i < rs.length),muchT rs[i]=false) (h3:∀ i (h:i < rs.length),truOk rs[i]=true):checkT rs=0:=by
 rw [checkT_no h1 h2,if_pos]
 refine List.all_eq_true.2 fun x hx=>?_
 obtain⟨i,hi,rfl⟩:=List.mem_iff_getElem.1 hx
 exact h3 i hi
theorem muchT_1 {r:TRu} (h:3 < r.terms.length∨4 < r.body.length∨∃ i,∃ h:i < r.body.length,3 < r.body[i].terms.length):muchT r=true:=by
 unfold muchT
 simp only [Bool.or_eq_true,decide_eq_true_eq]
 rcases h with h|h|⟨i,hi,h⟩
 ·exact .inl (.inl h)
 ·exact .inl (.inr h)
 ·exact .inr (List.any_eq_true.2 ⟨_,List.getElem_mem hi,decide_eq_true h⟩)
theorem muchT_0 {r:TRu} (h1:¬ 3 < r.terms.length) (h2:¬ 4 < r.body.length) (h3:∀ i (h:i < r.body.length),¬ 3 < r.body[i].terms.length):muchT r=false:=by
 unfold muchT
 rw [decide_eq_false h1,decide_eq_false h2,Bool.false_or,Bool.false_or]
 cases h:r.body.any fun x=>decide (3 < x.terms.length) with
 | false=>rfl
 | true =>
  obtain⟨x,hx,hm⟩:=List.any_eq_true.1 h
  obtain⟨i,hi,rfl⟩:=List.mem_iff_getElem.1 hx
  exact absurd (of_decide_eq_true hm) (h3 i hi)
def headOk (r:TRu):Bool:=nameS r.name && tmsOk r.terms && decide (0≤r.fold∧r.fold≤4) && (decide (r.fold=0) || (decide (r.terms≠[]) && decide (r.body≠[])))
theorem truOk_eq (r:TRu):truOk r=(headOk r && r.body.all tlOk):=rfl
theorem tms_step {l:List TTm} {i:Nat} (hi:i < l.length) (h:tmOk l[i]=false):tmsOk l=false:=by
 unfold tmsOk
 cases hb:l.all tmOk with
 | false=>rfl
 | true=>rw [List.all_eq_true.1 hb _ (List.getElem_mem hi)] at h;cases h
theorem tms_end {l:List TTm} (h:∀ i (h:i < l.length),tmOk l[i]=true):tmsOk l=true:=by
 refine List.all_eq_true.2 fun x hx=>?_
 obtain⟨i,hi,rfl⟩:=List.mem_iff_getElem.1 hx
 exact h i hi
theorem nameR_eq (s:ByteArray):nameR s=nameS s:=by unfold nameR nameS;rw [oneS_eq]
attribute [local irreducible] DW DS DL DQ Ev FnOk FnP thenD inBlockD DT
set_option maxHeartbeats 8000000 in
theorem areTerms_fn (l:List TTm):Fn 27 [.d (.slice 2 (l.map encTTm))] (fun r=>r = .d (.bool (tmsOk l))):=by
 refine fnp_enter' _ Tryz.func27 rfl rfl (by kernel_rfl) ?_
 intro O w0 E0 β0
 have ll:(l.map encTTm).length=l.length:=List.length_map _
 refine dw_len (t:=0) rfl (fun hml=>?_)
 rw [ll] at hml
 have hml:l.length≤9223372036854775807:=Nat.le_trans hml (by decide)
 repeat' (first|refine z0 ?_|apply ds_nil|apply dw_seq2|refine z16 ?_|apply dw_block|apply thenD_n)
 refine ds_loop (ι:=Nat) (fun i=>⟨0,[(0,.d (.slice 2 (l.map encTTm))),(3,.d (.int .i64 i))],[]⟩)
  (fun i=>i≤l.length∧∀ j (hj:j < l.length),j < i→tmOk l[j]=true) (fun i=>l.length - i) 0 ⟨Nat.zero_le _,fun j _ h=>absurd h (Nat.not_lt_zero j)⟩ (ent_ren id ⟨rfl,rfl,trivial⟩ trivial rfl rfl rfl rfl rfl rfl) ?_
 rintro i ⟨hi,hk⟩
 dsimp only at hi hk ⊢
 by_cases hil:i < l.length
 ·have w1:=between_fn l[i].n (-9999999) 9999999
  have w2:=isToken_fn 2 l[i].var
  rw [← oneS_eq] at w2
  have hm:tmOk l[i]=if l[i].var=⟨#[]⟩ then decide (-9999999≤l[i].n) && decide (l[i].n≤9999999) else oneS 2 l[i].var && decide (l[i].n=0):=rfl
  cases hb:tmOk l[i] with
  | true =>
   have hnext:∀ j (hj:j < l.length),j < i + 1→tmOk l[j]=true:=fun j hj h=>by
    rcases Nat.lt_or_ge j i with h1|h1
    ·exact hk j hj h1
    ·have:j=i:=by omega
     subst this
     exact hb
   rw [hb] at hm
   by_cases hv:l[i].var=⟨#[]⟩
   ·rw [if_pos hv] at hm
    rw [← hm] at w1
    repeat' (first|refine z0 ?_|refine z12 ?_|apply ds_nil|apply dw_seq2|refine z16 ?_|apply dw_block|apply dw_skip|apply dw_exit|apply dw_ret|refine z18 ?_|refine z19 ?_|apply thenD_n|apply thenD_e|apply thenD_r|apply inB_n|apply inB_r|refine z17 ?_|refine z21 ?_ (hc:=by apply w1)|refine z21 ?_ (hc:=by apply w2)|refine z1 ?_|refine z3 ?_|(refine z23 ?_ ?_ <;> intro hg)|(apply dw_cond;exact rfl;all_goals intro hg)|((fail_if_success (apply ds_known;exact rfl));apply ds_guardP;exact rfl;exact rfl;exact rfl;all_goals intro hg))
    all_goals try (exfalso;first|omega|exact absurd hv (by assumption)|exact absurd (by assumption) hv)
    all_goals exact⟨i + 1,⟨by omega,hnext⟩,ent_ren id ⟨rfl,rfl,trivial⟩ trivial rfl rfl rfl rfl rfl rfl,by show l.length - (i + 1) < l.length - i;omega⟩
   ·rw [if_neg hv] at hm
    have h2:=(Bool.and_eq_true _ _).mp hm.symm
    have h0:=of_decide_eq_true h2.2
    rw [h2.1] at w2
    repeat' (first|refine z0 ?_|refine z12 ?_|apply ds_nil|apply dw_seq2|refine z16 ?_|apply dw_block|apply dw_skip|apply dw_exit|apply dw_ret|refine z18 ?_|refine z19 ?_|apply thenD_n|apply thenD_e|apply thenD_r|apply inB_n|apply inB_r|refine z17 ?_|refine z21 ?_ (hc:=by apply w1)|refine z21 ?_ (hc:=by apply w2)|refine z1 ?_|refine z3 ?_|(refine z23 ?_ ?_ <;> intro hg)|((fail_if_success (apply ds_known;exact rfl));apply ds_guardP;exact rfl;exact rfl;exact rfl;all_goals intro hg)|((fail_if_success (apply ds_known;exact rfl));apply ds_guardB;exact rfl;exact rfl;exact rfl;all_goals intro hg))
    all_goals try (exfalso;first|omega|exact absurd hv (by assumption)|exact absurd (by assumption) hv)
    all_goals exact⟨i + 1,⟨by omega,hnext⟩,ent_ren id ⟨rfl,rfl,trivial⟩ trivial rfl rfl rfl rfl rfl rfl,by show l.length - (i + 1) < l.length - i;omega⟩
  | false =>
   have hend:=tms_step hil hb
   rw [hb] at hm
   by_cases hv:l[i].var=⟨#[]⟩
   ·rw [if_pos hv] at hm
    rw [← hm] at w1
    repeat' (first|refine z0 ?_|refine z12 ?_|apply ds_nil|apply dw_seq2|refine z16 ?_|apply dw_block|apply dw_skip|apply dw_exit|apply dw_ret|refine z18 ?_|refine z19 ?_|apply thenD_n|apply thenD_e|apply thenD_r|apply inB_n|apply inB_r|refine z17 ?_|refine z21 ?_ (hc:=by apply w1)|refine z21 ?_ (hc:=by apply w2)|refine z1 ?_|refine z3 ?_|(refine z23 ?_ ?_ <;> intro hg)|(apply dw_cond;exact rfl;all_goals intro hg)|((fail_if_success (apply ds_known;exact rfl));apply ds_guardP;exact rfl;exact rfl;exact rfl;all_goals intro hg))
    all_goals try (exfalso;first|omega|exact absurd hv (by assumption)|exact absurd (by assumption) hv)
    all_goals exact ret_b rfl hend.symm
   ·rw [if_neg hv] at hm
    cases h2:oneS 2 l[i].var with
    | true =>
     rw [h2] at hm w2
     have h0:=of_decide_eq_false hm.symm
     repeat' (first|refine z0 ?_|refine z12 ?_|apply ds_nil|apply dw_seq2|refine z16 ?_|apply dw_block|apply dw_skip|apply dw_exit|apply dw_ret|refine z18 ?_|refine z19 ?_|apply thenD_n|apply thenD_e|apply thenD_r|apply inB_n|apply inB_r|refine z17 ?_|refine z21 ?_ (hc:=by apply w1)|refine z21 ?_ (hc:=by apply w2)|refine z1 ?_|refine z3 ?_|(refine z23 ?_ ?_ <;> intro hg)|((fail_if_success (apply ds_known;exact rfl));apply ds_guardP;exact rfl;exact rfl;exact rfl;all_goals intro hg)|((fail_if_success (apply ds_known;exact rfl));apply ds_guardB;exact rfl;exact rfl;exact rfl;all_goals intro hg))
     all_goals try (exfalso;first|omega|exact absurd hv (by assumption)|exact absurd (by assumption) hv)
     all_goals exact ret_b rfl hend.symm
    | false =>
     rw [h2] at w2
     repeat' (first|refine z0 ?_|refine z12 ?_|apply ds_nil|apply dw_seq2|refine z16 ?_|apply dw_block|apply dw_skip|apply dw_exit|apply dw_ret|refine z18 ?_|refine z19 ?_|apply thenD_n|apply thenD_e|apply thenD_r|apply inB_n|apply inB_r|refine z17 ?_|refine z21 ?_ (hc:=by apply w1)|refine z21 ?_ (hc:=by apply w2)|refine z1 ?_|refine z3 ?_|(refine z23 ?_ ?_ <;> intro hg)|((fail_if_success (apply ds_known;exact rfl));apply ds_guardP;exact rfl;exact rfl;exact rfl;all_goals intro hg)|((fail_if_success (apply ds_known;exact rfl));apply ds_guardB;exact rfl;exact rfl;exact rfl;all_goals intro hg))
     all_goals try (exfalso;first|omega|exact absurd hv (by assumption)|exact absurd (by assumption) hv)
     all_goals exact ret_b rfl hend.symm
 ·have hend:tmsOk l=true:=tms_end fun j hj=>hk j hj (by omega)
  repeat' (first|refine z0 ?_|refine z12 ?_|apply ds_nil|apply dw_seq2|refine z16 ?_|apply dw_block|apply dw_skip|apply dw_exit|apply dw_ret|refine z18 ?_|refine z19 ?_|apply thenD_n|apply thenD_e|apply thenD_r|apply inB_n|apply inB_r|refine z17 ?_|refine z1 ?_|refine z3 ?_|(refine z23 ?_ ?_ <;> intro hg)|((fail_if_success (apply ds_known;exact rfl));apply ds_guardP;exact rfl;exact rfl;exact rfl;all_goals intro hg))
  all_goals try (exfalso;omega)
  exact ret_b rfl hend.symm
abbrev truB (r:TRu):HB:=.blk 47 [.d (.int .i64 r.at_),.d (.str r.name),.d (.slice 2 (r.terms.map encTTm)),.d (.int .i64 r.fold),.d (.slice 5 (r.body.map encTLt))]
abbrev treeB (rs:List TRu):HB:=.blk 24 [.d (.slice 5 (rs.map encTRu))]
theorem next_all {α:Type} {p:α→Bool} {b:Bool} {l:List α} {i:Nat} (hk:∀ j (hj:j < l.length),j < i→p l[j]=b) (hi:i < l.length) (hb:p l[i]=b):∀ j (hj:j < l.length),j < i + 1→p l[j]=b:=fun j hj h=>by
 rcases Nat.lt_or_ge j i with h1|h1
 ·exact hk j hj h1
 ·have:j=i:=by omega
  subst this
  exact hb
theorem truOk_lit {r:TRu} {k:Nat} (hk:k < r.body.length) (h:tlOk r.body[k]=false):truOk r=false:=by
 rw [truOk_eq]
 cases hb:r.body.all tlOk with
 | false=>exact Bool.and_false _
 | true=>rw [List.all_eq_true.1 hb _ (List.getElem_mem hk)] at h;cases h
theorem truOk_all {r:TRu} (h0:headOk r=true) (h:∀ k (hk:k < r.body.length),tlOk r.body[k]=true):truOk r=true:=by
 rw [truOk_eq,h0,Bool.true_and]
 refine List.all_eq_true.2 fun x hx=>?_
 obtain⟨i,hi,rfl⟩:=List.mem_iff_getElem.1 hx
 exact h i hi
theorem headOk_true {r:TRu} (h:headOk r=true):nameS r.name=true∧tmsOk r.terms=true∧(0≤r.fold∧r.fold≤4)∧(r.fold=0∨(r.terms.length≠0∧r.body.length≠0)):=by
 unfold headOk at h
 simp only [Bool.and_eq_true,Bool.or_eq_true,decide_eq_true_eq] at h
 obtain⟨⟨⟨h1,h2⟩,h3⟩,h4⟩:=h
 exact⟨h1,h2,h3,h4.imp id fun⟨a,b⟩=>⟨fun e=>a (List.length_eq_zero_iff.1 e),fun e=>b (List.length_eq_zero_iff.1 e)⟩⟩
theorem headOk_false {r:TRu} (h:headOk r=false):nameS r.name=false∨tmsOk r.terms=false∨¬(0≤r.fold∧r.fold≤4)∨(r.fold≠0∧(r.terms.length=0∨r.body.length=0)):=by
 unfold headOk at h
 simp only [Bool.and_eq_false_iff,Bool.or_eq_false_iff,decide_eq_false_iff_not] at h
 rcases h with ((h|h)|h)|⟨h,h2⟩
 ·exact .inl h
 ·exact .inr (.inl h)
 ·exact .inr (.inr (.inl h))
 ·refine .inr (.inr (.inr ⟨h,?_⟩))
  rcases h2 with h2|h2
  ·exact .inl (by rw [Classical.not_not.1 h2];rfl)
  ·exact .inr (by rw [Classical.not_not.1 h2];rfl)
set_option maxHeartbeats 8000000 in
theorem checkTree_fn (rs:List TRu):Fn 9 [.agg [.d (.slice 5 (rs.map encTRu))]] (fun o=>o = .d (.int .i64 (checkT rs))):=by
 refine fnp_enter' _ Tryz.func9 rfl rfl (by kernel_rfl) ?_
 intro O w0 E0 β0
 have lr:(rs.map encTRu).length=rs.length:=List.length_map _
 by_cases h12:12 < rs.length
 ·have he:=checkT_2 (rs:=rs) (.inl h12)
  repeat' (first|refine z0 ?_|apply ds_nil|apply dw_seq2|refine z16 ?_|apply dw_block|apply dw_skip|apply dw_ret|apply thenD_n|apply thenD_r|refine z1 ?_|(refine z23 ?_ ?_ <;> intro hg)|fail)
  all_goals try (exfalso;omega)
  exact ret_i rfl he.symm
 repeat' (first|refine z0 ?_|apply ds_nil|apply dw_seq2|refine z16 ?_|apply dw_block|apply dw_skip|apply dw_ret|apply thenD_n|apply thenD_r|refine z1 ?_|(refine z23 ?_ ?_ <;> intro hg)|fail)
 all_goals try (exfalso;omega)
 refine ds_loop (ι:=Nat) (fun i=>⟨1,[(1,.loc 0 0),(3,.d (.int .i64 i))],[(0,treeB rs)]⟩)
  (fun i=>i≤rs.length∧∀ j (hj:j < rs.length),j < i→muchT rs[j]=false) (fun i=>rs.length - i) 0 ⟨Nat.zero_le _,fun j _ h=>absurd h (Nat.not_lt_zero j)⟩ (ent_ren id ⟨rfl,rfl,trivial⟩ ⟨rfl,trivial⟩ rfl rfl rfl rfl rfl rfl) ?_
 rintro i ⟨hi,hk⟩
 dsimp only at hi hk ⊢
 by_cases hil:i < rs.length
 ·have lt:(rs[i].terms.map encTTm).length=rs[i].terms.length:=List.length_map _
  have lb:(rs[i].body.map encTLt).length=rs[i].body.length:=List.length_map _
  by_cases h3:3 < rs[i].terms.length
  ·have he:=checkT_2 (rs:=rs) (.inr ⟨i,hil,muchT_1 (.inl h3)⟩)
   repeat' (first|refine z0 ?_|refine z12 ?_|apply ds_nil|apply dw_seq2|refine z16 ?_|apply dw_block|apply dw_skip|apply dw_exit|apply dw_ret|refine z18 ?_|apply thenD_n|apply thenD_e|apply thenD_r|apply inB_r|refine z17 ?_|refine z1 ?_|refine z3 ?_|(refine z23 ?_ ?_ <;> intro hg)|((fail_if_success (apply ds_known;exact rfl));apply ds_guardP;exact rfl;exact rfl;exact rfl;all_goals intro hg))
   all_goals try (exfalso;omega)
   all_goals exact ret_i rfl he.symm
  by_cases h4:4 < rs[i].body.length
  ·have he:=checkT_2 (rs:=rs) (.inr ⟨i,hil,muchT_1 (.inr (.inl h4))⟩)
   repeat' (first|refine z0 ?_|refine z12 ?_|apply ds_nil|apply dw_seq2|refine z16 ?_|apply dw_block|apply dw_skip|apply dw_exit|apply dw_ret|refine z18 ?_|apply thenD_n|apply thenD_e|apply thenD_r|apply inB_r|refine z17 ?_|refine z1 ?_|refine z3 ?_|(refine z23 ?_ ?_ <;> intro hg)|((fail_if_success (apply ds_known;exact rfl));apply ds_guardP;exact rfl;exact rfl;exact rfl;all_goals intro hg))
   all_goals try (exfalso;omega)
   all_goals exact ret_i rfl he.symm
  repeat' (first|refine z0 ?_|refine z12 ?_|apply ds_nil|apply dw_seq2|refine z16 ?_|apply dw_block|apply dw_skip|apply dw_exit|apply dw_ret|refine z18 ?_|apply thenD_n|apply thenD_e|apply thenD_r|apply inB_r|refine z17 ?_|refine z1 ?_|refine z3 ?_|(refine z23 ?_ ?_ <;> intro hg)|((fail_if_success (apply ds_known;exact rfl));apply ds_guardP;exact rfl;exact rfl;exact rfl;all_goals intro hg))
  all_goals try (exfalso;omega)
  refine ds_loop (ι:=Nat) (fun k=>⟨2,[(1,.loc 0 0),(3,.d (.int .i64 i)),(4,.loc 1 0),(5,.d (.int .i64 k))],[(0,treeB rs),(1,truB rs[i])]⟩)
   (fun k=>k≤rs[i].body.length∧∀ j (hj:j < rs[i].body.length),j < k→decide (3 < rs[i].body[j].terms.length)=false) (fun k=>rs[i].body.length - k) 0 ⟨Nat.zero_le _,fun j _ h=>absurd h (Nat.not_lt_zero j)⟩ (ent_ren id ⟨rfl,rfl,rfl,rfl,trivial⟩ ⟨rfl,rfl,trivial⟩ rfl rfl rfl rfl rfl rfl) ?_
  rintro k ⟨hkl,hkk⟩
  dsimp only at hkl hkk ⊢
  by_cases hkb:k < rs[i].body.length
  ·have lt2:(rs[i].body[k].terms.map encTTm).length=rs[i].body[k].terms.length:=List.length_map _
   by_cases h5:3 < rs[i].body[k].terms.length
   ·have he:=checkT_2 (rs:=rs) (.inr ⟨i,hil,muchT_1 (.inr (.inr ⟨k,hkb,h5⟩))⟩)
    repeat' (first|refine z0 ?_|apply ds_nil|apply dw_seq2|refine z16 ?_|apply dw_block|apply dw_skip|apply dw_exit|apply dw_ret|apply thenD_n|apply thenD_e|apply thenD_r|apply inB_n|apply inB_r|refine z17 ?_|(refine z23 ?_ ?_ <;> intro hg)|fail)
    all_goals try (exfalso;omega)
    all_goals exact ret_i rfl he.symm
   ·have hn:=next_all (p:=fun x:TLt=>decide (3 < x.terms.length)) hkk hkb (decide_eq_false h5)
    repeat' (first|refine z0 ?_|apply ds_nil|apply dw_seq2|refine z16 ?_|apply dw_block|apply dw_skip|apply dw_exit|apply dw_ret|apply thenD_n|apply thenD_e|apply thenD_r|apply inB_n|apply inB_r|refine z17 ?_|(refine z23 ?_ ?_ <;> intro hg)|fail)
    all_goals try (exfalso;omega)
    exact⟨k + 1,⟨by omega,hn⟩,ent_ren id ⟨rfl,rfl,rfl,rfl,trivial⟩ ⟨rfl,rfl,trivial⟩ rfl rfl rfl rfl rfl rfl,by show rs[i].body.length - (k + 1) < rs[i].body.length - k;omega⟩
  ·have hn:=next_all (p:=muchT) hk hil (muchT_0 h3 h4 fun j hj=>of_decide_eq_false (hkk j hj (by omega)))
   repeat' (first|refine z0 ?_|apply ds_nil|apply dw_seq2|refine z16 ?_|apply dw_block|apply dw_skip|apply dw_exit|apply dw_ret|apply thenD_n|apply thenD_e|apply thenD_r|apply inB_n|apply inB_r|refine z17 ?_|(refine z23 ?_ ?_ <;> intro hg)|fail)
   all_goals try (exfalso;omega)
   exact⟨i + 1,⟨by omega,hn⟩,ent_ren id ⟨rfl,rfl,trivial⟩ ⟨rfl,trivial⟩ rfl rfl rfl rfl rfl rfl,by show rs.length - (i + 1) < rs.length - i;omega⟩
 have hno:∀ j (hj:j < rs.length),muchT rs[j]=false:=fun j hj=>hk j hj (by omega)
 clear hk
 repeat' (first|refine z0 ?_|refine z12 ?_|apply ds_nil|apply dw_seq2|refine z16 ?_|apply dw_block|apply dw_skip|apply dw_exit|apply dw_ret|refine z18 ?_|apply thenD_n|apply thenD_e|apply thenD_r|apply inB_r|refine z17 ?_|refine z1 ?_|refine z3 ?_|(refine z23 ?_ ?_ <;> intro hg)|((fail_if_success (apply ds_known;exact rfl));apply ds_guardP;exact rfl;exact rfl;exact rfl;all_goals intro hg))
 all_goals try (exfalso;omega)
 refine ds_loop (ι:=Nat) (fun i=>⟨1,[(1,.loc 0 0),(6,.d (.int .i64 i))],[(0,treeB rs)]⟩)
  (fun i=>i≤rs.length∧∀ j (hj:j < rs.length),j < i→truOk rs[j]=true) (fun i=>rs.length - i) 0 ⟨Nat.zero_le _,fun j _ h=>absurd h (Nat.not_lt_zero j)⟩ (ent_ren id ⟨rfl,rfl,trivial⟩ ⟨rfl,trivial⟩ rfl rfl rfl rfl rfl rfl) ?_
 clear hi hil
 rintro i ⟨hi,hk⟩
 dsimp only at hi hk ⊢
 by_cases hil:i < rs.length
 ·have lt:(rs[i].terms.map encTTm).length=rs[i].terms.length:=List.length_map _
  have lb:(rs[i].body.map encTLt).length=rs[i].body.length:=List.length_map _
  have w1:=isName_fn rs[i].name
  rw [nameR_eq] at w1
  have w2:=areTerms_fn rs[i].terms
  have w3:=between_fn rs[i].fold 0 4
  repeat' ((fail_if_success (apply dw_stopR 18));(first|refine z0 ?_|apply ds_nil|apply dw_seq2|refine z16 ?_|apply dw_block|apply dw_skip|apply dw_exit|apply dw_ret|apply thenD_n|apply thenD_e|refine z17 ?_|refine z1 ?_|refine z3 ?_|(refine z23 ?_ ?_ <;> intro hg)|fail))
  all_goals try (exfalso;omega)
  refine dw_cut (ι:=Unit) (fun _=>⟨2,[(1,.loc 0 0),(6,.d (.int .i64 i)),(7,.loc 1 0)],[(0,treeB rs),(1,truB rs[i])]⟩) (fun _=>headOk rs[i]=true) ?_ ?_
  ·cases hh:headOk rs[i] with
   | false =>
    have he:=checkT_1 h12 hno hil (by rw [truOk_eq,hh];rfl)
    rcases headOk_false hh with h|h|h|⟨h,h'⟩
    ·rw [h] at w1
     repeat' (first|refine z0 ?_|refine z12 ?_|apply ds_nil|apply dw_seq2|refine z16 ?_|apply dw_ret|refine z18 ?_|apply thenD_n|apply thenD_r|apply inB_r|refine z21 ?_ (hc:=by apply w1)|fail)
     all_goals try (exfalso;omega)
     all_goals exact ret_i rfl he.symm
    ·rw [h] at w2
     cases hn:nameS rs[i].name
     all_goals
      rw [hn] at w1
      repeat' (first|refine z0 ?_|refine z12 ?_|apply ds_nil|apply dw_seq2|refine z16 ?_|apply dw_ret|refine z18 ?_|apply thenD_n|apply thenD_r|apply inB_r|refine z21 ?_ (hc:=by apply w1)|refine z21 ?_ (hc:=by apply w2)|fail)
     all_goals try (exfalso;omega)
     all_goals exact ret_i rfl he.symm
    ·rw [show (decide (0≤rs[i].fold) && decide (rs[i].fold≤4))=false by simp;omega] at w3
     cases hn:nameS rs[i].name <;> cases ht:tmsOk rs[i].terms
     all_goals
      rw [hn] at w1
      rw [ht] at w2
      repeat' (first|refine z0 ?_|refine z12 ?_|apply ds_nil|apply dw_seq2|refine z16 ?_|apply dw_ret|refine z18 ?_|apply thenD_n|apply thenD_r|apply inB_r|refine z21 ?_ (hc:=by apply w1)|refine z21 ?_ (hc:=by apply w2)|refine z21 ?_ (hc:=by apply w3)|fail)
     all_goals try (exfalso;omega)
     all_goals exact ret_i rfl he.symm
    ·cases hn:nameS rs[i].name <;> cases ht:tmsOk rs[i].terms <;> cases hf:(decide (0≤rs[i].fold) && decide (rs[i].fold≤4))
     all_goals
      rw [hn] at w1
      rw [ht] at w2
      rw [hf] at w3
      try simp only [Bool.and_eq_true,decide_eq_true_eq] at hf
      repeat' (first|refine z0 ?_|refine z12 ?_|apply ds_nil|apply dw_seq2|refine z16 ?_|apply dw_skip|apply dw_ret|refine z18 ?_|refine z19 ?_|apply thenD_n|apply thenD_r|apply inB_r|refine z21 ?_ (hc:=by apply w1)|refine z21 ?_ (hc:=by apply w2)|refine z21 ?_ (hc:=by apply w3)|(refine z23 ?_ ?_ <;> intro hg)|((fail_if_success (apply ds_known;exact rfl));apply ds_guardP;exact rfl;exact rfl;exact rfl;all_goals intro hg))
     all_goals try (exfalso;omega)
     all_goals exact ret_i rfl he.symm
   | true =>
    obtain⟨a1,a2,a3,a4⟩:=headOk_true hh
    rw [a1] at w1
    rw [a2] at w2
    rw [show (decide (0≤rs[i].fold) && decide (rs[i].fold≤4))=true by simp;omega] at w3
    repeat' (first|refine z0 ?_|refine z12 ?_|apply ds_nil|apply dw_seq2|refine z16 ?_|apply dw_skip|apply dw_ret|refine z18 ?_|refine z19 ?_|apply thenD_n|apply thenD_r|apply inB_r|refine z21 ?_ (hc:=by apply w1)|refine z21 ?_ (hc:=by apply w2)|refine z21 ?_ (hc:=by apply w3)|(refine z23 ?_ ?_ <;> intro hg)|((fail_if_success (apply ds_known;exact rfl));apply ds_guardP;exact rfl;exact rfl;exact rfl;all_goals intro hg))
    all_goals try (exfalso;omega)
    all_goals exact⟨(),rfl,ent_ren id ⟨rfl,rfl,rfl,trivial⟩ ⟨rfl,rfl,trivial⟩ rfl rfl rfl rfl rfl rfl⟩
  ·intro _ hh
   clear w1 w2 w3
   have hb4:rs[i].body.length≤4:=by
    have:=hno i hil
    unfold muchT at this
    simp only [Bool.or_eq_false_iff,decide_eq_false_iff_not] at this
    omega
   repeat' (first|refine z0 ?_|apply ds_nil|apply dw_seq2|refine z16 ?_|apply dw_block|apply thenD_n)
   refine ds_loop (ι:=Nat) (fun k=>⟨2,[(1,.loc 0 0),(6,.d (.int .i64 i)),(7,.loc 1 0),(8,.d (.int .i64 k))],[(0,treeB rs),(1,truB rs[i])]⟩)
    (fun k=>k≤rs[i].body.length∧∀ j (hj:j < rs[i].body.length),j < k→tlOk rs[i].body[j]=true) (fun k=>rs[i].body.length - k) 0 ⟨Nat.zero_le _,fun j _ h=>absurd h (Nat.not_lt_zero j)⟩ (ent_ren id ⟨rfl,rfl,rfl,rfl,trivial⟩ ⟨rfl,rfl,trivial⟩ rfl rfl rfl rfl rfl rfl) ?_
   rintro k ⟨hkl,hkk⟩
   dsimp only at hkl hkk ⊢
   by_cases hkb:k < rs[i].body.length
   ·have lt2:(rs[i].body[k].terms.map encTTm).length=rs[i].body[k].terms.length:=List.length_map _
    have v1:=areTerms_fn rs[i].body[k].terms
    have v2:=isName_fn rs[i].body[k].name
    have v3:=between_fn rs[i].body[k].op 1 4
    have v4:=between_fn rs[i].body[k].op 5 7
    rw [nameR_eq] at v2
    cases hb1:tmsOk rs[i].body[k].terms <;> cases hb2:nameS rs[i].body[k].name
    all_goals
     rw [hb1] at v1
     rw [hb2] at v2
     repeat' (first|refine z0 ?_|refine z12 ?_|apply ds_nil|apply dw_seq2|refine z16 ?_|apply dw_block|apply dw_skip|apply dw_exit|apply dw_ret|refine z18 ?_|refine z19 ?_|apply thenD_n|apply thenD_e|apply thenD_r|apply inB_n|apply inB_r|refine z17 ?_|refine z21 ?_ (hc:=by apply v1)|refine z21 ?_ (hc:=by apply v2)|refine z21 ?_ (hc:=by apply v3)|refine z21 ?_ (hc:=by apply v4)|refine z1 ?_|refine z3 ?_|(refine z23 ?_ ?_ <;> intro hg)|(apply dw_cond;exact rfl;all_goals intro hg)|((fail_if_success (apply ds_known;exact rfl));apply ds_guardP;exact rfl;exact rfl;exact rfl;all_goals intro hg)|((fail_if_success (apply ds_known;exact rfl));apply ds_guardB;exact rfl;exact rfl;exact rfl;all_goals intro hg))
    all_goals try (exfalso;omega)
    all_goals first
     | exact ret_i rfl (checkT_1 h12 hno hil (truOk_lit hkb (by unfold tlOk;first|(simp_all;done)|(simp_all;omega)))).symm
     | exact⟨k + 1,⟨by omega,next_all hkk hkb (by unfold tlOk;first|(simp_all;done)|(simp_all;omega))⟩,ent_ren id ⟨rfl,rfl,rfl,rfl,trivial⟩ ⟨rfl,rfl,trivial⟩ rfl rfl rfl rfl rfl rfl,by show rs[i].body.length - (k + 1) < rs[i].body.length - k;omega⟩
   ·have hn:=next_all (p:=truOk) hk hil (truOk_all hh fun j hj=>hkk j hj (by omega))
    repeat' (first|refine z0 ?_|apply ds_nil|apply dw_seq2|refine z16 ?_|apply dw_block|apply dw_skip|apply dw_exit|apply thenD_n|apply thenD_e|apply inB_n|refine z17 ?_|refine z1 ?_|refine z3 ?_|(refine z23 ?_ ?_ <;> intro hg)|fail)
    all_goals try (exfalso;omega)
    exact⟨i + 1,⟨by omega,hn⟩,ent_ren id ⟨rfl,rfl,trivial⟩ ⟨rfl,trivial⟩ rfl rfl rfl rfl rfl rfl,by show rs.length - (i + 1) < rs.length - i;omega⟩
 ·have he:=checkT_0 h12 hno fun j hj=>hk j hj (by omega)
  repeat' (first|refine z0 ?_|apply ds_nil|apply dw_seq2|refine z16 ?_|apply dw_block|apply dw_skip|apply dw_exit|apply dw_ret|apply thenD_n|apply thenD_e|refine z17 ?_|refine z1 ?_|refine z3 ?_|(refine z23 ?_ ?_ <;> intro hg)|fail)
  all_goals try (exfalso;omega)
  exact ret_i rfl he.symm
def sameTTm (a b:TTm):Bool:=decide (a.var=b.var) && decide (a.n=b.n)
def sameTLt (at_:Bool) (x y:TLt):Bool:=(!at_ || decide (x.at_=y.at_)) && (decide (x.kind=y.kind) && (decide (x.op=y.op) && (decide (x.name=y.name) && sameL sameTTm x.terms y.terms)))
def sameTRu (at_:Bool) (a b:TRu):Bool:=(!at_ || decide (a.at_=b.at_)) && (decide (a.name=b.name) && (decide (a.fold=b.fold) && (sameL sameTTm a.terms b.terms && sameL (sameTLt at_) a.body b.body)))
theorem ttm_not {x y:TTm} {b:Bool} (h:(!(decide (x.var=y.var) && (decide (x.n=y.n) && true))) = !b):sameTTm x y=b:=by
 unfold sameTTm
 rw [Bool.and_true] at h
 exact Bool.not_inj h
set_option maxHeartbeats 8000000 in
theorem eqTerms_fn (l m:List TTm):Fn 82 [.d (.slice 2 (l.map encTTm)),.d (.slice 2 (m.map encTTm))] (fun r=>r = .d (.bool (sameL sameTTm l m))):=by
 refine fnp_enter' _ Tryz.func82 rfl rfl (by kernel_rfl) ?_
 intro O w0 E0 β0
 refine dw_len_map (t:=0) rfl fun hb=>?_
 refine dw_len_map (t:=1) rfl fun hb2=>?_
 have ll:(l.map encTTm).length=l.length:=List.length_map _
 have lm:(m.map encTTm).length=m.length:=List.length_map _
 by_cases hl:l.length=m.length
 ·repeat' (first|refine z0 ?_|apply ds_nil|apply dw_seq2|refine z16 ?_|apply dw_block|apply dw_skip|apply dw_ret|apply thenD_n|apply thenD_r|(refine z23 ?_ ?_ <;> intro hg)|fail)
  all_goals try (exfalso;omega)
  refine ds_loop (ι:=Nat) (fun i=>⟨0,[(0,.d (.slice 2 (l.map encTTm))),(1,.d (.slice 2 (m.map encTTm))),(12,.d (.int .i64 l.length)),(13,.d (.int .i64 i))],[]⟩)
   (fun i=>i≤l.length∧sameL sameTTm l m=sameL sameTTm (l.drop i) (m.drop i)) (fun i=>l.length - i) 0 ⟨Nat.zero_le _,rfl⟩ (ent_ren id ⟨rfl,rfl,by rw [← ll];rfl,rfl,trivial⟩ trivial rfl rfl rfl rfl rfl rfl) ?_
  rintro i ⟨g1,g2⟩
  dsimp only at g1 g2 ⊢
  by_cases hi:i < l.length
  ·have hm:i < m.length:=by omega
   rw [sameL_drop sameTTm l m i hi hm] at g2
   repeat' (first|refine z0 ?_|apply ds_nil|apply dw_seq2|refine z16 ?_|apply thenD_n)
   refine dw_condP rfl (fun h=>?_) (fun h=>?_)
   rotate_left
   ·exact absurd h (by omega)
   repeat' (first|refine z0 ?_|apply ds_nil|refine z5 ?_|refine z10 ?_|apply dw_seq2|refine z16 ?_|refine z20 ?_|apply dw_block|apply dw_skip|apply thenD_n)
   refine dw_cond rfl (fun hb=>?_) (fun hb=>?_)
   ·have hp:sameTTm l[i] m[i]=false:=ttm_not hb
    repeat' (first|refine z0 ?_|apply ds_nil|apply dw_seq2|refine z16 ?_|apply dw_ret|apply thenD_n|apply thenD_r|apply inB_r)
    exact ret_b rfl (by rw [g2,hp];rfl)
   ·have hp:sameTTm l[i] m[i]=true:=ttm_not hb
    repeat' (first|refine z0 ?_|apply ds_nil|refine z16 ?_|apply dw_skip|apply thenD_n|apply inB_n)
    all_goals try (exfalso;omega)
    exact⟨i + 1,⟨hi,by rw [g2,hp];rfl⟩,ent_ren id ⟨rfl,rfl,rfl,rfl,trivial⟩ trivial rfl rfl rfl rfl rfl rfl,by omega⟩
  ·rw [sameL_end sameTTm l m i (by omega) (by omega)] at g2
   repeat' (first|refine z0 ?_|apply ds_nil|refine z5 ?_|refine z10 ?_|apply dw_seq2|refine z16 ?_|refine z20 ?_|apply dw_block|apply dw_skip|apply dw_exit|apply dw_ret|apply thenD_n|apply thenD_e|apply thenD_r|apply inB_n|apply inB_r|refine z17 ?_|(refine z23 ?_ ?_ <;> intro hg)|(apply dw_cond;exact rfl;all_goals intro hg))
   all_goals try (exfalso;omega)
   exact⟨.inl rfl,_,rfl,rfl,by rw [g2];rfl⟩
 ·rw [sameL_len sameTTm l m hl]
  repeat' (first|refine z0 ?_|apply ds_nil|apply dw_seq2|refine z16 ?_|apply dw_block|apply dw_skip|apply dw_ret|apply thenD_n|apply thenD_r|(refine z23 ?_ ?_ <;> intro hg)|fail)
  all_goals try (exfalso;omega)
  exact⟨.inl rfl,_,rfl,rfl,rfl⟩
def sameLtP (x y:TLt):Bool:=decide (x.kind=y.kind) && (decide (x.op=y.op) && (decide (x.name=y.name) && sameL sameTTm x.terms y.terms))
def sameRuP (a b:TRu):Bool:=decide (a.name=b.name) && (sameL sameTTm a.terms b.terms && (decide (a.fold=b.fold) && sameL sameLtP a.body b.body))
set_option maxHeartbeats 8000000 in
theorem sameLit_fn (x y:TLt):Fn 84 ([elTLt x,elTLt y]++[]) (fun r=>r = .d (.bool (sameLtP x y))):=by
 refine fnp_enter' _ Tryz.func84 rfl rfl (by kernel_rfl) ?_
 intro O w0 E0 β0
 have w1:=eqTerms_fn x.terms y.terms
 unfold sameLtP
 cases hb1:sameL sameTTm x.terms y.terms
 all_goals
  rw [hb1] at w1
  repeat' (first|refine z0 ?_|refine z12 ?_|apply ds_nil|apply dw_seq2|refine z16 ?_|apply dw_ret|apply thenD_n|refine z21 ?_ (hc:=by apply w1)|refine z1 ?_|((fail_if_success (apply ds_known;exact rfl));apply ds_guardP;exact rfl;exact rfl;exact rfl;all_goals intro hg))
 all_goals try (exfalso;omega)
 all_goals exact ret_b rfl (by simp_all)
set_option maxHeartbeats 8000000 in
theorem eqLits_fn {f:FuncId} (l m:List (TLt)) (hp:∀ a b,Fn f ([elTLt a,elTLt b]++[]) (fun r=>r = .d (.bool (sameLtP a b)))):Fn 83 [.d (.slice 5 (l.map encTLt)),.d (.slice 5 (m.map encTLt)),.fn f []] (fun r=>r = .d (.bool (sameL sameLtP l m))):=by
 refine fnp_enter' _ Tryz.func83 rfl rfl (by kernel_rfl) ?_
 intro O w0 E0 β0
 refine dw_len_map (t:=0) rfl fun hb=>?_
 refine dw_len_map (t:=1) rfl fun hb2=>?_
 have ll:(l.map encTLt).length=l.length:=List.length_map _
 have lm:(m.map encTLt).length=m.length:=List.length_map _
 by_cases hl:l.length=m.length
 ·repeat' (first|refine z0 ?_|apply ds_nil|apply dw_seq2|refine z16 ?_|apply dw_block|apply dw_skip|apply dw_ret|apply thenD_n|apply thenD_r|(refine z23 ?_ ?_ <;> intro hg)|fail)
  all_goals try (exfalso;omega)
  refine ds_loop (ι:=Nat) (fun i=>⟨0,[(1,.d (.slice 5 (m.map encTLt))),(2,.fn f []),(15,.d (.slice 5 (l.map encTLt))),(16,.d (.int .i64 l.length)),(17,.d (.int .i64 i))],[]⟩)
   (fun i=>i≤l.length∧sameL (sameLtP) l m=sameL (sameLtP) (l.drop i) (m.drop i)) (fun i=>l.length - i) 0 ⟨Nat.zero_le _,rfl⟩ (ent_ren id ⟨rfl,rfl,rfl,by rw [← ll];rfl,rfl,trivial⟩ trivial rfl rfl rfl rfl rfl rfl) ?_
  rintro i ⟨g1,g2⟩
  dsimp only at g1 g2 ⊢
  by_cases hi:i < l.length
  ·have w:=hp l[i] (m[i]'(by omega))
   rw [sameL_drop (sameLtP) l m i hi (by omega)] at g2
   cases hs:sameLtP l[i] (m[i]'(by omega)) with
   | true =>
    rw [hs] at w
    rw [hs,Bool.true_and] at g2
    repeat' (first|refine z0 ?_|apply ds_nil|apply dw_seq2|refine z16 ?_|apply dw_block|apply dw_skip|apply dw_exit|apply dw_ret|refine z19 ?_|apply thenD_n|apply thenD_e|apply inB_n|refine z17 ?_|(apply ds_callV;exact rfl;exact rfl;exact rfl;exact rfl;apply w;exact rfl;(exact rfl);exact rfl;rintro _ rfl)|refine z1 ?_|refine z3 ?_|(refine z23 ?_ ?_ <;> intro hg)|fail)
    all_goals try (exfalso;omega)
    exact⟨i + 1,⟨hi,g2⟩,ent_ren id ⟨rfl,rfl,rfl,rfl,rfl,trivial⟩ trivial rfl rfl rfl rfl rfl rfl,by omega⟩
   | false =>
    rw [hs] at w
    rw [hs,Bool.false_and] at g2
    repeat' (first|refine z0 ?_|apply ds_nil|apply dw_seq2|refine z16 ?_|apply dw_block|apply dw_skip|apply dw_exit|apply dw_ret|refine z18 ?_|apply thenD_n|apply thenD_e|apply thenD_r|apply inB_r|refine z17 ?_|(apply ds_callV;exact rfl;exact rfl;exact rfl;exact rfl;apply w;exact rfl;(exact rfl);exact rfl;rintro _ rfl)|refine z1 ?_|refine z3 ?_|(refine z23 ?_ ?_ <;> intro hg)|fail)
    all_goals try (exfalso;omega)
    exact⟨.inl rfl,_,rfl,rfl,by rw [g2];rfl⟩
  ·rw [sameL_end (sameLtP) l m i (by omega) (by omega)] at g2
   repeat' (first|refine z0 ?_|apply ds_nil|apply dw_seq2|refine z16 ?_|apply dw_block|apply dw_skip|apply dw_exit|apply dw_ret|apply thenD_n|apply thenD_e|refine z17 ?_|refine z1 ?_|refine z3 ?_|(refine z23 ?_ ?_ <;> intro hg)|fail)
   all_goals try (exfalso;omega)
   exact⟨.inl rfl,_,rfl,rfl,by rw [g2];rfl⟩
 ·rw [sameL_len (sameLtP) l m hl]
  repeat' (first|refine z0 ?_|apply ds_nil|apply dw_seq2|refine z16 ?_|apply dw_block|apply dw_skip|apply dw_ret|apply thenD_n|apply thenD_r|(refine z23 ?_ ?_ <;> intro hg)|fail)
  all_goals try (exfalso;omega)
  exact⟨.inl rfl,_,rfl,rfl,rfl⟩
set_option maxHeartbeats 8000000 in
theorem sameRule_fn (a b:TRu):Fn 49 ([elTRu a,elTRu b]++[]) (fun r=>r = .d (.bool (sameRuP a b))):=by
 refine fnp_enter' _ Tryz.func49 rfl rfl (by kernel_rfl) ?_
 intro O w0 E0 β0
 have w1:=eqTerms_fn a.terms b.terms
 have w2:=eqLits_fn a.body b.body sameLit_fn
 unfold sameRuP
 cases hb1:sameL sameTTm a.terms b.terms <;> cases hb2:sameL sameLtP a.body b.body
 all_goals
  rw [hb1] at w1
  rw [hb2] at w2
  repeat' (first|refine z0 ?_|refine z12 ?_|apply ds_nil|apply dw_seq2|refine z16 ?_|apply dw_ret|apply thenD_n|refine z21 ?_ (hc:=by apply w1)|refine z21 ?_ (hc:=by apply w2)|refine z1 ?_|((fail_if_success (apply ds_known;exact rfl));apply ds_guardP;exact rfl;exact rfl;exact rfl;all_goals intro hg))
 all_goals try (exfalso;omega)
 all_goals exact ret_b rfl (by simp_all)
set_option maxHeartbeats 8000000 in
theorem eqRules_fn {f:FuncId} (l m:List (TRu)) (hp:∀ a b,Fn f ([elTRu a,elTRu b]++[]) (fun r=>r = .d (.bool (sameRuP a b)))):Fn 48 [.d (.slice 5 (l.map encTRu)),.d (.slice 5 (m.map encTRu)),.fn f []] (fun r=>r = .d (.bool (sameL sameRuP l m))):=by
 refine fnp_enter' _ Tryz.func48 rfl rfl (by kernel_rfl) ?_
 intro O w0 E0 β0
 refine dw_len_map (t:=0) rfl fun hb=>?_
 refine dw_len_map (t:=1) rfl fun hb2=>?_
 have ll:(l.map encTRu).length=l.length:=List.length_map _
 have lm:(m.map encTRu).length=m.length:=List.length_map _
 by_cases hl:l.length=m.length
 ·repeat' (first|refine z0 ?_|apply ds_nil|apply dw_seq2|refine z16 ?_|apply dw_block|apply dw_skip|apply dw_ret|apply thenD_n|apply thenD_r|(refine z23 ?_ ?_ <;> intro hg)|fail)
  all_goals try (exfalso;omega)
  refine ds_loop (ι:=Nat) (fun i=>⟨0,[(1,.d (.slice 5 (m.map encTRu))),(2,.fn f []),(15,.d (.slice 5 (l.map encTRu))),(16,.d (.int .i64 l.length)),(17,.d (.int .i64 i))],[]⟩)
   (fun i=>i≤l.length∧sameL (sameRuP) l m=sameL (sameRuP) (l.drop i) (m.drop i)) (fun i=>l.length - i) 0 ⟨Nat.zero_le _,rfl⟩ (ent_ren id ⟨rfl,rfl,rfl,by rw [← ll];rfl,rfl,trivial⟩ trivial rfl rfl rfl rfl rfl rfl) ?_
  rintro i ⟨g1,g2⟩
  dsimp only at g1 g2 ⊢
  by_cases hi:i < l.length
  ·have w:=hp l[i] (m[i]'(by omega))
   rw [sameL_drop (sameRuP) l m i hi (by omega)] at g2
   cases hs:sameRuP l[i] (m[i]'(by omega)) with
   | true =>
    rw [hs] at w
    rw [hs,Bool.true_and] at g2
    repeat' (first|refine z0 ?_|apply ds_nil|apply dw_seq2|refine z16 ?_|apply dw_block|apply dw_skip|apply dw_exit|apply dw_ret|refine z19 ?_|apply thenD_n|apply thenD_e|apply inB_n|refine z17 ?_|(apply ds_callV;exact rfl;exact rfl;exact rfl;exact rfl;apply w;exact rfl;(exact rfl);exact rfl;rintro _ rfl)|refine z1 ?_|refine z3 ?_|(refine z23 ?_ ?_ <;> intro hg)|fail)
    all_goals try (exfalso;omega)
    exact⟨i + 1,⟨hi,g2⟩,ent_ren id ⟨rfl,rfl,rfl,rfl,rfl,trivial⟩ trivial rfl rfl rfl rfl rfl rfl,by omega⟩
   | false =>
    rw [hs] at w
    rw [hs,Bool.false_and] at g2
    repeat' (first|refine z0 ?_|apply ds_nil|apply dw_seq2|refine z16 ?_|apply dw_block|apply dw_skip|apply dw_exit|apply dw_ret|refine z18 ?_|apply thenD_n|apply thenD_e|apply thenD_r|apply inB_r|refine z17 ?_|(apply ds_callV;exact rfl;exact rfl;exact rfl;exact rfl;apply w;exact rfl;(exact rfl);exact rfl;rintro _ rfl)|refine z1 ?_|refine z3 ?_|(refine z23 ?_ ?_ <;> intro hg)|fail)
    all_goals try (exfalso;omega)
    exact⟨.inl rfl,_,rfl,rfl,by rw [g2];rfl⟩
  ·rw [sameL_end (sameRuP) l m i (by omega) (by omega)] at g2
   repeat' (first|refine z0 ?_|apply ds_nil|apply dw_seq2|refine z16 ?_|apply dw_block|apply dw_skip|apply dw_exit|apply dw_ret|apply thenD_n|apply thenD_e|refine z17 ?_|refine z1 ?_|refine z3 ?_|(refine z23 ?_ ?_ <;> intro hg)|fail)
   all_goals try (exfalso;omega)
   exact⟨.inl rfl,_,rfl,rfl,by rw [g2];rfl⟩
 ·rw [sameL_len (sameRuP) l m hl]
  repeat' (first|refine z0 ?_|apply ds_nil|apply dw_seq2|refine z16 ?_|apply dw_block|apply dw_skip|apply dw_ret|apply thenD_n|apply thenD_r|(refine z23 ?_ ?_ <;> intro hg)|fail)
  all_goals try (exfalso;omega)
  exact⟨.inl rfl,_,rfl,rfl,rfl⟩
theorem sameLtP_eq:sameLtP=sameTLt false:=by
 funext x y
 unfold sameLtP sameTLt
 rfl
theorem sameRuP_eq:sameRuP=sameTRu false:=by
 funext a b
 unfold sameRuP sameTRu
 rw [sameLtP_eq]
 cases decide (a.name=b.name) <;> cases decide (a.fold=b.fold) <;> cases sameL sameTTm a.terms b.terms <;> rfl
set_option maxHeartbeats 8000000 in
theorem ssame_fn (rs us:List TRu):Fn 20 [.agg [.d (.slice 5 (rs.map encTRu))],.agg [.d (.slice 5 (us.map encTRu))]] (fun r=>r = .d (.bool (sameL (sameTRu false) rs us))):=by
 refine fnp_enter' _ Tryz.func20 rfl rfl (by kernel_rfl) ?_
 intro O w0 E0 β0
 have w1:=eqRules_fn rs us sameRule_fn
 rw [sameRuP_eq] at w1
 repeat' (first|refine z0 ?_|apply ds_nil|apply dw_seq2|refine z16 ?_|apply dw_ret|apply thenD_n|refine z21 ?_ (hc:=by apply w1)|refine z1 ?_|fail)
 exact ret_b rfl rfl
end Go.Proofs.YtapciiffpnociabGreatDoor
namespace Go.Proofs.YtapciiffpnociabGreatDoor
open Go Go.RowKit
section
variable {Γ : Ctx} {k : Nat} {L : Sl} {H : Hp}
end
abbrev treeV (rs:List TRu):SV:=.agg [.d (.slice 5 (rs.map encTRu))]
attribute [local irreducible] DW DS DL DQ Ev FnOk FnP FnOkE thenD inBlockD
theorem chain_atT {s:ByteArray}:∀ (l:List Tok) (i:Nat),Chain s i l→∀ t∈l,0≤t.at_∧t.at_≤s.size
 | [],_,_,_,ht=>nomatch ht
 | t::l,i,h,x,hx=>by
  obtain⟨j,_,hat,⟨hj,_,_⟩,_,_,h5⟩:=h
  rcases List.mem_cons.1 hx with rfl|hx
  ·omega
  ·exact chain_atT l _ h5 x hx
theorem chain_lenT {s:ByteArray}:∀ (l:List Tok) (i:Nat),Chain s i l→i≤s.size→l.length + i≤s.size
 | [],_,_,h=>by simpa using h
 | t::l,i,h,hi=>by
  obtain⟨j,hij,hat,⟨hj,h1,h2⟩,h3,h4,h5⟩:=h
  have hk:=tokErr_kind h2
  have hp:=tokAt_pos (s.data.toList.drop j) (by rw [h1];exact hk)
  rw [h1] at hp
  have:=chain_lenT l _ h5 (by omega)
  rw [List.length_cons]
  omega
def encParse (q:List TRu × Int × Int):SV:=.tup [treeV q.1,.d (.int .i64 q.2.1),.d (.int .i64 q.2.2)]
def smallS:ByteArray:=⟨#[113,40,49,44,32,50,41,46,10,112,40,88,44,32,99,111,117,110,116,32,89,41,32,58,45,32,113,40,88,44,32,89,41,44,32,110,111,116,32,114,40,89,41,44,32,88,32,60,32,89,46,10]⟩
def smallRs:List TRu:=[⟨0,⟨#[113]⟩,[⟨⟨#[]⟩,1⟩,⟨⟨#[]⟩,2⟩],0,[]⟩,⟨9,⟨#[112]⟩,[⟨⟨#[88]⟩,0⟩,⟨⟨#[89]⟩,0⟩],1,[⟨1,26,0,⟨#[113]⟩,[⟨⟨#[88]⟩,0⟩,⟨⟨#[89]⟩,0⟩]⟩,⟨2,35,0,⟨#[114]⟩,[⟨⟨#[89]⟩,0⟩]⟩,⟨3,45,1,⟨#[]⟩,[⟨⟨#[88]⟩,0⟩,⟨⟨#[89]⟩,0⟩]⟩]⟩]
theorem small_parse:parseS smallS=(smallRs,0,0):=by kernel_rfl
theorem small_check:checkT smallRs=0:=by kernel_rfl
attribute [local irreducible] DT
def textT (l:List Tok) (i:Nat) (f:Bool):ByteArray:=match f with
 | true=>⟨#[]⟩
 | false=>match l[i]? with
  | some t=>t.text
  | none=>⟨#[]⟩
theorem textT_sees {l:List Tok} {i:Nat} {s:ByteArray} (hs:s≠⟨#[]⟩):decide (textT l i false=s)=seesT l i s:=by
 unfold textT seesT
 dsimp only
 cases l[i]? with
 | none=>exact decide_eq_false (fun h=>hs h.symm)
 | some t=>rfl
theorem textT_failed (l:List Tok) (i:Nat):textT l i true=⟨#[]⟩:=rfl
abbrev rdH (l:List Tok) (i:Nat) (e:Int) (f:Bool):Hp:=[(0,.blk 76 [.d (.slice 3 (l.map encTok)),.d (.int .i64 i),.d (.int .i64 e),.d (.bool f)])]
set_option maxHeartbeats 8000000 in
theorem rhere_fn (l:List Tok) (i:Nat) (e:Int) (f:Bool):FnOk false Tryz.prog tab tab_ok 33 [.loc 0 0] 1 1 (rdH l i e f) (fun k r H=>k=1∧r = .d (.int .i64 (hereT l e i))∧H=rdH l i e f):=by
 refine fn_enterR _ Tryz.func33 rfl rfl (by kernel_rfl) ?_
 intro O w0 E0 β0
 have ll:(l.map encTok).length=l.length:=List.length_map _
 by_cases hi:i < l.length
 ·have hh:hereT l e i=l[i].at_:=by unfold hereT;rw [List.getElem?_eq_getElem hi]
  rw [hh]
  repeat' (first|refine z0 ?_|apply ds_nil|refine z5 ?_|refine z10 ?_|apply dw_seq2|refine z16 ?_|refine z20 ?_|apply dw_skip|apply dw_ret|apply thenD_n|apply thenD_r|(refine z23 ?_ ?_ <;> intro hg)|fail)
  all_goals try (exfalso;omega)
  exact⟨.inl rfl,_,rfl,id,1,_,rdH l i e f,rfl,⟨rfl,trivial⟩,rfl,rfl,rfl,rfl,rfl,rfl,rfl,rfl,rfl⟩
 ·have hh:hereT l e i=e:=by unfold hereT;rw [List.getElem?_eq_none (by omega)]
  rw [hh]
  repeat' (first|refine z0 ?_|apply ds_nil|refine z5 ?_|refine z10 ?_|apply dw_seq2|refine z16 ?_|refine z20 ?_|apply dw_skip|apply dw_ret|apply thenD_n|apply thenD_r|(refine z23 ?_ ?_ <;> intro hg)|fail)
  all_goals try (exfalso;omega)
  exact⟨.inl rfl,_,rfl,id,1,_,rdH l i e f,rfl,⟨rfl,trivial⟩,rfl,rfl,rfl,rfl,rfl,rfl,rfl,rfl,rfl⟩
set_option maxHeartbeats 8000000 in
theorem rtext_fn (l:List Tok) (i:Nat) (e:Int) (f:Bool):FnOk false Tryz.prog tab tab_ok 36 [.loc 0 0] 1 1 (rdH l i e f) (fun k r H=>k=1∧r = .d (.str (textT l i f))∧H=rdH l i e f):=by
 refine fn_enterR _ Tryz.func36 rfl rfl (by kernel_rfl) ?_
 intro O w0 E0 β0
 have ll:(l.map encTok).length=l.length:=List.length_map _
 unfold textT
 cases f with
 | true =>
  repeat' (first|refine z0 ?_|apply ds_nil|refine z5 ?_|refine z14 ?_|refine z10 ?_|apply dw_seq2|refine z16 ?_|refine z20 ?_|apply dw_ret|refine z18 ?_|apply thenD_n|apply thenD_r)
  all_goals try (exfalso;omega)
  exact⟨.inl rfl,_,rfl,id,1,_,rdH l i e true,rfl,⟨rfl,trivial⟩,rfl,rfl,rfl,rfl,rfl,rfl,rfl,rfl,rfl⟩
 | false =>
  dsimp only
  by_cases hi:i < l.length
  ·rw [List.getElem?_eq_getElem hi]
   dsimp only
   repeat' (first|refine z0 ?_|apply ds_nil|refine z5 ?_|refine z10 ?_|apply dw_seq2|refine z16 ?_|refine z20 ?_|apply dw_skip|apply dw_ret|apply thenD_n|apply thenD_r|(refine z23 ?_ ?_ <;> intro hg)|fail)
   all_goals try (exfalso;omega)
   exact⟨.inl rfl,_,rfl,id,1,_,rdH l i e false,rfl,⟨rfl,trivial⟩,rfl,rfl,rfl,rfl,rfl,rfl,rfl,rfl,rfl⟩
  ·rw [List.getElem?_eq_none (by omega)]
   dsimp only
   repeat' (first|refine z0 ?_|apply ds_nil|refine z5 ?_|refine z10 ?_|apply dw_seq2|refine z16 ?_|refine z20 ?_|apply dw_skip|apply dw_ret|apply thenD_n|apply thenD_r|(refine z23 ?_ ?_ <;> intro hg)|fail)
   all_goals try (exfalso;omega)
   exact⟨.inl rfl,_,rfl,id,1,_,rdH l i e false,rfl,⟨rfl,trivial⟩,rfl,rfl,rfl,rfl,rfl,rfl,rfl,rfl,rfl⟩
set_option maxHeartbeats 8000000 in
theorem rneed_fn (l:List Tok) (i:Nat) (e:Int) (f:Bool) (s:ByteArray) (hi:i≤1000000):FnOk false Tryz.prog tab tab_ok 37 [.loc 0 0,.d (.str s)] 1 1 (rdH l i e f) (fun k r H=>k=1∧r = .tup []∧H=match f with
  | true=>rdH l i e true
  | false=>match decide (textT l i false=s) with
   | true=>rdH l (i + 1:Nat) e false
   | false=>rdH l i e true):=by
 refine fn_enterR _ Tryz.func37 rfl rfl (by kernel_rfl) ?_
 intro O w0 E0 β0
 cases f with
 | true =>
  repeat' (first|refine z0 ?_|apply ds_nil|apply dw_seq2|refine z16 ?_|apply dw_ret|refine z18 ?_|apply thenD_n|apply thenD_r)
  exact⟨.inl rfl,_,rfl,id,1,_,rdH l i e true,rfl,⟨rfl,trivial⟩,rfl,rfl,rfl,rfl,rfl,rfl,rfl,rfl,rfl⟩
 | false =>
  have w1:=rtext_fn l i e false
  repeat' (first|refine z0 ?_|apply ds_nil|apply dw_seq2|refine z16 ?_|apply dw_skip|refine z19 ?_|apply thenD_n)
  (refine ds_callF id (w1) rfl rfl rfl rfl ⟨rfl,trivial⟩ rfl rfl rfl rfl rfl rfl ?_ ?_)
  ·rintro k2 res H2 ⟨rfl,rfl,rfl⟩;exact⟨rfl,rfl⟩
  rintro k2 res H2 ⟨rfl,rfl,rfl⟩
  change DS _ _ _ _ _ _ _ _
  clear w1
  generalize textT l i false=t
  by_cases hs:t=s
  ·rw [decide_eq_true hs]
   repeat' (first|refine z0 ?_|apply ds_nil|refine z16 ?_|apply thenD_n|refine z3 ?_|(refine z23 ?_ ?_ <;> intro hg)|fail)
   all_goals try (exfalso;exact absurd hs (by assumption))
   exact⟨.inr rfl,_,rfl,id,1,_,rdH l (i + 1:Nat) e false,rfl,⟨rfl,trivial⟩,rfl,rfl,rfl,rfl,rfl,rfl,rfl,rfl,rfl⟩
  ·rw [decide_eq_false hs]
   repeat' (first|refine z0 ?_|apply ds_nil|refine z16 ?_|apply thenD_n|refine z3 ?_|(refine z23 ?_ ?_ <;> intro hg)|fail)
   all_goals try (exfalso;exact absurd (by assumption) hs)
   exact⟨.inr rfl,_,rfl,id,1,_,rdH l i e true,rfl,⟨rfl,trivial⟩,rfl,rfl,rfl,rfl,rfl,rfl,rfl,rfl,rfl⟩
def rdRes {α:Type} (p:PR α) (l:List Tok) (e:Int) (enc:α→SV) (junk:SV→Prop) (r:SV) (H:Hp):Prop:=match p with
 | .ok (x,j)=>r=enc x∧H=rdH l j e false
 | .error j=>junk r∧H=rdH l j e true
def rdP {α:Type} (f:Bool) (i:Nat) (p:PR α):PR α:=match f with
 | true=>.error i
 | false=>p
theorem tok_first {t:Tok} (h:tokOk t=true):∃ h0:0 < t.text.size,greatB t.text[0]=decide (t.kind=2)∧digitB t.text[0]=decide (t.kind=3)∧smallB t.text[0]=decide (t.kind=1):=by
 obtain⟨h0,_,h2,h3⟩:=ok_parts h
 obtain⟨r,hr⟩:=first_byte t.text h0
 refine⟨h0,?_⟩
 rw [hr,tokAt_cons] at h2
 generalize t.text[0]=c at *
 have x1:smallB c=true→greatB c=false∧digitB c=false:=by
  unfold smallB greatB digitB
  simp only [Bool.and_eq_true,decide_eq_true_eq,Bool.and_eq_false_iff,decide_eq_false_iff_not]
  omega
 have x2:greatB c=true→digitB c=false:=by
  unfold greatB digitB
  simp only [Bool.and_eq_true,decide_eq_true_eq,Bool.and_eq_false_iff,decide_eq_false_iff_not]
  omega
 unfold letterB at h2
 have hne:t.kind≠0:=tokErr_kind h3
 cases hs:smallB c with
 | true =>
  obtain⟨y1,y2⟩:=x1 hs
  rw [hs] at h2
  simp only [Bool.true_or,if_true] at h2
  have:=(Prod.mk.inj h2).1
  rw [y1,y2,← this]
  decide
 | false =>
  cases hg:greatB c with
  | true =>
   have y2:=x2 hg
   rw [hs,hg] at h2
   simp only [Bool.or_true,if_true,Bool.false_eq_true,if_false] at h2
   have:=(Prod.mk.inj h2).1
   rw [y2,← this]
   decide
  | false =>
   rw [hs,hg] at h2
   simp only [Bool.or_self,Bool.false_eq_true,if_false] at h2
   cases hd:digitB c with
   | true =>
    rw [hd] at h2
    simp only [if_true] at h2
    have:=(Prod.mk.inj h2).1
    rw [← this]
    decide
   | false =>
    rw [hd] at h2
    simp only [Bool.false_eq_true,if_false] at h2
    have:t.kind=4∨t.kind=0:=by
     split at h2
     ·exact .inl (Prod.mk.inj h2).1.symm
     ·split at h2
      ·exact .inl (Prod.mk.inj h2).1.symm
      ·exact .inr (Prod.mk.inj h2).1.symm
    rcases this with h|h
    ·rw [h];decide
    ·exact absurd h hne
theorem nameRS (s:ByteArray):nameR s=nameS s:=by unfold nameR nameS;rw [oneS_eq]
theorem nameS_nil:nameS ⟨#[]⟩=false:=by kernel_rfl
def numK (s:ByteArray) (k:Nat):Int:=(s.data.toList.take k).foldl (fun n c=>10 * n + ((c.toNat:Int) - 48)) 0
theorem numK_all (s:ByteArray):numK s s.size=numT s:=by
 unfold numK numT
 rw [List.take_of_length_le (by rw [show s.data.toList.length=s.size from Array.length_toList];exact Nat.le_refl _)]
theorem numK_succ (s:ByteArray) (k:Nat) (h:k < s.size):numK s (k + 1)=10 * numK s k + (s[k].toNat:Int) - 48:=by
 unfold numK
 have hl:k < s.data.toList.length:=by rw [show s.data.toList.length=s.size from Array.length_toList];exact h
 rw [List.take_succ_eq_append_getElem hl,List.foldl_append]
 show 10 * _ + (((s.data.toList[k]).toNat:Int) - 48)=_
 have:s.data.toList[k]=s[k]:=by rw [Array.getElem_toList];rfl
 rw [this]
 omega
theorem fold_bound:∀ (l:List UInt8) (a:Int) (k:Nat),(∀ c∈l,digitB c=true)→0≤a→a < 10 ^ k→0≤l.foldl (fun n c=>10 * n + ((c.toNat:Int) - 48)) a∧l.foldl (fun n c=>10 * n + ((c.toNat:Int) - 48)) a < 10 ^ (k + l.length):=by
 intro l
 induction l with
 | nil=>intro a k _ h0 h1;exact⟨h0,h1⟩
 | cons c l ih =>
  intro a k hd h0 h1
  have hc:=hd c (List.mem_cons_self ..)
  unfold digitB at hc
  simp only [Bool.and_eq_true,decide_eq_true_eq] at hc
  have:=ih (10 * a + ((c.toNat:Int) - 48)) (k + 1) (fun x hx=>hd x (List.mem_cons_of_mem _ hx)) (by omega) (by rw [Int.pow_succ];omega)
  rw [List.foldl_cons,List.length_cons,show k + (l.length + 1)=k + 1 + l.length by omega]
  exact this
theorem numK_bound {s:ByteArray} (h7:s.size≤7) (hd:∀ c∈s.data.toList,digitB c=true) (k:Nat):0≤numK s k∧numK s k≤9999999:=by
 have:=fold_bound (s.data.toList.take k) 0 0 (fun c hc=>hd c (List.mem_of_mem_take hc)) (Int.le_refl _) (by decide)
 unfold numK
 refine⟨this.1,?_⟩
 have h2:=this.2
 have hl:(s.data.toList.take k).length≤7:=by
  rw [List.length_take,show s.data.toList.length=s.size from Array.length_toList]
  omega
 have:(10:Int) ^ (0 + (s.data.toList.take k).length)≤10 ^ 7:=by
  have h3:(10:Nat) ^ (0 + (s.data.toList.take k).length)≤10 ^ 7:=Nat.pow_le_pow_right (by decide) (by omega)
  exact_mod_cast h3
 have h4:(10:Int) ^ 7=10000000:=by decide
 omega
set_option maxHeartbeats 8000000 in
theorem rname_fn (l:List Tok) (i:Nat) (e:Int) (f:Bool) (hi:i≤1000000):FnOk false Tryz.prog tab tab_ok 34 [.loc 0 0] 1 1 (rdH l i e f) (fun k r H=>k=1∧rdRes (rdP f i (nameT l i)) l e (fun s=>.d (.str s)) (fun r=>∃ s,r = .d (.str s)) r H):=by
 refine fn_enterR _ Tryz.func34 rfl rfl (by kernel_rfl) ?_
 intro O w0 E0 β0
 have w1:=rtext_fn l i e f
 have w2:=isName_fn (textT l i f)
 rw [nameRS] at w2
 have hn:rdP f i (nameT l i)=match nameS (textT l i f) with|true=>.ok (textT l i f,i + 1)|false=>.error i:=by
  unfold rdP nameT textT
  cases f with
  | true=>rw [nameS_nil]
  | false =>
   dsimp only
   cases l[i]? with
   | none=>dsimp only;rw [nameS_nil]
   | some t =>
    dsimp only
    cases nameS t.text <;> rfl
 rw [hn]
 unfold rdRes
 repeat' (first|refine z0 ?_|apply ds_nil|apply dw_seq2|refine z16 ?_|apply thenD_n)
 (refine ds_callF id (w1) rfl rfl rfl rfl ⟨rfl,trivial⟩ rfl rfl rfl rfl rfl rfl ?_ ?_)
 ·rintro k2 res H2 ⟨rfl,rfl,rfl⟩;exact⟨rfl,rfl⟩
 rintro k2 res H2 ⟨rfl,rfl,rfl⟩
 change DS _ _ _ _ _ _ _ _
 clear w1 hn
 have hf:nameS (textT l i f)=true→f=false:=fun h=>by
  cases f with
  | false=>rfl
  | true=>rw [textT_failed,nameS_nil] at h;cases h
 generalize textT l i f=t at *
 cases hs:nameS t with
 | true =>
  rw [hs] at w2
  cases hf hs
  repeat' (first|refine z0 ?_|apply ds_nil|apply dw_seq2|refine z16 ?_|apply dw_skip|apply dw_ret|refine z19 ?_|apply thenD_n|refine z21 ?_ (hc:=by apply w2)|refine z3 ?_|fail)
  exact⟨.inl rfl,_,rfl,id,1,_,rdH l (i + 1:Nat) e false,rfl,⟨rfl,trivial⟩,rfl,rfl,rfl,rfl,rfl,rfl,rfl,rfl,rfl⟩
 | false =>
  rw [hs] at w2
  repeat' (first|refine z0 ?_|apply ds_nil|apply dw_seq2|refine z16 ?_|apply dw_ret|refine z18 ?_|apply thenD_n|apply thenD_r|refine z21 ?_ (hc:=by apply w2)|refine z3 ?_|fail)
  exact⟨.inl rfl,_,rfl,id,1,_,rdH l i e true,rfl,⟨rfl,trivial⟩,rfl,rfl,rfl,rfl,rfl,rfl,rfl,⟨_,rfl⟩,rfl⟩
theorem greatI (c:UInt8):(decide ((65:Int)≤c.toNat) && decide ((c.toNat:Int)≤90))=greatB c:=by unfold greatB;rfl
theorem minus_first {t:Tok} (hm:t.text=⟨#[45]⟩) (h:tokOk t=true):t.kind≠2:=by
 obtain⟨h0,h1,_⟩:=tok_first h
 intro hk
 rw [hk] at h1
 have:t.text[0]=45:=by simp only [hm];rfl
 rw [this,show greatB 45=false by unfold greatB;decide] at h1
 cases h1
theorem termT_var {l:List Tok} {i:Nat} (hi:i < l.length) (hot:tokOk l[i]=true) (hk:l[i].kind=2):termT l i = .ok (⟨l[i].text,0⟩,i + 1):=by
 have hn:seesT l i ⟨#[45]⟩=false:=by
  unfold seesT
  rw [List.getElem?_eq_getElem hi]
  exact decide_eq_false fun hm=>minus_first hm hot hk
 unfold termT
 rw [hn]
 dsimp only
 rw [List.getElem?_eq_getElem hi]
 dsimp only
 rw [if_pos ⟨hk,rfl⟩]
theorem termT_pos {l:List Tok} {i:Nat} (hi:i < l.length) (hn:l[i].text≠⟨#[45]⟩) (hk:l[i].kind≠2):termT l i=if l[i].kind=3 then .ok (⟨⟨#[]⟩,1 * numT l[i].text⟩,i + 1) else .error i:=by
 have hn:seesT l i ⟨#[45]⟩=false:=by
  unfold seesT
  rw [List.getElem?_eq_getElem hi]
  exact decide_eq_false hn
 unfold termT
 rw [hn]
 dsimp only
 rw [List.getElem?_eq_getElem hi]
 dsimp only
 rw [if_neg (fun h=>hk h.1)]
 by_cases h3:l[i].kind=3
 ·rw [if_neg (fun h=>h.elim (fun h=>h h3) (fun h=>Bool.noConfusion h.1)),if_pos h3]
 ·rw [if_pos (.inl h3),if_neg h3]
theorem termT_neg {l:List Tok} {i:Nat} (hi:i < l.length) (hn:l[i].text=⟨#[45]⟩):termT l i=match l[i + 1]? with
  | none=>.error (i + 1)
  | some t=>if t.kind=3∧t.text≠⟨#[48]⟩ then .ok (⟨⟨#[]⟩,-1 * numT t.text⟩,i + 1 + 1) else .error (i + 1):=by
 have hn:seesT l i ⟨#[45]⟩=true:=by
  unfold seesT
  rw [List.getElem?_eq_getElem hi]
  exact decide_eq_true hn
 unfold termT
 rw [hn]
 dsimp only
 cases l[i + 1]? with
 | none=>rfl
 | some t =>
  dsimp only
  rw [if_neg (fun h=>Bool.noConfusion h.2)]
  by_cases h3:t.kind=3∧t.text≠⟨#[48]⟩
  ·rw [if_neg (fun h=>h.elim (fun h=>h h3.1) (fun h=>h3.2 h.2)),if_pos h3]
  ·rw [if_pos (Classical.or_iff_not_imp_left.2 fun h=>⟨rfl,Classical.byContradiction fun h2=>h3 ⟨Classical.byContradiction h,h2⟩⟩),if_neg h3]
theorem text_some {l:List Tok} {i:Nat} (hi:i < l.length):textT l i false=l[i].text:=by unfold textT;rw [List.getElem?_eq_getElem hi]
theorem text_ne {l:List Tok} {i:Nat} {f:Bool} (h:textT l i f≠⟨#[]⟩):f=false∧i < l.length:=by
 unfold textT at h
 cases f with
 | true=>exact absurd rfl h
 | false =>
  refine⟨rfl,Classical.byContradiction fun hn=>?_⟩
  rw [List.getElem?_eq_none (by omega)] at h
  exact h rfl
theorem tok_ne {t:Tok} (h:tokOk t=true):t.text≠⟨#[]⟩:=by
 obtain⟨h0,_⟩:=tok_first h
 intro hn
 rw [hn] at h0
 exact absurd h0 (by decide)
set_option maxHeartbeats 8000000 in
theorem rterm_fn (l:List Tok) (i:Nat) (e:Int) (f:Bool) (hi:i≤1000000) (hok:l.all tokOk=true):FnOk false Tryz.prog tab tab_ok 60 [.loc 0 0] 1 1 (rdH l i e f) (fun k r H=>k=1∧rdRes (rdP f i (termT l i)) l e tmV (fun r=>∃ t,r=tmV t) r H):=by
 refine fn_enterR _ Tryz.func60 rfl rfl (by kernel_rfl) ?_
 intro O w0 E0 β0
 have w1:=rtext_fn l i e f
 repeat' (first|refine z0 ?_|apply ds_nil|apply dw_seq2|refine z16 ?_|apply thenD_n|refine z1 ?_|fail)
 (refine ds_callF id (w1) rfl rfl rfl rfl ⟨rfl,trivial⟩ rfl rfl rfl rfl rfl rfl ?_ ?_)
 ·rintro k2 res H2 ⟨rfl,rfl,rfl⟩;exact⟨rfl,rfl⟩
 rintro k2 res H2 ⟨rfl,rfl,rfl⟩
 change DS _ _ _ _ _ _ _ _
 clear w1
 by_cases h0:textT l i f=⟨#[]⟩
 ·have hp:rdP f i (termT l i) = .error i:=by
   cases f with
   | true=>rfl
   | false =>
    by_cases hil:i < l.length
    ·rw [text_some hil] at h0
     exact absurd h0 (tok_ne (List.all_eq_true.1 hok _ (List.getElem_mem hil)))
    ·have hn:seesT l i ⟨#[45]⟩=false:=by unfold seesT;rw [List.getElem?_eq_none (by omega)]
     unfold rdP termT
     rw [hn]
     dsimp only
     rw [List.getElem?_eq_none (by omega)]
  rw [hp,h0]
  unfold rdRes
  repeat' (first|refine z0 ?_|refine z12 ?_|apply ds_nil|apply dw_seq2|refine z16 ?_|apply dw_skip|apply dw_ret|refine z18 ?_|refine z19 ?_|apply thenD_n|apply thenD_r|refine z3 ?_|fail)
  all_goals try (exfalso;omega)
  exact⟨.inl rfl,_,rfl,id,1,_,rdH l (i) e true,rfl,⟨rfl,trivial⟩,rfl,rfl,rfl,rfl,rfl,rfl,rfl,⟨⟨⟨#[]⟩,0⟩,rfl⟩,rfl⟩
 obtain⟨rfl,hil⟩:=text_ne h0
 rw [text_some hil] at h0 ⊢
 unfold rdP
 dsimp only
 have hot:=List.all_eq_true.1 hok _ (List.getElem_mem hil)
 obtain⟨y0,y1,y2,_⟩:=tok_first hot
 by_cases hk:l[i].kind=2
 ·rw [termT_var hil hot hk]
  unfold rdRes
  have w3:=between_fn (l[i].text[0].toNat:Int) 65 90
  rw [greatI,y1,decide_eq_true hk] at w3
  repeat' (first|refine z0 ?_|refine z12 ?_|apply ds_nil|apply dw_seq2|refine z16 ?_|apply dw_skip|apply dw_ret|refine z18 ?_|refine z19 ?_|apply thenD_n|apply thenD_r|refine z21 ?_ (hc:=by apply w3)|refine z3 ?_|(refine z23 ?_ ?_ <;> intro hg)|((fail_if_success (apply ds_known;exact rfl));apply ds_guardP;exact rfl;exact rfl;exact rfl;all_goals intro hg))
  all_goals try (exfalso;first|omega|exact absurd (by assumption) h0|exact absurd h0 (by assumption))
  exact⟨.inl rfl,_,rfl,id,1,_,rdH l (i + 1:Nat) e false,rfl,⟨rfl,trivial⟩,rfl,rfl,rfl,rfl,rfl,rfl,rfl,rfl,rfl⟩
 have w2:=between_fn (l[i].text[0].toNat:Int) 65 90
 rw [greatI,y1,decide_eq_false hk] at w2
 by_cases hm:l[i].text=⟨#[45]⟩
 ·rw [termT_neg hil hm]
  have w5:=rneed_fn l i e false ⟨#[45]⟩ hi
  rw [text_some hil,hm,decide_eq_true rfl] at w5
  dsimp only at w5
  have w6:=rtext_fn l (i + 1) e false
  repeat' (first|refine z0 ?_|refine z12 ?_|apply ds_nil|apply dw_seq2|refine z16 ?_|apply dw_skip|refine z18 ?_|refine z19 ?_|apply thenD_n|refine z21 ?_ (hc:=by apply w2)|refine z3 ?_|(refine z23 ?_ ?_ <;> intro hg)|((fail_if_success (apply ds_known;exact rfl));apply ds_guardP;exact rfl;exact rfl;exact rfl;all_goals intro hg))
  all_goals try (exfalso;first|omega|exact absurd (by assumption) h0|exact absurd h0 (by assumption)|exact absurd hm (by assumption))
  (refine ds_callF id (w5) rfl rfl rfl rfl ⟨rfl,trivial⟩ rfl rfl rfl rfl rfl rfl ?_ ?_)
  ·rintro k2 res H2 ⟨rfl,rfl,rfl⟩;exact⟨rfl,rfl⟩
  rintro k2 res H2 ⟨rfl,rfl,rfl⟩
  change DS _ _ _ _ _ _ _ _
  clear w5
  repeat' (first|refine z0 ?_|apply ds_nil|apply dw_seq2|refine z16 ?_|apply thenD_n)
  (refine ds_callF id (w6) rfl rfl rfl rfl ⟨rfl,trivial⟩ rfl rfl rfl rfl rfl rfl ?_ ?_)
  ·rintro k2 res H2 ⟨rfl,rfl,rfl⟩;exact⟨rfl,rfl⟩
  rintro k2 res H2 ⟨rfl,rfl,rfl⟩
  change DS _ _ _ _ _ _ _ _
  clear w6 w2
  by_cases hil1:i + 1 < l.length
  ·rw [text_some hil1,List.getElem?_eq_getElem hil1]
   dsimp only
   have hot2:=List.all_eq_true.1 hok _ (List.getElem_mem hil1)
   have hne2:=tok_ne hot2
   by_cases hk3:l[i + 1].kind=3∧l[i + 1].text≠⟨#[48]⟩
   ·rw [if_pos hk3]
    unfold rdRes
    obtain⟨c1,c2,c3⟩:=ok_num hot2 hk3.1
    obtain⟨u0,u1,u2,_⟩:=tok_first hot2
    rw [hk3.1] at u1 u2
    have w3:=between_fn (l[i + 1].text[0].toNat:Int) 65 90
    rw [greatI,u1] at w3
    have w4:=isDigit_fn l[i + 1].text[0]
    rw [u2] at w4
    repeat' (first|refine z0 ?_|refine z12 ?_|apply ds_nil|apply dw_seq2|refine z16 ?_|apply dw_block|apply dw_skip|refine z18 ?_|apply thenD_n|refine z21 ?_ (hc:=by apply w4)|refine z3 ?_|(refine z23 ?_ ?_ <;> intro hg)|((fail_if_success (apply ds_known;exact rfl));apply ds_guardP;exact rfl;exact rfl;exact rfl;all_goals intro hg))
    all_goals try (exfalso;first|omega|exact absurd (by assumption) hne2|exact absurd hne2 (by assumption)|exact absurd (by assumption) hk3.2)
    refine ds_loop (ι:=Nat) (fun k=>⟨2,[(0,.loc 0 0),(2,.loc 1 0),(3,.d (.str l[i + 1].text)),(4,.d (.int .i64 (-1))),(5,.d (.int .i64 (numK l[i + 1].text k))),(6,.d (.int .i64 k))],[(0,.blk 76 [.d (.slice 3 (l.map encTok)),.d (.int .i64 (i + 1:Nat)),.d (.int .i64 e),.d (.bool false)]),(1,.blk 49 [.d (.str ⟨#[]⟩),.d (.int .i64 0)])]⟩)
     (fun k=>k≤l[i + 1].text.size) (fun k=>l[i + 1].text.size - k) 0 (Nat.zero_le _) (ent_ren id ⟨rfl,rfl,rfl,rfl,rfl,rfl,trivial⟩ ⟨rfl,rfl,trivial⟩ rfl rfl rfl rfl rfl rfl) ?_
    intro k hk
    dsimp only at hk ⊢
    obtain⟨n1,n2⟩:=numK_bound c2 c3 k
    by_cases hkl:k < l[i + 1].text.size
    ·have hs:=numK_succ l[i + 1].text k hkl
     obtain⟨n3,n4⟩:=numK_bound c2 c3 (k + 1)
     have hu:=UInt8.toNat_lt (l[i + 1].text[k])
     repeat' (first|refine z0 ?_|apply ds_nil|apply dw_seq2|refine z16 ?_|apply dw_block|apply dw_skip|apply dw_exit|apply thenD_n|apply thenD_e|apply inB_n|refine z17 ?_|refine z3 ?_|(refine z23 ?_ ?_ <;> intro hg)|fail)
     all_goals try (exfalso;omega)
     exact⟨k + 1,by omega,ent_ren id ⟨rfl,rfl,rfl,rfl,congrArg (fun z=>SV.d (D.int .i64 z)) hs.symm,rfl,trivial⟩ ⟨rfl,rfl,trivial⟩ rfl rfl rfl rfl rfl rfl,by show l[i + 1].text.size - (k + 1) < l[i + 1].text.size - k;omega⟩
    ·have hks:k=l[i + 1].text.size:=by omega
     subst hks
     rw [numK_all] at *
     repeat' (first|refine z0 ?_|apply ds_nil|apply dw_seq2|refine z16 ?_|apply dw_block|apply dw_skip|apply dw_exit|apply dw_ret|apply thenD_n|apply thenD_e|apply inB_n|refine z17 ?_|refine z3 ?_|(refine z23 ?_ ?_ <;> intro hg)|fail)
     all_goals try (exfalso;omega)
     exact⟨.inl rfl,_,rfl,id,1,_,rdH l (i + 1 + 1:Nat) e false,rfl,⟨rfl,trivial⟩,rfl,rfl,rfl,rfl,rfl,rfl,rfl,rfl,rfl⟩
   ·rw [if_neg hk3]
    unfold rdRes
    obtain⟨u0,u1,u2,_⟩:=tok_first hot2
    have w4:=isDigit_fn l[i + 1].text[0]
    rw [u2] at w4
    by_cases k3:l[i + 1].kind=3
    ·have h48:l[i + 1].text=⟨#[48]⟩:=Classical.byContradiction fun h=>hk3 ⟨k3,h⟩
     rw [decide_eq_true k3] at w4
     repeat' (first|refine z0 ?_|refine z12 ?_|apply ds_nil|apply dw_seq2|refine z16 ?_|apply dw_block|apply dw_skip|apply dw_ret|refine z18 ?_|apply thenD_n|apply thenD_r|refine z21 ?_ (hc:=by apply w4)|refine z3 ?_|(refine z23 ?_ ?_ <;> intro hg)|((fail_if_success (apply ds_known;exact rfl));apply ds_guardP;exact rfl;exact rfl;exact rfl;all_goals intro hg))
     all_goals try (exfalso;first|omega|exact absurd (by assumption) hne2|exact absurd hne2 (by assumption)|exact absurd h48 (by assumption))
     exact⟨.inl rfl,_,rfl,id,1,_,rdH l (i + 1) e true,rfl,⟨rfl,trivial⟩,rfl,rfl,rfl,rfl,rfl,rfl,rfl,⟨⟨⟨#[]⟩,0⟩,rfl⟩,rfl⟩
    ·rw [decide_eq_false k3] at w4
     repeat' (first|refine z0 ?_|refine z12 ?_|apply ds_nil|apply dw_seq2|refine z16 ?_|apply dw_ret|refine z18 ?_|apply thenD_n|apply thenD_r|refine z21 ?_ (hc:=by apply w4)|refine z3 ?_|((fail_if_success (apply ds_known;exact rfl));apply ds_guardP;exact rfl;exact rfl;exact rfl;all_goals intro hg))
     all_goals try (exfalso;first|omega|exact absurd (by assumption) hne2|exact absurd hne2 (by assumption))
     exact⟨.inl rfl,_,rfl,id,1,_,rdH l (i + 1) e true,rfl,⟨rfl,trivial⟩,rfl,rfl,rfl,rfl,rfl,rfl,rfl,⟨⟨⟨#[]⟩,0⟩,rfl⟩,rfl⟩
  ·have h1:textT l (i + 1) false=⟨#[]⟩:=by unfold textT;rw [List.getElem?_eq_none (by omega)]
   rw [h1,List.getElem?_eq_none (by omega)]
   unfold rdRes
   repeat' (first|refine z0 ?_|refine z12 ?_|apply ds_nil|apply dw_seq2|refine z16 ?_|apply dw_ret|refine z18 ?_|apply thenD_n|apply thenD_r|refine z3 ?_|fail)
   all_goals try (exfalso;omega)
   exact⟨.inl rfl,_,rfl,id,1,_,rdH l (i + 1) e true,rfl,⟨rfl,trivial⟩,rfl,rfl,rfl,rfl,rfl,rfl,rfl,⟨⟨⟨#[]⟩,0⟩,rfl⟩,rfl⟩
 ·rw [termT_pos hil hm hk]
  by_cases hk3:l[i].kind=3
  ·rw [if_pos hk3]
   unfold rdRes
   have hot2:=hot
   have hne2:=h0
   have hm2:=hm
   obtain⟨c1,c2,c3⟩:=ok_num hot2 hk3
   obtain⟨u0,u1,u2,_⟩:=tok_first hot2
   rw [hk3] at u1 u2
   have w3:=between_fn (l[i].text[0].toNat:Int) 65 90
   rw [greatI,u1] at w3
   have w4:=isDigit_fn l[i].text[0]
   rw [u2] at w4
   repeat' (first|refine z0 ?_|refine z12 ?_|apply ds_nil|apply dw_seq2|refine z16 ?_|apply dw_block|apply dw_skip|refine z18 ?_|refine z19 ?_|apply thenD_n|refine z21 ?_ (hc:=by apply w3)|refine z21 ?_ (hc:=by apply w4)|refine z3 ?_|(refine z23 ?_ ?_ <;> intro hg)|((fail_if_success (apply ds_known;exact rfl));apply ds_guardP;exact rfl;exact rfl;exact rfl;all_goals intro hg))
   all_goals try (exfalso;first|omega|exact absurd (by assumption) hne2|exact absurd hne2 (by assumption)|exact absurd (by assumption) hm2)
   refine ds_loop (ι:=Nat) (fun k=>⟨2,[(0,.loc 0 0),(2,.loc 1 0),(3,.d (.str l[i].text)),(4,.d (.int .i64 (1))),(5,.d (.int .i64 (numK l[i].text k))),(6,.d (.int .i64 k))],[(0,.blk 76 [.d (.slice 3 (l.map encTok)),.d (.int .i64 (i:Nat)),.d (.int .i64 e),.d (.bool false)]),(1,.blk 49 [.d (.str ⟨#[]⟩),.d (.int .i64 0)])]⟩)
    (fun k=>k≤l[i].text.size) (fun k=>l[i].text.size - k) 0 (Nat.zero_le _) (ent_ren id ⟨rfl,rfl,rfl,rfl,rfl,rfl,trivial⟩ ⟨rfl,rfl,trivial⟩ rfl rfl rfl rfl rfl rfl) ?_
   intro k hk
   dsimp only at hk ⊢
   obtain⟨n1,n2⟩:=numK_bound c2 c3 k
   by_cases hkl:k < l[i].text.size
   ·have hs:=numK_succ l[i].text k hkl
    obtain⟨n3,n4⟩:=numK_bound c2 c3 (k + 1)
    have hu:=UInt8.toNat_lt (l[i].text[k])
    repeat' (first|refine z0 ?_|apply ds_nil|apply dw_seq2|refine z16 ?_|apply dw_block|apply dw_skip|apply dw_exit|apply thenD_n|apply thenD_e|apply inB_n|refine z17 ?_|refine z3 ?_|(refine z23 ?_ ?_ <;> intro hg)|fail)
    all_goals try (exfalso;omega)
    exact⟨k + 1,by omega,ent_ren id ⟨rfl,rfl,rfl,rfl,congrArg (fun z=>SV.d (D.int .i64 z)) hs.symm,rfl,trivial⟩ ⟨rfl,rfl,trivial⟩ rfl rfl rfl rfl rfl rfl,by show l[i].text.size - (k + 1) < l[i].text.size - k;omega⟩
   ·have hks:k=l[i].text.size:=by omega
    subst hks
    rw [numK_all] at *
    repeat' (first|refine z0 ?_|apply ds_nil|apply dw_seq2|refine z16 ?_|apply dw_block|apply dw_skip|apply dw_exit|apply dw_ret|apply thenD_n|apply thenD_e|apply inB_n|refine z17 ?_|refine z3 ?_|(refine z23 ?_ ?_ <;> intro hg)|fail)
    all_goals try (exfalso;omega)
    exact⟨.inl rfl,_,rfl,id,1,_,rdH l (i + 1:Nat) e false,rfl,⟨rfl,trivial⟩,rfl,rfl,rfl,rfl,rfl,rfl,rfl,rfl,rfl⟩
  ·rw [if_neg hk3]
   unfold rdRes
   have w4:=isDigit_fn l[i].text[0]
   rw [y2,decide_eq_false hk3] at w4
   repeat' (first|refine z0 ?_|refine z12 ?_|apply ds_nil|apply dw_seq2|refine z16 ?_|apply dw_skip|apply dw_ret|refine z18 ?_|refine z19 ?_|apply thenD_n|apply thenD_r|refine z21 ?_ (hc:=by apply w2)|refine z21 ?_ (hc:=by apply w4)|refine z3 ?_|(refine z23 ?_ ?_ <;> intro hg)|((fail_if_success (apply ds_known;exact rfl));apply ds_guardP;exact rfl;exact rfl;exact rfl;all_goals intro hg))
   all_goals try (exfalso;first|omega|exact absurd (by assumption) h0|exact absurd h0 (by assumption)|exact absurd (by assumption) hm)
   exact⟨.inl rfl,_,rfl,id,1,_,rdH l (i) e true,rfl,⟨rfl,trivial⟩,rfl,rfl,rfl,rfl,rfl,rfl,rfl,⟨⟨⟨#[]⟩,0⟩,rfl⟩,rfl⟩
end Go.Proofs.YtapciiffpnociabGreatDoor
