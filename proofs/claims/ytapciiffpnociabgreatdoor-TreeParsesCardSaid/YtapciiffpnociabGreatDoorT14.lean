/- Several texts in one: TreN TrePo TreO TreR TrePa. Condition: none. -/
import Derived.Test.YtapciiffpnociabGreatDoorT13
import Derived.Test.YtapciiffpnociabGreatDoorT11
import Derived.Test.YtapciiffpnociabGreatDoorT10
import Derived.Test.YtapciiffpnociabGreatDoorT09
namespace Go.Proofs.YtapciiffpnociabGreatDoor
open Go Go.RowKit
theorem checkT_2 {rs:List TRu} (h:12 < rs.length∨∃ i,∃ h:i < rs.length,muchT rs[i]=true):checkT rs=2:=by
 unfold checkT
 rw [if_pos]
 rcases h with h|⟨i,hi,h⟩
 ·exact .inl h
 ·exact .inr (List.any_eq_true.2 ⟨_,List.getElem_mem hi,h⟩)
theorem checkT_no {rs:List TRu} (h1:¬ 12 < rs.length) (h2:∀ i (h:i < rs.length),muchT rs[i]=false):checkT rs=if rs.all truOk=true then 0 else 1:=by
 unfold checkT
 rw [if_neg]
 rintro (h|h)
 ·exact h1 h
 ·obtain⟨x,hx,hm⟩:=List.any_eq_true.1 h
  obtain⟨i,hi,rfl⟩:=List.mem_iff_getElem.1 hx
  rw [h2 i hi] at hm
  cases hm
theorem checkT_1 {rs:List TRu} (h1:¬ 12 < rs.length) (h2:∀ i (h:i < rs.length),muchT rs[i]=false) {i:Nat} (hi:i < rs.length) (h3:truOk rs[i]=false):checkT rs=1:=by
 rw [checkT_no h1 h2,if_neg]
 intro h
 rw [List.all_eq_true.1 h _ (List.getElem_mem hi)] at h3
 cases h3
theorem checkT_0 {rs:List TRu} (h1:¬ 12 < rs.length) (h2:∀ i (h:i < rs.length),muchT rs[i]=false) (h3:∀ i (h:i < rs.length),truOk rs[i]=true):checkT rs=0:=by
 rw [checkT_no h1 h2,if_pos]
 refine List.all_eq_true.2 fun x hx=>?_
 obtain⟨i,hi,rfl⟩:=List.mem_iff_getElem.1 hx
 exact h3 i hi
theorem muchT_1 {r:TRu} (h:3 < r.terms.length∨4 < r.body.length∨∃ i,∃ h:i < r.body.length,3 < r.body[i].terms.length):muchT r=true:=by
 unfold muchT
 simp only [Bool.or_eq_true,decide_eq_true_eq]
 rcases h with h|h|⟨i,hi,h⟩
 ·exact .inl (.inl h)
 ·exact .inl (.inr h)
 ·exact .inr (List.any_eq_true.2 ⟨_,List.getElem_mem hi,decide_eq_true h⟩)
theorem muchT_0 {r:TRu} (h1:¬ 3 < r.terms.length) (h2:¬ 4 < r.body.length) (h3:∀ i (h:i < r.body.length),¬ 3 < r.body[i].terms.length):muchT r=false:=by
 unfold muchT
 rw [decide_eq_false h1,decide_eq_false h2,Bool.false_or,Bool.false_or]
 cases h:r.body.any fun x=>decide (3 < x.terms.length) with
 | false=>rfl
 | true =>
  obtain⟨x,hx,hm⟩:=List.any_eq_true.1 h
  obtain⟨i,hi,rfl⟩:=List.mem_iff_getElem.1 hx
  exact absurd (of_decide_eq_true hm) (h3 i hi)
def headOk (r:TRu):Bool:=nameS r.name && tmsOk r.terms && decide (0≤r.fold∧r.fold≤4) && (decide (r.fold=0) || (decide (r.terms≠[]) && decide (r.body≠[])))
theorem truOk_eq (r:TRu):truOk r=(headOk r && r.body.all tlOk):=rfl
theorem tms_step {l:List TTm} {i:Nat} (hi:i < l.length) (h:tmOk l[i]=false):tmsOk l=false:=by
 unfold tmsOk
 cases hb:l.all tmOk with
 | false=>rfl
 | true=>rw [List.all_eq_true.1 hb _ (List.getElem_mem hi)] at h;cases h
theorem tms_end {l:List TTm} (h:∀ i (h:i < l.length),tmOk l[i]=true):tmsOk l=true:=by
 refine List.all_eq_true.2 fun x hx=>?_
 obtain⟨i,hi,rfl⟩:=List.mem_iff_getElem.1 hx
 exact h i hi
theorem nameR_eq (s:ByteArray):nameR s=nameS s:=by unfold nameR nameS;rw [oneS_eq]
attribute [local irreducible] DW DS DL DQ Ev FnOk FnP thenD inBlockD DT
set_option maxHeartbeats 8000000 in
theorem areTerms_fn (l:List TTm):Fn 27 [.d (.slice 2 (l.map encTTm))] (fun r=>r = .d (.bool (tmsOk l))):=by
 refine fnp_enter' _ Tryz.func27 rfl rfl (by kernel_rfl) ?_
 intro O w0 E0 β0
 have ll:(l.map encTTm).length=l.length:=List.length_map _
 refine dw_len (t:=0) rfl (fun hml=>?_)
 rw [ll] at hml
 have hml:l.length≤9223372036854775807:=Nat.le_trans hml (by decide)
 repeat' (first|refine z0 ?_|apply ds_nil|apply dw_seq2|refine z16 ?_|apply dw_block|apply thenD_n)
 refine ds_loop (ι:=Nat) (fun i=>⟨0,[(0,.d (.slice 2 (l.map encTTm))),(3,.d (.int .i64 i))],[]⟩)
  (fun i=>i≤l.length∧∀ j (hj:j < l.length),j < i→tmOk l[j]=true) (fun i=>l.length - i) 0 ⟨Nat.zero_le _,fun j _ h=>absurd h (Nat.not_lt_zero j)⟩ (ent_ren id ⟨rfl,rfl,trivial⟩ trivial rfl rfl rfl rfl rfl rfl) ?_
 rintro i ⟨hi,hk⟩
 dsimp only at hi hk ⊢
 by_cases hil:i < l.length
 ·have w1:=between_fn l[i].n (-9999999) 9999999
  have w2:=isToken_fn 2 l[i].var
  rw [← oneS_eq] at w2
  have hm:tmOk l[i]=if l[i].var=⟨#[]⟩ then decide (-9999999≤l[i].n) && decide (l[i].n≤9999999) else oneS 2 l[i].var && decide (l[i].n=0):=rfl
  cases hb:tmOk l[i] with
  | true =>
   have hnext:∀ j (hj:j < l.length),j < i + 1→tmOk l[j]=true:=fun j hj h=>by
    rcases Nat.lt_or_ge j i with h1|h1
    ·exact hk j hj h1
    ·have:j=i:=by omega
     subst this
     exact hb
   rw [hb] at hm
   by_cases hv:l[i].var=⟨#[]⟩
   ·rw [if_pos hv] at hm
    rw [← hm] at w1
    repeat' (first|refine z0 ?_|refine z12 ?_|apply ds_nil|apply dw_seq2|refine z16 ?_|apply dw_block|apply dw_skip|apply dw_exit|apply dw_ret|refine z18 ?_|refine z19 ?_|apply thenD_n|apply thenD_e|apply thenD_r|apply inB_n|apply inB_r|refine z17 ?_|refine z21 ?_ (hc:=by apply w1)|refine z21 ?_ (hc:=by apply w2)|refine z1 ?_|refine z3 ?_|(refine z23 ?_ ?_ <;> intro hg)|(apply dw_cond;exact rfl;all_goals intro hg)|((fail_if_success (apply ds_known;exact rfl));apply ds_guardP;exact rfl;exact rfl;exact rfl;all_goals intro hg))
    all_goals try (exfalso;first|omega|exact absurd hv (by assumption)|exact absurd (by assumption) hv)
    all_goals exact⟨i + 1,⟨by omega,hnext⟩,ent_ren id ⟨rfl,rfl,trivial⟩ trivial rfl rfl rfl rfl rfl rfl,by show l.length - (i + 1) < l.length - i;omega⟩
   ·rw [if_neg hv] at hm
    have h2:=(Bool.and_eq_true _ _).mp hm.symm
    have h0:=of_decide_eq_true h2.2
    rw [h2.1] at w2
    repeat' (first|refine z0 ?_|refine z12 ?_|apply ds_nil|apply dw_seq2|refine z16 ?_|apply dw_block|apply dw_skip|apply dw_exit|apply dw_ret|refine z18 ?_|refine z19 ?_|apply thenD_n|apply thenD_e|apply thenD_r|apply inB_n|apply inB_r|refine z17 ?_|refine z21 ?_ (hc:=by apply w1)|refine z21 ?_ (hc:=by apply w2)|refine z1 ?_|refine z3 ?_|(refine z23 ?_ ?_ <;> intro hg)|((fail_if_success (apply ds_known;exact rfl));apply ds_guardP;exact rfl;exact rfl;exact rfl;all_goals intro hg)|((fail_if_success (apply ds_known;exact rfl));apply ds_guardB;exact rfl;exact rfl;exact rfl;all_goals intro hg))
    all_goals try (exfalso;first|omega|exact absurd hv (by assumption)|exact absurd (by assumption) hv)
    all_goals exact⟨i + 1,⟨by omega,hnext⟩,ent_ren id ⟨rfl,rfl,trivial⟩ trivial rfl rfl rfl rfl rfl rfl,by show l.length - (i + 1) < l.length - i;omega⟩
  | false =>
   have hend:=tms_step hil hb
   rw [hb] at hm
   by_cases hv:l[i].var=⟨#[]⟩
   ·rw [if_pos hv] at hm
    rw [← hm] at w1
    repeat' (first|refine z0 ?_|refine z12 ?_|apply ds_nil|apply dw_seq2|refine z16 ?_|apply dw_block|apply dw_skip|apply dw_exit|apply dw_ret|refine z18 ?_|refine z19 ?_|apply thenD_n|apply thenD_e|apply thenD_r|apply inB_n|apply inB_r|refine z17 ?_|refine z21 ?_ (hc:=by apply w1)|refine z21 ?_ (hc:=by apply w2)|refine z1 ?_|refine z3 ?_|(refine z23 ?_ ?_ <;> intro hg)|(apply dw_cond;exact rfl;all_goals intro hg)|((fail_if_success (apply ds_known;exact rfl));apply ds_guardP;exact rfl;exact rfl;exact rfl;all_goals intro hg))
    all_goals try (exfalso;first|omega|exact absurd hv (by assumption)|exact absurd (by assumption) hv)
    all_goals exact ret_b rfl hend.symm
   ·rw [if_neg hv] at hm
    cases h2:oneS 2 l[i].var with
    | true =>
     rw [h2] at hm w2
     have h0:=of_decide_eq_false hm.symm
     repeat' (first|refine z0 ?_|refine z12 ?_|apply ds_nil|apply dw_seq2|refine z16 ?_|apply dw_block|apply dw_skip|apply dw_exit|apply dw_ret|refine z18 ?_|refine z19 ?_|apply thenD_n|apply thenD_e|apply thenD_r|apply inB_n|apply inB_r|refine z17 ?_|refine z21 ?_ (hc:=by apply w1)|refine z21 ?_ (hc:=by apply w2)|refine z1 ?_|refine z3 ?_|(refine z23 ?_ ?_ <;> intro hg)|((fail_if_success (apply ds_known;exact rfl));apply ds_guardP;exact rfl;exact rfl;exact rfl;all_goals intro hg)|((fail_if_success (apply ds_known;exact rfl));apply ds_guardB;exact rfl;exact rfl;exact rfl;all_goals intro hg))
     all_goals try (exfalso;first|omega|exact absurd hv (by assumption)|exact absurd (by assumption) hv)
     all_goals exact ret_b rfl hend.symm
    | false =>
     rw [h2] at w2
     repeat' (first|refine z0 ?_|refine z12 ?_|apply ds_nil|apply dw_seq2|refine z16 ?_|apply dw_block|apply dw_skip|apply dw_exit|apply dw_ret|refine z18 ?_|refine z19 ?_|apply thenD_n|apply thenD_e|apply thenD_r|apply inB_n|apply inB_r|refine z17 ?_|refine z21 ?_ (hc:=by apply w1)|refine z21 ?_ (hc:=by apply w2)|refine z1 ?_|refine z3 ?_|(refine z23 ?_ ?_ <;> intro hg)|((fail_if_success (apply ds_known;exact rfl));apply ds_guardP;exact rfl;exact rfl;exact rfl;all_goals intro hg)|((fail_if_success (apply ds_known;exact rfl));apply ds_guardB;exact rfl;exact rfl;exact rfl;all_goals intro hg))
     all_goals try (exfalso;first|omega|exact absurd hv (by assumption)|exact absurd (by assumption) hv)
     all_goals exact ret_b rfl hend.symm
 ·have hend:tmsOk l=true:=tms_end fun j hj=>hk j hj (by omega)
  repeat' (first|refine z0 ?_|refine z12 ?_|apply ds_nil|apply dw_seq2|refine z16 ?_|apply dw_block|apply dw_skip|apply dw_exit|apply dw_ret|refine z18 ?_|refine z19 ?_|apply thenD_n|apply thenD_e|apply thenD_r|apply inB_n|apply inB_r|refine z17 ?_|refine z1 ?_|refine z3 ?_|(refine z23 ?_ ?_ <;> intro hg)|((fail_if_success (apply ds_known;exact rfl));apply ds_guardP;exact rfl;exact rfl;exact rfl;all_goals intro hg))
  all_goals try (exfalso;omega)
  exact ret_b rfl hend.symm
abbrev truB (r:TRu):HB:=.blk 47 [.d (.int .i64 r.at_),.d (.str r.name),.d (.slice 2 (r.terms.map encTTm)),.d (.int .i64 r.fold),.d (.slice 5 (r.body.map encTLt))]
abbrev treeB (rs:List TRu):HB:=.blk 24 [.d (.slice 5 (rs.map encTRu))]
theorem next_all {α:Type} {p:α→Bool} {b:Bool} {l:List α} {i:Nat} (hk:∀ j (hj:j < l.length),j < i→p l[j]=b) (hi:i < l.length) (hb:p l[i]=b):∀ j (hj:j < l.length),j < i + 1→p l[j]=b:=fun j hj h=>by
 rcases Nat.lt_or_ge j i with h1|h1
 ·exact hk j hj h1
 ·have:j=i:=by omega
  subst this
  exact hb
theorem truOk_lit {r:TRu} {k:Nat} (hk:k < r.body.length) (h:tlOk r.body[k]=false):truOk r=false:=by
 rw [truOk_eq]
 cases hb:r.body.all tlOk with
 | false=>exact Bool.and_false _
 | true=>rw [List.all_eq_true.1 hb _ (List.getElem_mem hk)] at h;cases h
theorem truOk_all {r:TRu} (h0:headOk r=true) (h:∀ k (hk:k < r.body.length),tlOk r.body[k]=true):truOk r=true:=by
 rw [truOk_eq,h0,Bool.true_and]
 refine List.all_eq_true.2 fun x hx=>?_
 obtain⟨i,hi,rfl⟩:=List.mem_iff_getElem.1 hx
 exact h i hi
theorem headOk_true {r:TRu} (h:headOk r=true):nameS r.name=true∧tmsOk r.terms=true∧(0≤r.fold∧r.fold≤4)∧(r.fold=0∨(r.terms.length≠0∧r.body.length≠0)):=by
 unfold headOk at h
 simp only [Bool.and_eq_true,Bool.or_eq_true,decide_eq_true_eq] at h
 obtain⟨⟨⟨h1,h2⟩,h3⟩,h4⟩:=h
 exact⟨h1,h2,h3,h4.imp id fun⟨a,b⟩=>⟨fun e=>a (List.length_eq_zero_iff.1 e),fun e=>b (List.length_eq_zero_iff.1 e)⟩⟩
theorem headOk_false {r:TRu} (h:headOk r=false):nameS r.name=false∨tmsOk r.terms=false∨¬(0≤r.fold∧r.fold≤4)∨(r.fold≠0∧(r.terms.length=0∨r.body.length=0)):=by
 unfold headOk at h
 simp only [Bool.and_eq_false_iff,Bool.or_eq_false_iff,decide_eq_false_iff_not] at h
 rcases h with ((h|h)|h)|⟨h,h2⟩
 ·exact .inl h
 ·exact .inr (.inl h)
 ·exact .inr (.inr (.inl h))
 ·refine .inr (.inr (.inr ⟨h,?_⟩))
  rcases h2 with h2|h2
  ·exact .inl (by rw [Classical.not_not.1 h2];rfl)
  ·exact .inr (by rw [Classical.not_not.1 h2];rfl)
set_option maxHeartbeats 8000000 in
theorem checkTree_fn (rs:List TRu):Fn 9 [.agg [.d (.slice 5 (rs.map encTRu))]] (fun o=>o = .d (.int .i64 (checkT rs))):=by
 refine fnp_enter' _ Tryz.func9 rfl rfl (by kernel_rfl) ?_
 intro O w0 E0 β0
 have lr:(rs.map encTRu).length=rs.length:=List.length_map _
 by_cases h12:12 < rs.length
 ·have he:=checkT_2 (rs:=rs) (.inl h12)
  repeat' (first|refine z0 ?_|apply ds_nil|apply dw_seq2|refine z16 ?_|apply dw_block|apply dw_skip|apply dw_ret|apply thenD_n|apply thenD_r|refine z1 ?_|(refine z23 ?_ ?_ <;> intro hg)|fail)
  all_goals try (exfalso;omega)
  exact ret_i rfl he.symm
 repeat' (first|refine z0 ?_|apply ds_nil|apply dw_seq2|refine z16 ?_|apply dw_block|apply dw_skip|apply dw_ret|apply thenD_n|apply thenD_r|refine z1 ?_|(refine z23 ?_ ?_ <;> intro hg)|fail)
 all_goals try (exfalso;omega)
 refine ds_loop (ι:=Nat) (fun i=>⟨1,[(1,.loc 0 0),(3,.d (.int .i64 i))],[(0,treeB rs)]⟩)
  (fun i=>i≤rs.length∧∀ j (hj:j < rs.length),j < i→muchT rs[j]=false) (fun i=>rs.length - i) 0 ⟨Nat.zero_le _,fun j _ h=>absurd h (Nat.not_lt_zero j)⟩ (ent_ren id ⟨rfl,rfl,trivial⟩ ⟨rfl,trivial⟩ rfl rfl rfl rfl rfl rfl) ?_
 rintro i ⟨hi,hk⟩
 dsimp only at hi hk ⊢
 by_cases hil:i < rs.length
 ·have lt:(rs[i].terms.map encTTm).length=rs[i].terms.length:=List.length_map _
  have lb:(rs[i].body.map encTLt).length=rs[i].body.length:=List.length_map _
  by_cases h3:3 < rs[i].terms.length
  ·have he:=checkT_2 (rs:=rs) (.inr ⟨i,hil,muchT_1 (.inl h3)⟩)
   repeat' (first|refine z0 ?_|refine z12 ?_|apply ds_nil|apply dw_seq2|refine z16 ?_|apply dw_block|apply dw_skip|apply dw_exit|apply dw_ret|refine z18 ?_|apply thenD_n|apply thenD_e|apply thenD_r|apply inB_r|refine z17 ?_|refine z1 ?_|refine z3 ?_|(refine z23 ?_ ?_ <;> intro hg)|((fail_if_success (apply ds_known;exact rfl));apply ds_guardP;exact rfl;exact rfl;exact rfl;all_goals intro hg))
   all_goals try (exfalso;omega)
   all_goals exact ret_i rfl he.symm
  by_cases h4:4 < rs[i].body.length
  ·have he:=checkT_2 (rs:=rs) (.inr ⟨i,hil,muchT_1 (.inr (.inl h4))⟩)
   repeat' (first|refine z0 ?_|refine z12 ?_|apply ds_nil|apply dw_seq2|refine z16 ?_|apply dw_block|apply dw_skip|apply dw_exit|apply dw_ret|refine z18 ?_|apply thenD_n|apply thenD_e|apply thenD_r|apply inB_r|refine z17 ?_|refine z1 ?_|refine z3 ?_|(refine z23 ?_ ?_ <;> intro hg)|((fail_if_success (apply ds_known;exact rfl));apply ds_guardP;exact rfl;exact rfl;exact rfl;all_goals intro hg))
   all_goals try (exfalso;omega)
   all_goals exact ret_i rfl he.symm
  repeat' (first|refine z0 ?_|refine z12 ?_|apply ds_nil|apply dw_seq2|refine z16 ?_|apply dw_block|apply dw_skip|apply dw_exit|apply dw_ret|refine z18 ?_|apply thenD_n|apply thenD_e|apply thenD_r|apply inB_r|refine z17 ?_|refine z1 ?_|refine z3 ?_|(refine z23 ?_ ?_ <;> intro hg)|((fail_if_success (apply ds_known;exact rfl));apply ds_guardP;exact rfl;exact rfl;exact rfl;all_goals intro hg))
  all_goals try (exfalso;omega)
  refine ds_loop (ι:=Nat) (fun k=>⟨2,[(1,.loc 0 0),(3,.d (.int .i64 i)),(4,.loc 1 0),(5,.d (.int .i64 k))],[(0,treeB rs),(1,truB rs[i])]⟩)
   (fun k=>k≤rs[i].body.length∧∀ j (hj:j < rs[i].body.length),j < k→decide (3 < rs[i].body[j].terms.length)=false) (fun k=>rs[i].body.length - k) 0 ⟨Nat.zero_le _,fun j _ h=>absurd h (Nat.not_lt_zero j)⟩ (ent_ren id ⟨rfl,rfl,rfl,rfl,trivial⟩ ⟨rfl,rfl,trivial⟩ rfl rfl rfl rfl rfl rfl) ?_
  rintro k ⟨hkl,hkk⟩
  dsimp only at hkl hkk ⊢
  by_cases hkb:k < rs[i].body.length
  ·have lt2:(rs[i].body[k].terms.map encTTm).length=rs[i].body[k].terms.length:=List.length_map _
   by_cases h5:3 < rs[i].body[k].terms.length
   ·have he:=checkT_2 (rs:=rs) (.inr ⟨i,hil,muchT_1 (.inr (.inr ⟨k,hkb,h5⟩))⟩)
    repeat' (first|refine z0 ?_|apply ds_nil|apply dw_seq2|refine z16 ?_|apply dw_block|apply dw_skip|apply dw_exit|apply dw_ret|apply thenD_n|apply thenD_e|apply thenD_r|apply inB_n|apply inB_r|refine z17 ?_|(refine z23 ?_ ?_ <;> intro hg)|fail)
    all_goals try (exfalso;omega)
    all_goals exact ret_i rfl he.symm
   ·have hn:=next_all (p:=fun x:TLt=>decide (3 < x.terms.length)) hkk hkb (decide_eq_false h5)
    repeat' (first|refine z0 ?_|apply ds_nil|apply dw_seq2|refine z16 ?_|apply dw_block|apply dw_skip|apply dw_exit|apply dw_ret|apply thenD_n|apply thenD_e|apply thenD_r|apply inB_n|apply inB_r|refine z17 ?_|(refine z23 ?_ ?_ <;> intro hg)|fail)
    all_goals try (exfalso;omega)
    exact⟨k + 1,⟨by omega,hn⟩,ent_ren id ⟨rfl,rfl,rfl,rfl,trivial⟩ ⟨rfl,rfl,trivial⟩ rfl rfl rfl rfl rfl rfl,by show rs[i].body.length - (k + 1) < rs[i].body.length - k;omega⟩
  ·have hn:=next_all (p:=muchT) hk hil (muchT_0 h3 h4 fun j hj=>of_decide_eq_false (hkk j hj (by omega)))
   repeat' (first|refine z0 ?_|apply ds_nil|apply dw_seq2|refine z16 ?_|apply dw_block|apply dw_skip|apply dw_exit|apply dw_ret|apply thenD_n|apply thenD_e|apply thenD_r|apply inB_n|apply inB_r|refine z17 ?_|(refine z23 ?_ ?_ <;> intro hg)|fail)
   all_goals try (exfalso;omega)
   exact⟨i + 1,⟨by omega,hn⟩,ent_ren id ⟨rfl,rfl,trivial⟩ ⟨rfl,trivial⟩ rfl rfl rfl rfl rfl rfl,by show rs.length - (i + 1) < rs.length - i;omega⟩
 have hno:∀ j (hj:j < rs.length),muchT rs[j]=false:=fun j hj=>hk j hj (by omega)
 clear hk
 repeat' (first|refine z0 ?_|refine z12 ?_|apply ds_nil|apply dw_seq2|refine z16 ?_|apply dw_block|apply dw_skip|apply dw_exit|apply dw_ret|refine z18 ?_|apply thenD_n|apply thenD_e|apply thenD_r|apply inB_r|refine z17 ?_|refine z1 ?_|refine z3 ?_|(refine z23 ?_ ?_ <;> intro hg)|((fail_if_success (apply ds_known;exact rfl));apply ds_guardP;exact rfl;exact rfl;exact rfl;all_goals intro hg))
 all_goals try (exfalso;omega)
 refine ds_loop (ι:=Nat) (fun i=>⟨1,[(1,.loc 0 0),(6,.d (.int .i64 i))],[(0,treeB rs)]⟩)
  (fun i=>i≤rs.length∧∀ j (hj:j < rs.length),j < i→truOk rs[j]=true) (fun i=>rs.length - i) 0 ⟨Nat.zero_le _,fun j _ h=>absurd h (Nat.not_lt_zero j)⟩ (ent_ren id ⟨rfl,rfl,trivial⟩ ⟨rfl,trivial⟩ rfl rfl rfl rfl rfl rfl) ?_
 clear hi hil
 rintro i ⟨hi,hk⟩
 dsimp only at hi hk ⊢
 by_cases hil:i < rs.length
 ·have lt:(rs[i].terms.map encTTm).length=rs[i].terms.length:=List.length_map _
  have lb:(rs[i].body.map encTLt).length=rs[i].body.length:=List.length_map _
  have w1:=isName_fn rs[i].name
  rw [nameR_eq] at w1
  have w2:=areTerms_fn rs[i].terms
  have w3:=between_fn rs[i].fold 0 4
  repeat' ((fail_if_success (apply dw_stopR 18));(first|refine z0 ?_|apply ds_nil|apply dw_seq2|refine z16 ?_|apply dw_block|apply dw_skip|apply dw_exit|apply dw_ret|apply thenD_n|apply thenD_e|refine z17 ?_|refine z1 ?_|refine z3 ?_|(refine z23 ?_ ?_ <;> intro hg)|fail))
  all_goals try (exfalso;omega)
  refine dw_cut (ι:=Unit) (fun _=>⟨2,[(1,.loc 0 0),(6,.d (.int .i64 i)),(7,.loc 1 0)],[(0,treeB rs),(1,truB rs[i])]⟩) (fun _=>headOk rs[i]=true) ?_ ?_
  ·cases hh:headOk rs[i] with
   | false =>
    have he:=checkT_1 h12 hno hil (by rw [truOk_eq,hh];rfl)
    rcases headOk_false hh with h|h|h|⟨h,h'⟩
    ·rw [h] at w1
     repeat' (first|refine z0 ?_|refine z12 ?_|apply ds_nil|apply dw_seq2|refine z16 ?_|apply dw_ret|refine z18 ?_|apply thenD_n|apply thenD_r|apply inB_r|refine z21 ?_ (hc:=by apply w1)|fail)
     all_goals try (exfalso;omega)
     all_goals exact ret_i rfl he.symm
    ·rw [h] at w2
     cases hn:nameS rs[i].name
     all_goals
      rw [hn] at w1
      repeat' (first|refine z0 ?_|refine z12 ?_|apply ds_nil|apply dw_seq2|refine z16 ?_|apply dw_ret|refine z18 ?_|apply thenD_n|apply thenD_r|apply inB_r|refine z21 ?_ (hc:=by apply w1)|refine z21 ?_ (hc:=by apply w2)|fail)
     all_goals try (exfalso;omega)
     all_goals exact ret_i rfl he.symm
    ·rw [show (decide (0≤rs[i].fold) && decide (rs[i].fold≤4))=false by simp;omega] at w3
     cases hn:nameS rs[i].name <;> cases ht:tmsOk rs[i].terms
     all_goals
      rw [hn] at w1
      rw [ht] at w2
      repeat' (first|refine z0 ?_|refine z12 ?_|apply ds_nil|apply dw_seq2|refine z16 ?_|apply dw_ret|refine z18 ?_|apply thenD_n|apply thenD_r|apply inB_r|refine z21 ?_ (hc:=by apply w1)|refine z21 ?_ (hc:=by apply w2)|refine z21 ?_ (hc:=by apply w3)|fail)
     all_goals try (exfalso;omega)
     all_goals exact ret_i rfl he.symm
    ·cases hn:nameS rs[i].name <;> cases ht:tmsOk rs[i].terms <;> cases hf:(decide (0≤rs[i].fold) && decide (rs[i].fold≤4))
     all_goals
      rw [hn] at w1
      rw [ht] at w2
      rw [hf] at w3
      try simp only [Bool.and_eq_true,decide_eq_true_eq] at hf
      repeat' (first|refine z0 ?_|refine z12 ?_|apply ds_nil|apply dw_seq2|refine z16 ?_|apply dw_skip|apply dw_ret|refine z18 ?_|refine z19 ?_|apply thenD_n|apply thenD_r|apply inB_r|refine z21 ?_ (hc:=by apply w1)|refine z21 ?_ (hc:=by apply w2)|refine z21 ?_ (hc:=by apply w3)|(refine z23 ?_ ?_ <;> intro hg)|((fail_if_success (apply ds_known;exact rfl));apply ds_guardP;exact rfl;exact rfl;exact rfl;all_goals intro hg))
     all_goals try (exfalso;omega)
     all_goals exact ret_i rfl he.symm
   | true =>
    obtain⟨a1,a2,a3,a4⟩:=headOk_true hh
    rw [a1] at w1
    rw [a2] at w2
    rw [show (decide (0≤rs[i].fold) && decide (rs[i].fold≤4))=true by simp;omega] at w3
    repeat' (first|refine z0 ?_|refine z12 ?_|apply ds_nil|apply dw_seq2|refine z16 ?_|apply dw_skip|apply dw_ret|refine z18 ?_|refine z19 ?_|apply thenD_n|apply thenD_r|apply inB_r|refine z21 ?_ (hc:=by apply w1)|refine z21 ?_ (hc:=by apply w2)|refine z21 ?_ (hc:=by apply w3)|(refine z23 ?_ ?_ <;> intro hg)|((fail_if_success (apply ds_known;exact rfl));apply ds_guardP;exact rfl;exact rfl;exact rfl;all_goals intro hg))
    all_goals try (exfalso;omega)
    all_goals exact⟨(),rfl,ent_ren id ⟨rfl,rfl,rfl,trivial⟩ ⟨rfl,rfl,trivial⟩ rfl rfl rfl rfl rfl rfl⟩
  ·intro _ hh
   clear w1 w2 w3
   have hb4:rs[i].body.length≤4:=by
    have:=hno i hil
    unfold muchT at this
    simp only [Bool.or_eq_false_iff,decide_eq_false_iff_not] at this
    omega
   repeat' (first|refine z0 ?_|apply ds_nil|apply dw_seq2|refine z16 ?_|apply dw_block|apply thenD_n)
   refine ds_loop (ι:=Nat) (fun k=>⟨2,[(1,.loc 0 0),(6,.d (.int .i64 i)),(7,.loc 1 0),(8,.d (.int .i64 k))],[(0,treeB rs),(1,truB rs[i])]⟩)
    (fun k=>k≤rs[i].body.length∧∀ j (hj:j < rs[i].body.length),j < k→tlOk rs[i].body[j]=true) (fun k=>rs[i].body.length - k) 0 ⟨Nat.zero_le _,fun j _ h=>absurd h (Nat.not_lt_zero j)⟩ (ent_ren id ⟨rfl,rfl,rfl,rfl,trivial⟩ ⟨rfl,rfl,trivial⟩ rfl rfl rfl rfl rfl rfl) ?_
   rintro k ⟨hkl,hkk⟩
   dsimp only at hkl hkk ⊢
   by_cases hkb:k < rs[i].body.length
   ·have lt2:(rs[i].body[k].terms.map encTTm).length=rs[i].body[k].terms.length:=List.length_map _
    have v1:=areTerms_fn rs[i].body[k].terms
    have v2:=isName_fn rs[i].body[k].name
    have v3:=between_fn rs[i].body[k].op 1 4
    have v4:=between_fn rs[i].body[k].op 5 7
    rw [nameR_eq] at v2
    cases hb1:tmsOk rs[i].body[k].terms <;> cases hb2:nameS rs[i].body[k].name
    all_goals
     rw [hb1] at v1
     rw [hb2] at v2
     repeat' (first|refine z0 ?_|refine z12 ?_|apply ds_nil|apply dw_seq2|refine z16 ?_|apply dw_block|apply dw_skip|apply dw_exit|apply dw_ret|refine z18 ?_|refine z19 ?_|apply thenD_n|apply thenD_e|apply thenD_r|apply inB_n|apply inB_r|refine z17 ?_|refine z21 ?_ (hc:=by apply v1)|refine z21 ?_ (hc:=by apply v2)|refine z21 ?_ (hc:=by apply v3)|refine z21 ?_ (hc:=by apply v4)|refine z1 ?_|refine z3 ?_|(refine z23 ?_ ?_ <;> intro hg)|(apply dw_cond;exact rfl;all_goals intro hg)|((fail_if_success (apply ds_known;exact rfl));apply ds_guardP;exact rfl;exact rfl;exact rfl;all_goals intro hg)|((fail_if_success (apply ds_known;exact rfl));apply ds_guardB;exact rfl;exact rfl;exact rfl;all_goals intro hg))
    all_goals try (exfalso;omega)
    all_goals first
     | exact ret_i rfl (checkT_1 h12 hno hil (truOk_lit hkb (by unfold tlOk;first|(simp_all;done)|(simp_all;omega)))).symm
     | exact⟨k + 1,⟨by omega,next_all hkk hkb (by unfold tlOk;first|(simp_all;done)|(simp_all;omega))⟩,ent_ren id ⟨rfl,rfl,rfl,rfl,trivial⟩ ⟨rfl,rfl,trivial⟩ rfl rfl rfl rfl rfl rfl,by show rs[i].body.length - (k + 1) < rs[i].body.length - k;omega⟩
   ·have hn:=next_all (p:=truOk) hk hil (truOk_all hh fun j hj=>hkk j hj (by omega))
    repeat' (first|refine z0 ?_|apply ds_nil|apply dw_seq2|refine z16 ?_|apply dw_block|apply dw_skip|apply dw_exit|apply thenD_n|apply thenD_e|apply inB_n|refine z17 ?_|refine z1 ?_|refine z3 ?_|(refine z23 ?_ ?_ <;> intro hg)|fail)
    all_goals try (exfalso;omega)
    exact⟨i + 1,⟨by omega,hn⟩,ent_ren id ⟨rfl,rfl,trivial⟩ ⟨rfl,trivial⟩ rfl rfl rfl rfl rfl rfl,by show rs.length - (i + 1) < rs.length - i;omega⟩
 ·have he:=checkT_0 h12 hno fun j hj=>hk j hj (by omega)
  repeat' (first|refine z0 ?_|apply ds_nil|apply dw_seq2|refine z16 ?_|apply dw_block|apply dw_skip|apply dw_exit|apply dw_ret|apply thenD_n|apply thenD_e|refine z17 ?_|refine z1 ?_|refine z3 ?_|(refine z23 ?_ ?_ <;> intro hg)|fail)
  all_goals try (exfalso;omega)
  exact ret_i rfl he.symm
end Go.Proofs.YtapciiffpnociabGreatDoor
namespace Go.Proofs.YtapciiffpnociabGreatDoor
open Go Go.RowKit
theorem terms_fold {l:List Tok} {i j:Nat} {head:Bool} {x:List TTm × Int} (h:termsT l i head = .ok (x,j)):0≤x.2:=by
 have f0:∀ k,0≤foldT l head k 0:=fun k=>by
  cases head with
  | false=>exact Int.le_refl _
  | true=>rw [foldS_is];exact (foldS_low _ _).1
 have go:∀ (n i:Nat) (acc:List TTm) {x:List TTm × Int} {j:Nat},termsGo l head n i acc = .ok (x,j)→0≤x.2:=by
  intro n
  induction n with
  | zero=>intro i acc x j h;cases h
  | succ n ih =>
   intro i acc x j h
   rw [termsGo_succ] at h
   split at h
   ·cases h
   ·split at h
    ·split at h
     ·injection h with h;injection h with h _;rw [← h];exact f0 i
     ·cases h
    ·exact ih _ _ h
 unfold termsT at h
 split at h
 ·split at h
  ·injection h with h;injection h with h _;rw [← h];exact Int.le_refl _
  ·exact go _ _ _ h
 ·cases h
theorem litT_err {l:List Tok} {e:Int} {i k:Nat} (hi:i≤l.length) (h:litT l e i = .error k):k≤l.length:=by
 unfold litT at h
 split at h
 ·rename_i hn
  have:=seesT_lt hn
  split at h
  ·rename_i k' h1;injection h with h;subst h;exact nameT_err (by omega) h1
  ·rename_i s k' h1
   have:=(nameT_lt h1).2
   split at h
   ·rename_i m h2;injection h with h;subst h;exact termsT_err this h2
   ·cases h
 ·split at h
  ·split at h
   ·rename_i k' h1
    injection h with h;subst h
    unfold testT at h1
    split at h1
    ·rename_i q h2;injection h1 with h1;subst h1;exact termT_err hi h2
    ·rename_i a q h2
     have hq:=(termT_lt h2).2
     split at h1
     ·injection h1 with h1;omega
     ·rename_i hz
      have hql:q < l.length:=by
       refine Classical.byContradiction fun hn=>hz ?_
       have:textT l q false=⟨#[]⟩:=by unfold textT;rw [List.getElem?_eq_none (by omega)]
       rw [foldO_is,this,foldO_none]
      split at h1
      ·rename_i m h3;injection h1 with h1;subst h1;exact termT_err hql h3
      ·rename_i b m h3
       have hm:=(termT_lt h3).2
       split at h1
       ·cases h1
       ·split at h1
        ·rename_i h5
         have:=seesT_lt h5
         split at h1
         ·rename_i r h4;injection h1 with h1;subst h1;exact termT_err this h4
         ·cases h1
        ·injection h1 with h1;omega
   ·cases h
  ·split at h
   ·rename_i k' h1;injection h with h;subst h;exact nameT_err hi h1
   ·rename_i s k' h1
    have:=(nameT_lt h1).2
    split at h
    ·rename_i m h2;injection h with h;subst h;exact termsT_err this h2
    ·cases h
theorem lit_le {l:List Tok} {e:Int} {i k:Nat} {t:TLt} {f g:Bool} (hi:i≤l.length) (h:rdIs (rdP f i (litT l e i)) t k g):k≤l.length:=rdIs_lt hi (fun _ _ h=>(litT_lt h).2) (fun _ h=>litT_err hi h) h
theorem rule_dot {l:List Tok} {e:Int} {i k m:Nat} {s:ByteArray} {x:List TTm × Int} {g g2:Bool} (h1:rdIs (rdP false i (nameT l i)) s k g) (h2:rdIs (rdP g k (termsT l k true)) x m g2) (hx:x.2=0) (hd:textT l m g2=⟨#[46]⟩) {m5:Nat} {g5:Bool}
  (h5:rdIs (rdP g2 m (if seesT l m ⟨#[46]⟩=true then .ok ((),m + 1) else .error m)) () m5 g5):rdIs (ruleT l e i) (⟨hereT l e i,s,x.1,x.2,[]⟩:TRu) m5 g5:=by
 obtain⟨rfl,hs⟩:=(text_is (by decide)).1 hd
 cases g with
 | true=>exact absurd (rdIs_true h2).1 (by decide)
 | false =>
  obtain⟨ts,f⟩:=x
  have hx:f=0:=hx
  subst hx
  unfold ruleT
  rw [show nameT l i = .ok (s,k) from h1]
  dsimp only
  rw [show termsT l k true = .ok ((ts,0),m) from h2]
  dsimp only
  have h5:rdIs (if seesT l m ⟨#[46]⟩=true then .ok ((),m + 1) else .error m:PR Unit) () m5 g5:=h5
  rw [if_pos hs] at h5
  rw [if_pos ⟨rfl,hs⟩]
  cases g5 with
  | true=>cases h5
  | false =>
   injection (show Except.ok ((),m + 1)=Except.ok ((),m5) from h5) with h
   injection h with _ h
   subst h
   rfl
theorem rule_body {l:List Tok} {e:Int} {i k m m3 m4 m5:Nat} {s:ByteArray} {x:List TTm × Int} {b:List TLt} {g g2 g3 g4 g5:Bool} (h1:rdIs (rdP false i (nameT l i)) s k g) (h2:rdIs (rdP g k (termsT l k true)) x m g2) (hx:¬ (¬ 0 < x.2∧textT l m g2=⟨#[46]⟩))
  (h3:rdIs (rdP g2 m (if seesT l m ⟨#[58,45]⟩=true then .ok ((),m + 1) else .error m)) () m3 g3) (h4:rdIs (rdP g3 m3 (litsGo l e (l.length + 1) m3 [])) b m4 g4)
  (h5:rdIs (rdP g4 m4 (if seesT l m4 ⟨#[46]⟩=true then .ok ((),m4 + 1) else .error m4)) () m5 g5):rdIs (ruleT l e i) (⟨hereT l e i,s,x.1,x.2,b⟩:TRu) m5 g5:=by
 obtain⟨ts,f⟩:=x
 unfold ruleT
 cases g with
 | true =>
  obtain⟨rfl,rfl⟩:=rdIs_true h2
  obtain⟨rfl,rfl⟩:=rdIs_true h3
  obtain⟨rfl,rfl⟩:=rdIs_true h4
  obtain⟨rfl,rfl⟩:=rdIs_true h5
  rw [show nameT l i = .error m5 from h1]
  rfl
 | false =>
  rw [show nameT l i = .ok (s,k) from h1]
  dsimp only
  cases g2 with
  | true =>
   obtain⟨rfl,rfl⟩:=rdIs_true h3
   obtain⟨rfl,rfl⟩:=rdIs_true h4
   obtain⟨rfl,rfl⟩:=rdIs_true h5
   rw [show termsT l k true = .error m5 from h2]
   rfl
  | false =>
   have hf:=terms_fold (show termsT l k true = .ok ((ts,f),m) from h2)
   rw [show termsT l k true = .ok ((ts,f),m) from h2]
   dsimp only at hf hx ⊢
   rw [if_neg (show ¬(f=0∧seesT l m ⟨#[46]⟩=true) from fun h=>hx ⟨by omega,(text_is (by decide)).2 ⟨rfl,h.2⟩⟩)]
   have h3:rdIs (if seesT l m ⟨#[58,45]⟩=true then .ok ((),m + 1) else .error m:PR Unit) () m3 g3:=h3
   by_cases hs:seesT l m ⟨#[58,45]⟩=true
   ·rw [if_pos hs] at h3
    rw [if_pos hs]
    cases g3 with
    | true=>cases h3
    | false =>
     injection (show Except.ok ((),m + 1)=Except.ok ((),m3) from h3) with h
     injection h with _ h
     subst h
     cases g4 with
     | true =>
      obtain⟨rfl,rfl⟩:=rdIs_true h5
      rw [show litsGo l e (l.length + 1) (m + 1) [] = .error m5 from h4]
      rfl
     | false =>
      rw [show litsGo l e (l.length + 1) (m + 1) [] = .ok (b,m4) from h4]
      dsimp only
      have h5:rdIs (if seesT l m4 ⟨#[46]⟩=true then .ok ((),m4 + 1) else .error m4:PR Unit) () m5 g5:=h5
      by_cases hp:seesT l m4 ⟨#[46]⟩=true
      ·rw [if_pos hp] at h5
       rw [if_pos hp]
       cases g5 with
       | true=>cases h5
       | false =>
        injection (show Except.ok ((),m4 + 1)=Except.ok ((),m5) from h5) with h
        injection h with _ h
        subst h
        rfl
      ·rw [if_neg hp] at h5
       rw [if_neg hp]
       cases g5 with
       | false=>cases h5
       | true =>
        injection (show Except.error m4=Except.error m5 from h5) with h
        subst h
        rfl
   ·rw [if_neg hs] at h3
    rw [if_neg hs]
    cases g3 with
    | false=>cases h3
    | true =>
     injection (show Except.error m=Except.error m3 from h3) with h
     subst h
     obtain⟨rfl,rfl⟩:=rdIs_true h4
     obtain⟨rfl,rfl⟩:=rdIs_true h5
     rfl
def lsInv (l:List Tok) (e:Int) (p:PR (List TLt)) (m:Nat) (b:List TLt) (more fl:Bool) (n:Nat):Prop:=m≤l.length∧match fl,more with
 | true,_=>p = .error m
 | false,true=>p=litsGo l e n m b∧l.length < n + m∧b.length≤m
 | false,false=>p = .ok (b,m)
def rsInv (l:List Tok) (e:Int) (j:Nat) (acc:List TRu) (fl:Bool) (n:Nat):Prop:=j≤l.length∧match fl with
 | true=>rulesGo l e (l.length + 1) 0 [] = .error j
 | false=>rulesGo l e (l.length + 1) 0 []=rulesGo l e n j acc∧l.length < n + j∧acc.length≤j
def rsM:Bool→Nat→Nat
 | true,_=>0
 | false,n=>n + 1
attribute [local irreducible] DW DS DL DQ Ev FnOk FnP FnOkE thenD inBlockD
abbrev ruB (at_:Int) (s:ByteArray) (ts:List TTm) (f:Int) (body:SV):HB:=.blk 47 [.d (.int .i64 at_),.d (.str s),.d (.slice 2 (ts.map encTTm)),.d (.int .i64 f),body]
set_option maxHeartbeats 8000000 in
theorem parseOf_fn (s:ByteArray):Fn 13 [.d (.str s)] (fun r=>r=encParse (parseS s)):=by
 refine fnp_enter' _ Tryz.func13 rfl rfl (by kernel_rfl) ?_
 intro O w0 E0 β0
 have w1:=scanOf_fn s
 unfold encScan at w1
 obtain⟨⟨l,p,er⟩,hq⟩:∃ q,q=scanS s:=⟨_,rfl⟩
 unfold parseS
 rw [← hq] at w1 ⊢
 dsimp only at w1 ⊢
 unfold encParse
 by_cases he:er=0
 ·subst he
  obtain⟨hc,hs,hp⟩:=scanS_chain s l p hq.symm
  have hok:=scanS_all hq.symm
  have hlen:=chain_lenT l 0 hc (Nat.zero_le _)
  obtain⟨e,hee⟩:∃ e:Int,e=s.size:=⟨_,rfl⟩
  rw [if_neg (by simp)]
  rw [← hee]
  repeat' (first|refine z0 ?_|apply ds_nil|apply dw_seq2|refine z16 ?_|apply dw_block|apply dw_skip|refine z19 ?_|apply thenD_n|refine z21 ?_ (hc:=by apply w1)|refine z1 ?_|refine z3 ?_|fail)
  all_goals try (exfalso;omega)
  refine dw_ent (ent_cellrow 2 0 47 5 rfl rfl rfl) ?_
  have htot:∀ j,(Lit.int .i64 (hereT l e j)).wf=true:=fun j=>by
   have hat:=chain_atT l 0 hc
   unfold hereT
   by_cases hj:j < l.length
   ·rw [List.getElem?_eq_getElem hj]
    have:=hat _ (List.getElem_mem hj)
    exact i64_wf (by dsimp only;omega) (by dsimp only;omega)
   ·rw [List.getElem?_eq_none (by omega)]
    exact i64_wf (by dsimp only;omega) (by dsimp only;omega)
  refine ds_loop (ι:=Nat × List TRu × Bool × Nat) (fun x=>⟨4,[(2,.loc 1 0),(3,.d (.int .i64 0)),(4,.d (.int .i64 0)),(5,.d (.slice 3 (l.map encTok))),(8,.loc 0 0),(9,.loc 2 0)],[(0,rdB l x.1 e x.2.2.1),(1,.blk 24 [.nils]),(2,.blk 24 [.row 3]),(3,.row 47 5 (x.2.1.map encTRu))]⟩)
   (fun x=>rsInv l e x.1 x.2.1 x.2.2.1 x.2.2.2) (fun x=>rsM x.2.2.1 x.2.2.2) (0,[],false,l.length + 1) ⟨Nat.zero_le _,rfl,Nat.lt_succ_self _,Nat.le_refl _⟩
   (ent_ren (fun x=>match x with|0=>1|1=>0|x=>x) ⟨rfl,rfl,rfl,rfl,rfl,rfl,trivial⟩ ⟨by rw [hee];rfl,rfl,rfl,rfl,trivial⟩ rfl rfl rfl rfl rfl rfl) ?_
  clear w1 hq hc
  rintro⟨j,acc,fl,n⟩ ⟨hj,hinv⟩
  dsimp only at hj hinv ⊢
  have ll:(l.map encTok).length=l.length:=List.length_map _
  cases fl with
  | true =>
   have hinv:rulesGo l e (l.length + 1) 0 [] = .error j:=hinv
   rw [hinv]
   dsimp only
   have w2:=rhere_fn l j e true
   repeat' (first|refine z0 ?_|refine z12 ?_|apply ds_nil|apply dw_seq2|refine z16 ?_|apply dw_exit|refine z18 ?_|refine z19 ?_|apply thenD_n|apply thenD_e|refine z17 ?_|fail)
   all_goals try (exfalso;omega)
   (refine ds_callF id (w2) rfl rfl rfl rfl ⟨rfl,trivial⟩ rfl rfl rfl rfl rfl rfl ?_ ?_)
   ·rintro k2 res H2 ⟨rfl,rfl,rfl⟩;exact⟨rfl,rfl⟩
   rintro k2 res H2 ⟨rfl,rfl,rfl⟩
   change DS _ _ _ _ _ _ _ _
   clear w2
   repeat' (first|refine z0 ?_|apply ds_nil|apply thenD_n|refine z3 ?_|fail)
   refine dw_ent (ent_cellnil 1 0 5 rfl rfl rfl) ?_
   repeat' (first|apply dw_ret|apply thenD_r)
   exact⟨.inl rfl,_,rfl,rfl,rfl⟩
  | false =>
   obtain⟨hgo,hn,ha⟩:rulesGo l e (l.length + 1) 0 []=rulesGo l e n j acc∧l.length < n + j∧acc.length≤j:=hinv
   obtain⟨n,rfl⟩:∃ m,n=m + 1:=⟨n - 1,by omega⟩
   rw [rulesGo_succ l e n j acc] at hgo
   by_cases hjl:j < l.length
   ·rw [if_pos hjl] at hgo
    have w2:=rhere_fn l j e false
    have w3:=rname_out l j e false (by omega)
    repeat' (first|refine z0 ?_|apply ds_nil|apply dw_seq2|refine z16 ?_|apply dw_block|apply dw_skip|apply dw_exit|refine z19 ?_|apply thenD_n|apply thenD_e|refine z17 ?_|(refine z23 ?_ ?_ <;> intro hg)|fail)
    all_goals try (exfalso;omega)
    (refine ds_callF id (w2) rfl rfl rfl rfl ⟨rfl,trivial⟩ rfl rfl rfl rfl rfl rfl ?_ ?_)
    ·rintro k2 res H2 ⟨rfl,rfl,rfl⟩;exact⟨rfl,rfl⟩
    rintro k2 res H2 ⟨rfl,rfl,rfl⟩
    change DS _ _ _ _ _ _ _ _
    clear w2
    repeat' (first|refine z0 ?_|apply ds_nil|apply dw_seq2|refine z16 ?_|apply thenD_n|refine z1 ?_|refine z3 ?_|fail)
    (refine ds_callF id (w3) rfl rfl rfl rfl ⟨rfl,trivial⟩ rfl rfl rfl rfl rfl rfl ?_ ?_)
    ·rintro k2 res H2 ⟨rfl,s1,k,g,rfl,rfl,_⟩;exact⟨rfl,rfl⟩
    rintro k2 res H2 ⟨rfl,s1,k,g,rfl,rfl,h1⟩
    change DS _ _ _ _ _ _ _ _
    clear w3
    have hk:=name_le hj h1
    have w4:=rterms_out l k e g true hk (by omega) hok
    repeat' (first|refine z0 ?_|apply ds_nil|apply dw_seq2|refine z16 ?_|apply thenD_n|refine z3 ?_|fail)
    (refine ds_callF id (w4) rfl rfl rfl rfl ⟨rfl,trivial⟩ rfl rfl rfl rfl rfl rfl ?_ ?_)
    ·rintro k2 res H2 ⟨rfl,x,m,g2,rfl,rfl,_⟩;exact⟨rfl,rfl⟩
    rintro k2 res H2 ⟨rfl,x,m,g2,rfl,rfl,h2⟩
    change DS _ _ _ _ _ _ _ _
    clear w4
    have hm:=terms_le hk h2
    repeat' ((fail_if_success (apply dw_stopR 10));(first|refine z0 ?_|apply ds_nil|apply thenD_n|refine z3 ?_|fail))
    refine dw_cut (ι:=List TLt × Nat × Bool) (fun y=>⟨5,[(2,.loc 1 0),(3,.d (.int .i64 0)),(4,.d (.int .i64 0)),(5,.d (.slice 3 (l.map encTok))),(8,.loc 0 0),(9,.loc 2 0),(10,.loc 4 0)],[(0,rdB l y.2.1 e y.2.2),(1,.blk 24 [.nils]),(2,.blk 24 [.row 3]),(3,.row 47 5 (acc.map encTRu)),(4,ruB (hereT l e j) s1 x.1 x.2 (.d (.slice 5 (y.1.map encTLt))))]⟩)
     (fun y=>y.2.1≤l.length∧∀ m5 g5,rdIs (rdP y.2.2 y.2.1 (if seesT l y.2.1 ⟨#[46]⟩=true then .ok ((),y.2.1 + 1) else .error y.2.1)) () m5 g5→rdIs (ruleT l e j) (⟨hereT l e j,s1,x.1,x.2,y.1⟩:TRu) m5 g5) ?_ ?_
    ·refine dw_cut (ι:=Bool) (fun b=>⟨5,[(2,.loc 1 0),(3,.d (.int .i64 0)),(4,.d (.int .i64 0)),(5,.d (.slice 3 (l.map encTok))),(8,.loc 0 0),(9,.loc 2 0),(10,.loc 4 0),(53,.d (.bool b))],[(0,rdB l m e g2),(1,.blk 24 [.nils]),(2,.blk 24 [.row 3]),(3,.row 47 5 (acc.map encTRu)),(4,ruB (hereT l e j) s1 x.1 x.2 .nils)]⟩) (fun b=>b=(decide (0 < x.2) || decide (textT l m g2≠⟨#[46]⟩))) ?_ ?_
     ·have w5:=rtext_fn l m e g2
      clear hgo h1 h2
      by_cases hx0:0 < x.2
      ·repeat' (first|refine z0 ?_|refine z12 ?_|apply ds_nil|refine z16 ?_|apply thenD_n|((fail_if_success (apply ds_known;exact rfl));apply ds_guardP;exact rfl;exact rfl;exact rfl;all_goals intro hg))
       all_goals try (exfalso;omega)
       exact⟨true,by rw [decide_eq_true hx0];rfl,ent_ren id ⟨rfl,rfl,rfl,rfl,rfl,rfl,rfl,rfl,trivial⟩ ⟨rfl,rfl,rfl,rfl,rfl,trivial⟩ rfl rfl rfl rfl rfl rfl⟩
      ·repeat' (first|refine z0 ?_|refine z12 ?_|apply ds_nil|refine z16 ?_|apply thenD_n|((fail_if_success (apply ds_known;exact rfl));apply ds_guardP;exact rfl;exact rfl;exact rfl;all_goals intro hg))
       all_goals try (exfalso;omega)
       (refine ds_callF id (w5) rfl rfl rfl rfl ⟨rfl,trivial⟩ rfl rfl rfl rfl rfl rfl ?_ ?_)
       ·rintro k2 res H2 ⟨rfl,rfl,rfl⟩;exact⟨rfl,rfl⟩
       rintro k2 res H2 ⟨rfl,rfl,rfl⟩
       change DS _ _ _ _ _ _ _ _
       clear w5
       repeat' (first|refine z0 ?_|apply ds_nil|apply thenD_n)
       exact⟨decide (textT l m g2≠⟨#[46]⟩),by rw [decide_eq_false hx0];rfl,ent_ren id ⟨rfl,rfl,rfl,rfl,rfl,rfl,rfl,rfl,trivial⟩ ⟨rfl,rfl,rfl,rfl,rfl,trivial⟩ rfl rfl rfl rfl rfl rfl⟩
     ·intro bb hbb
      dsimp only
      cases bb with
      | false =>
       have hbb:=hbb.symm
       rw [Bool.or_eq_false_iff,decide_eq_false_iff_not,decide_eq_false_iff_not,Classical.not_not] at hbb
       obtain⟨hx0,hdt⟩:=hbb
       obtain⟨rfl,hsd⟩:=(text_is (by decide)).1 hdt
       have hx2:x.2=0:=by
        cases g with
        | true=>exact absurd (rdIs_true h2).1 (by decide)
        | false=>have:=terms_fold (show termsT l k true = .ok (x,m) from h2);omega
       have hfin:∀ m5 g5,rdIs (rdP false m (if seesT l m ⟨#[46]⟩=true then .ok ((),m + 1) else .error m)) () m5 g5→rdIs (ruleT l e j) (⟨hereT l e j,s1,x.1,x.2,[]⟩:TRu) m5 g5:=fun m5 g5 h=>rule_dot h1 h2 hx2 hdt h
       clear hgo h1 h2 hdt hsd hx2
       repeat' (first|apply dw_skip|refine z19 ?_|apply thenD_n)
       exact⟨([],m,false),⟨hm,hfin⟩,ent_trans (ent_cellnil 4 4 5 rfl rfl rfl) (ent_ren id ⟨rfl,rfl,rfl,rfl,rfl,rfl,rfl,trivial⟩ ⟨rfl,rfl,rfl,rfl,rfl,trivial⟩ rfl rfl rfl rfl rfl rfl)⟩
      | true =>
       have hx:¬ (¬ 0 < x.2∧textT l m g2=⟨#[46]⟩):=by
        rintro⟨q1,q2⟩
        rw [decide_eq_false q1,decide_eq_false (fun h=>h q2)] at hbb
        cases hbb
       clear hbb
       obtain⟨m3,g3,w5,hd3⟩:=rneed_c l m e g2 ⟨#[58,45]⟩ (by decide) (by omega)
       have h3:=need_is hd3
       have hm3:=need_lt hm hd3
       clear hd3
       refine dw_ent (ent_cellrow 4 4 51 5 rfl rfl rfl) ?_
       repeat' (first|apply dw_seq2|refine z16 ?_|refine z18 ?_|fail)
       (refine ds_callF id (w5) rfl rfl rfl rfl ⟨rfl,trivial⟩ rfl rfl rfl rfl rfl rfl ?_ ?_)
       ·rintro k2 res H2 ⟨rfl,rfl,rfl⟩;exact⟨rfl,rfl⟩
       rintro k2 res H2 ⟨rfl,rfl,rfl⟩
       change DS _ _ _ _ _ _ _ _
       clear w5
       repeat' (first|refine z0 ?_|apply ds_nil|apply dw_seq2|refine z16 ?_|apply dw_block|apply thenD_n)
       have hfin:∀ b m4 g4,rdIs (rdP g3 m3 (litsGo l e (l.length + 1) m3 [])) b m4 g4→∀ m5 g5,rdIs (rdP g4 m4 (if seesT l m4 ⟨#[46]⟩=true then .ok ((),m4 + 1) else .error m4)) () m5 g5→rdIs (ruleT l e j) (⟨hereT l e j,s1,x.1,x.2,b⟩:TRu) m5 g5:=fun b m4 g4 h4 m5 g5 h5=>rule_body h1 h2 hx h3 h4 h5
       obtain⟨pl,hpl⟩:∃ pl,pl=rdP g3 m3 (litsGo l e (l.length + 1) m3 []):=⟨_,rfl⟩
       rw [← hpl] at hfin
       refine ds_loop (ι:=Nat × List TLt × Bool × Bool × Nat) (fun y=>⟨6,[(2,.loc 1 0),(3,.d (.int .i64 0)),(4,.d (.int .i64 0)),(5,.d (.slice 3 (l.map encTok))),(8,.loc 0 0),(9,.loc 2 0),(10,.loc 4 0),(11,.d (.bool y.2.2.1))],[(0,rdB l y.1 e y.2.2.2.1),(1,.blk 24 [.nils]),(2,.blk 24 [.row 3]),(3,.row 47 5 (acc.map encTRu)),(4,ruB (hereT l e j) s1 x.1 x.2 (.row 5)),(5,.row 51 5 (y.2.1.map encTLt))]⟩)
        (fun y=>lsInv l e pl y.1 y.2.1 y.2.2.1 y.2.2.2.1 y.2.2.2.2) (fun y=>tlM y.2.2.2.1 y.2.2.1 y.2.2.2.2) (m3,[],true,g3,l.length + 1) ?_ (ent_ren id ⟨rfl,rfl,rfl,rfl,rfl,rfl,rfl,rfl,trivial⟩ ⟨rfl,rfl,rfl,rfl,rfl,rfl,trivial⟩ rfl rfl rfl rfl rfl rfl) ?_
       ·refine⟨hm3,?_⟩
        cases g3 with
        | true=>exact hpl
        | false=>exact⟨hpl,by show l.length < l.length + 1 + m3;omega,Nat.zero_le _⟩
       clear hpl h1 h2 hgo h3 hx
       rintro⟨q,b,more,fl,n2⟩ ⟨hq,hinv⟩
       dsimp only at hq hinv ⊢
       cases fl with
       | true =>
        have hinv:rdIs pl b q true:=hinv
        cases more with
        | true =>
         repeat' (first|refine z0 ?_|apply ds_nil|apply dw_seq2|refine z16 ?_|apply dw_exit|refine z19 ?_|apply thenD_n|apply thenD_e|refine z17 ?_|fail)
         exact⟨(b,q,true),⟨hq,hfin _ _ _ hinv⟩,ent_trans (ent_cellseal 4 4 5 rfl rfl rfl rfl rfl) (ent_ren id ⟨rfl,rfl,rfl,rfl,rfl,rfl,rfl,trivial⟩ ⟨rfl,rfl,rfl,rfl,rfl,trivial⟩ rfl rfl rfl rfl rfl rfl)⟩
        | false =>
         repeat' (first|refine z0 ?_|refine z12 ?_|apply ds_nil|apply dw_seq2|refine z16 ?_|apply dw_exit|refine z19 ?_|apply thenD_n|apply thenD_e|refine z17 ?_|fail)
         exact⟨(b,q,true),⟨hq,hfin _ _ _ hinv⟩,ent_trans (ent_cellseal 4 4 5 rfl rfl rfl rfl rfl) (ent_ren id ⟨rfl,rfl,rfl,rfl,rfl,rfl,rfl,trivial⟩ ⟨rfl,rfl,rfl,rfl,rfl,trivial⟩ rfl rfl rfl rfl rfl rfl)⟩
       | false=>cases more with
        | false =>
         have hinv:rdIs pl b q false:=hinv
         repeat' (first|refine z0 ?_|refine z12 ?_|apply ds_nil|apply dw_seq2|refine z16 ?_|apply dw_exit|refine z19 ?_|apply thenD_n|apply thenD_e|refine z17 ?_|fail)
         exact⟨(b,q,false),⟨hq,hfin _ _ _ hinv⟩,ent_trans (ent_cellseal 4 4 5 rfl rfl rfl rfl rfl) (ent_ren id ⟨rfl,rfl,rfl,rfl,rfl,rfl,rfl,trivial⟩ ⟨rfl,rfl,rfl,rfl,rfl,trivial⟩ rfl rfl rfl rfl rfl rfl)⟩
        | true =>
         clear hfin
         obtain⟨hli,hn2,hb⟩:pl=litsGo l e n2 q b∧l.length < n2 + q∧b.length≤q:=hinv
         obtain⟨n2,rfl⟩:∃ m,n2=m + 1:=⟨n2 - 1,by omega⟩
         rw [litsGo_succ] at hli
         have wl:=rdBl (rlit_out l q e false hq (by omega) hok) (fun _=>rfl)
         have hne:=rdIs_ex (rdP false q (litT l e q)) (⟨0,0,0,⟨#[]⟩,[]⟩:TLt)
         repeat' (first|refine z0 ?_|apply ds_nil|refine z5 ?_|apply dw_seq2|refine z16 ?_|refine z20 ?_|apply dw_block|apply dw_skip|refine z18 ?_|apply thenD_n)
         refine dt_callB 0 wl rfl rfl rfl rfl rfl rfl rfl rfl (by obtain⟨x,k,g,h⟩:=hne;exact⟨_,_,x,k,g,rfl,rfl,h⟩) ?_
         rintro _ _ ⟨y,r,g5,rfl,rfl,hl⟩
         clear wl hne
         have hr:=lit_le hq hl
         have hr1:g5=false→q < r:=fun h=>by subst h;exact (litT_lt (show litT l e q = .ok (y,r) from hl)).1
         have lb:(b.map encTLt).length=b.length:=List.length_map _
         have hap:(b++[y]).map encTLt=b.map encTLt++[encTLt y]:=List.map_append
         have w6:=rtext_fn l r e g5
         repeat' (first|refine z5 ?_|refine z6 ?_|refine z9 ?_|refine z11 ?_|apply dw_seq2|refine z16 ?_|apply thenD_n)
         (refine ds_callF id (w6) rfl rfl rfl rfl ⟨rfl,trivial⟩ rfl rfl rfl rfl rfl rfl ?_ ?_)
         ·rintro k2 res H2 ⟨rfl,rfl,rfl⟩;exact⟨rfl,rfl⟩
         rintro k2 res H2 ⟨rfl,rfl,rfl⟩
         change DS _ _ _ _ _ _ _ _
         clear w6
         have hli2:textT l r g5≠⟨#[44]⟩→rdIs pl (b++[y]) r g5:=fun h=>by
          cases g5 with
          | true=>rw [show litT l e q = .error r from hl] at hli;exact hli
          | false =>
           rw [show litT l e q = .ok (y,r) from hl] at hli
           dsimp only at hli
           rw [if_neg (fun h2=>h ((text_is (by decide)).2 ⟨rfl,h2⟩))] at hli
           exact hli
         by_cases hsk:textT l r g5=⟨#[44]⟩
         ·obtain⟨rfl,hsk'⟩:=(text_is (by decide)).1 hsk
          clear hli2
          rw [show litT l e q = .ok (y,r) from hl] at hli
          dsimp only at hli
          rw [if_pos hsk'] at hli
          have:=seesT_lt hsk'
          have:=hr1 rfl
          have w7:=rneed_s l r e ⟨#[44]⟩ (by omega) hsk
          rw [hsk]
          clear hl
          repeat' (first|refine z0 ?_|apply ds_nil|apply dw_seq2|refine z16 ?_|refine z18 ?_|apply thenD_n)
          all_goals try (exfalso;omega)
          (refine ds_callF id (w7) rfl rfl rfl rfl ⟨rfl,trivial⟩ rfl rfl rfl rfl rfl rfl ?_ ?_)
          ·rintro k2 res H2 ⟨rfl,rfl,rfl⟩;exact⟨rfl,rfl⟩
          rintro k2 res H2 ⟨rfl,rfl,rfl⟩
          change DS _ _ _ _ _ _ _ _
          clear w7
          repeat' (first|apply ds_nil|apply thenD_n|apply inB_n)
          exact⟨(r + 1,b++[y],true,false,n2),⟨by show r + 1≤l.length;omega,hli,by show l.length < n2 + (r + 1);omega,by show (b++[y]).length≤r + 1;rw [List.length_append];simp;omega⟩,ent_ren (fun x=>match x with|0=>0|1=>1|2=>2|3=>3|4=>4|_=>_) ⟨rfl,rfl,rfl,rfl,rfl,rfl,rfl,rfl,trivial⟩ ⟨rfl,rfl,rfl,rfl,rfl,by dsimp only;rw [hap];rfl,trivial⟩ rfl rfl rfl rfl rfl rfl,Nat.lt_succ_self _⟩
         ·have hinv2:=hli2 hsk
          clear hli2 hli hl
          generalize textT l r g5=t1 at hsk
          repeat' (first|refine z0 ?_|apply ds_nil|apply dw_seq2|refine z16 ?_|apply dw_skip|apply thenD_n|apply inB_n|(refine z23 ?_ ?_ <;> intro hg)|fail)
          all_goals try (exfalso;first|omega|exact absurd (by assumption) hsk)
          exact⟨(r,b++[y],false,g5,n2),⟨hr,by cases g5 <;> exact hinv2⟩,ent_ren (fun x=>match x with|0=>0|1=>1|2=>2|3=>3|4=>4|_=>_) ⟨rfl,rfl,rfl,rfl,rfl,rfl,rfl,congrArg (fun z=>SV.d (D.bool z)) (decide_eq_false hsk),trivial⟩ ⟨rfl,rfl,rfl,rfl,rfl,by dsimp only;rw [hap];rfl,trivial⟩ rfl rfl rfl rfl rfl rfl,by cases g5 <;> exact Nat.succ_pos _⟩
    ·rintro⟨b,m4,g4⟩ ⟨hm4,hy⟩
     dsimp only at hm4 hy ⊢
     obtain⟨m5,g5,w5,hd5⟩:=rneed_c l m4 e g4 ⟨#[46]⟩ (by decide) (by omega)
     have hr:=hy m5 g5 (need_is hd5)
     have hm5:=need_lt hm4 hd5
     clear hd5 hy h1 h2
     have la:(acc.map encTRu).length=acc.length:=List.length_map _
     repeat' (first|apply dw_seq2|refine z16 ?_|fail)
     (refine ds_callF id (w5) rfl rfl rfl rfl ⟨rfl,trivial⟩ rfl rfl rfl rfl rfl rfl ?_ ?_)
     ·rintro k2 res H2 ⟨rfl,rfl,rfl⟩;exact⟨rfl,rfl⟩
     rintro k2 res H2 ⟨rfl,rfl,rfl⟩
     change DS _ _ _ _ _ _ _ _
     clear w5
     repeat' (first|refine z0 ?_|apply ds_nil|refine z16 ?_|apply thenD_n|apply inB_n|refine z3 ?_|refine z4 ?_|refine z2 ?_|fail)
     obtain⟨z,hz⟩:∃ z:TRu,z=⟨hereT l e j,s1,x.1,x.2,b⟩:=⟨_,rfl⟩
     have hap:(acc++[z]).map encTRu=acc.map encTRu++[encTRu ⟨hereT l e j,s1,x.1,x.2,b⟩]:=by rw [← hz];exact List.map_append
     rw [← hz] at hr
     refine⟨(m5,acc++[z],g5,n),⟨hm5,?_⟩,ent_ren (fun x=>match x with|0=>0|1=>1|2=>2|_=>_) ⟨rfl,rfl,rfl,rfl,rfl,rfl,trivial⟩ ⟨rfl,rfl,rfl,by dsimp only;rw [hap];rfl,trivial⟩ rfl rfl rfl rfl rfl rfl,by cases g5 <;> first|exact Nat.lt_succ_self _|exact Nat.succ_pos _⟩
     cases g5 with
     | true=>rw [show ruleT l e j = .error m5 from hr] at hgo;exact hgo
     | false =>
      rw [show ruleT l e j = .ok (z,m5) from hr] at hgo
      have:=(ruleT_lt (show ruleT l e j = .ok (z,m5) from hr)).1
      exact⟨hgo,by show l.length < n + m5;omega,by show (acc++[z]).length≤m5;rw [List.length_append];simp;omega⟩
   ·rw [if_neg hjl] at hgo
    rw [hgo]
    dsimp only
    repeat' ((fail_if_success (apply dw_stopS 22));(first|refine z0 ?_|apply ds_nil|apply dw_seq2|refine z16 ?_|apply dw_block|apply dw_skip|apply dw_exit|refine z19 ?_|apply thenD_n|apply thenD_e|refine z17 ?_|(refine z23 ?_ ?_ <;> intro hg)|fail))
    all_goals try (exfalso;omega)
    refine dw_ent (ent_cellseal 2 0 3 rfl rfl rfl rfl rfl) ?_
    have w3:=checkTree_fn acc
    by_cases hk:checkT acc=0
    ·rw [if_pos hk]
     rw [hk] at w3
     repeat' (first|refine z0 ?_|apply ds_nil|apply dw_seq2|refine z16 ?_|apply dw_skip|apply dw_ret|refine z19 ?_|apply thenD_n|refine z21 ?_ (hc:=by apply w3)|refine z3 ?_|fail)
     all_goals try (exfalso;omega)
     exact⟨.inl rfl,_,rfl,rfl,rfl⟩
    ·rw [if_neg hk]
     repeat' (first|refine z0 ?_|apply ds_nil|apply dw_seq2|refine z16 ?_|apply dw_skip|apply thenD_n|refine z21 ?_ (hc:=by apply w3)|refine z3 ?_|(refine z23 ?_ ?_ <;> intro hg)|fail)
     all_goals try (exfalso;omega)
     refine dw_ent (ent_cellnil 1 0 5 rfl rfl rfl) ?_
     repeat' (first|apply dw_ret|apply thenD_r)
     exact⟨.inl rfl,_,rfl,rfl,rfl⟩
 ·rw [if_pos he]
  repeat' (first|refine z0 ?_|apply ds_nil|apply dw_seq2|refine z16 ?_|apply dw_block|apply dw_skip|apply thenD_n|refine z21 ?_ (hc:=by apply w1)|refine z1 ?_|refine z3 ?_|(refine z23 ?_ ?_ <;> intro hg)|fail)
  all_goals try (exfalso;omega)
  refine dw_ent (ent_cellnil 0 0 5 rfl rfl rfl) ?_
  repeat' (first|apply dw_ret|apply thenD_r)
  exact⟨.inl rfl,_,rfl,rfl,rfl⟩
def sameTTm (a b:TTm):Bool:=decide (a.var=b.var) && decide (a.n=b.n)
def sameTLt (at_:Bool) (x y:TLt):Bool:=(!at_ || decide (x.at_=y.at_)) && (decide (x.kind=y.kind) && (decide (x.op=y.op) && (decide (x.name=y.name) && sameL sameTTm x.terms y.terms)))
def sameTRu (at_:Bool) (a b:TRu):Bool:=(!at_ || decide (a.at_=b.at_)) && (decide (a.name=b.name) && (decide (a.fold=b.fold) && (sameL sameTTm a.terms b.terms && sameL (sameTLt at_) a.body b.body)))
theorem ttm_not {x y:TTm} {b:Bool} (h:(!(decide (x.var=y.var) && (decide (x.n=y.n) && true))) = !b):sameTTm x y=b:=by
 unfold sameTTm
 rw [Bool.and_true] at h
 exact Bool.not_inj h
def headSame (at_:Bool) (a b:TRu):Bool:=(!at_ || decide (a.at_=b.at_)) && (decide (a.name=b.name) && (decide (a.fold=b.fold) && sameL sameTTm a.terms b.terms))
theorem sameTRu_eq (at_:Bool) (a b:TRu):sameTRu at_ a b=(headSame at_ a b && sameL (sameTLt at_) a.body b.body):=by
 unfold sameTRu headSame
 simp only [Bool.and_assoc]
attribute [local irreducible] DT
set_option maxHeartbeats 8000000 in
theorem sameTTms_fn (l m:List (TTm)):Fn 39 [.d (.slice 2 (l.map encTTm)),.d (.slice 2 (m.map encTTm))] (fun r=>r = .d (.bool (sameL sameTTm l m))):=by
 refine fnp_enter' _ Tryz.func39 rfl rfl (by kernel_rfl) ?_
 intro O w0 E0 β0
 refine dw_len_map (t:=0) rfl fun hb=>?_
 repeat' (first|refine z0 ?_|apply ds_nil|apply dw_seq2|refine z16 ?_|apply thenD_n)
 refine dw_condP rfl (fun h=>?_) (fun h=>?_)
 ·have hne:l.length≠m.length:=by rw [List.length_map,List.length_map] at h;omega
  repeat' (first|refine z0 ?_|apply ds_nil|apply dw_seq2|refine z16 ?_|apply dw_ret|apply thenD_n|apply thenD_r)
  exact ret_b rfl (sameL_len _ _ _ hne).symm
 ·have hlen:l.length=m.length:=by rw [List.length_map,List.length_map] at h;omega
  repeat' (first|refine z0 ?_|apply ds_nil|apply dw_seq2|refine z16 ?_|apply dw_block|apply dw_skip|apply thenD_n)
  refine ds_loop (ι:=Nat) (fun i=>⟨0,[(0,.d (.slice 2 (l.map encTTm))),(1,.d (.slice 2 (m.map encTTm))),(5,.d (.int .i64 i))],[]⟩)
   (fun i=>i≤l.length∧sameL sameTTm l m=sameL sameTTm (l.drop i) (m.drop i)) (fun i=>l.length - i) 0 ⟨Nat.zero_le _,rfl⟩
   (ent_ren id ⟨rfl,rfl,rfl,trivial⟩ trivial rfl rfl rfl rfl rfl rfl) ?_
  rintro i ⟨h1,h2⟩
  repeat' (first|refine z0 ?_|apply ds_nil|apply dw_seq2|refine z16 ?_|apply thenD_n)
  refine dw_condP rfl (fun h=>?_) (fun h=>?_)
  ·have hi:i < l.length:=by rw [List.length_map] at h;omega
   have hm:i < m.length:=by omega
   have hd:=sameL_drop sameTTm l m i hi hm
   repeat' (first|refine z5 ?_|refine z10 ?_|apply dw_seq2|refine z20 ?_|apply dw_block|apply dw_skip|apply thenD_n)
   refine dw_cond rfl (fun hb=>?_) (fun hb=>?_)
   ·have hp:sameTTm l[i] m[i]=false:=by exact ttm_not hb
    repeat' (first|refine z0 ?_|apply ds_nil|apply dw_seq2|refine z16 ?_|apply dw_ret|apply thenD_n|apply thenD_r|apply inB_r)
    exact ret_b rfl (by rw [h2,hd,hp];rfl)
   ·have hp:sameTTm l[i] m[i]=true:=by exact ttm_not hb
    repeat' (first|refine z0 ?_|apply ds_nil|refine z16 ?_|apply dw_skip|apply thenD_n|apply inB_n)
    exact⟨i + 1,⟨hi,by rw [h2,hd,hp];rfl⟩,ent_ren id ⟨rfl,rfl,rfl,trivial⟩ trivial rfl rfl rfl rfl rfl rfl,by omega⟩
  ·repeat' (first|refine z0 ?_|apply ds_nil|apply dw_seq2|refine z16 ?_|apply dw_exit|apply dw_ret|apply thenD_n|apply thenD_e|refine z17 ?_|fail)
   exact ret_b rfl (by rw [h2,sameL_end _ _ _ _ (by rw [List.length_map] at h;omega) (by rw [List.length_map] at h;omega)])
set_option maxHeartbeats 8000000 in
theorem sameTree_fn (rs us:List TRu) (atb:Bool):Fn 15 [.agg [.d (.slice 5 (rs.map encTRu))],.agg [.d (.slice 5 (us.map encTRu))],.d (.bool atb)] (fun o=>o = .d (.bool (sameL (sameTRu atb) rs us))):=by
 refine fnp_enter' _ Tryz.func15 rfl rfl (by kernel_rfl) ?_
 intro O w0 E0 β0
 have lr:(rs.map encTRu).length=rs.length:=List.length_map _
 have lu:(us.map encTRu).length=us.length:=List.length_map _
 refine dw_lenA 0 0 rfl rfl (fun hml=>?_)
 rw [lr] at hml
 have hml:rs.length≤9223372036854775807:=hml
 by_cases hlen:rs.length=us.length
 ·repeat' (first|refine z0 ?_|apply ds_nil|apply dw_seq2|refine z16 ?_|apply dw_block|apply dw_skip|apply dw_ret|apply thenD_n|apply thenD_r|refine z1 ?_|(refine z23 ?_ ?_ <;> intro hg)|fail)
  all_goals try (exfalso;omega)
  refine ds_loop (ι:=Nat) (fun i=>⟨2,[(2,.d (.bool atb)),(3,.loc 0 0),(4,.loc 1 0),(7,.d (.int .i64 i))],[(0,treeB rs),(1,treeB us)]⟩)
   (fun i=>i≤rs.length∧sameL (sameTRu atb) rs us=sameL (sameTRu atb) (rs.drop i) (us.drop i)) (fun i=>rs.length - i) 0 ⟨Nat.zero_le _,rfl⟩ (ent_ren id ⟨rfl,rfl,rfl,rfl,trivial⟩ ⟨rfl,rfl,trivial⟩ rfl rfl rfl rfl rfl rfl) ?_
  rintro i ⟨hi,hs⟩
  dsimp only at hi hs ⊢
  by_cases hil:i < rs.length
  ·have hiu:i < us.length:=by omega
   rw [sameL_drop _ rs us i hil hiu] at hs
   have w1:=sameTTms_fn rs[i].terms us[i].terms
   have lb:(rs[i].body.map encTLt).length=rs[i].body.length:=List.length_map _
   have lc:(us[i].body.map encTLt).length=us[i].body.length:=List.length_map _
   repeat' ((fail_if_success (apply dw_stopR 7));(first|refine z0 ?_|apply ds_nil|refine z5 ?_|refine z6 ?_|refine z7 ?_|refine z11 ?_|apply dw_seq2|refine z16 ?_|refine z20 ?_|apply dw_block|apply dw_skip|apply dw_exit|apply thenD_n|apply thenD_e|refine z17 ?_|(refine z23 ?_ ?_ <;> intro hg)|fail))
   all_goals try (exfalso;omega)
   refine dw_cut (ι:=Unit) (fun _=>⟨4,[(2,.d (.bool atb)),(3,.loc 0 0),(4,.loc 1 0),(7,.d (.int .i64 i)),(8,.loc 2 0),(9,.loc 3 0)],[(0,treeB rs),(1,treeB us),(2,truB rs[i]),(3,truB us[i])]⟩) (fun _=>headSame atb rs[i] us[i]=true∧rs[i].body.length=us[i].body.length) ?_ ?_
   ·have hret:headSame atb rs[i] us[i]=false∨rs[i].body.length≠us[i].body.length→sameL (sameTRu atb) rs us=false:=by
     intro h
     rw [hs,sameTRu_eq]
     rcases h with h|h
     ·rw [h];rfl
     ·rw [sameL_len _ _ _ h,Bool.and_false];rfl
    cases atb <;> cases hb1:sameL sameTTm rs[i].terms us[i].terms
    all_goals
     rw [hb1] at w1
     repeat' (first|refine z0 ?_|refine z12 ?_|apply ds_nil|apply dw_seq2|refine z16 ?_|apply dw_skip|apply dw_ret|refine z18 ?_|apply thenD_n|apply thenD_r|apply inB_r|refine z21 ?_ (hc:=by apply w1)|(refine z23 ?_ ?_ <;> intro hg)|((fail_if_success (apply ds_known;exact rfl));apply ds_guardP;exact rfl;exact rfl;exact rfl;all_goals intro hg))
    all_goals try (exfalso;omega)
    all_goals first
     | exact ret_b rfl (hret (.inl (by unfold headSame;first|(simp_all;done)|(simp_all;omega)))).symm
     | exact ret_b rfl (hret (.inr (by omega))).symm
     | exact⟨(),⟨by unfold headSame;first|(simp_all;done)|(simp_all;omega),by omega⟩,ent_ren (fun x=>match x with|0=>0|1=>1|2=>12|_=>13) ⟨rfl,rfl,rfl,rfl,rfl,rfl,trivial⟩ ⟨rfl,rfl,rfl,rfl,trivial⟩ rfl rfl rfl rfl rfl rfl⟩
   ·rintro _ ⟨hh,hbl⟩
    rw [sameTRu_eq,hh,Bool.true_and] at hs
    clear w1
    repeat' (first|refine z0 ?_|apply ds_nil|apply dw_seq2|refine z16 ?_|apply dw_block|apply thenD_n)
    refine ds_loop (ι:=Nat) (fun k=>⟨4,[(2,.d (.bool atb)),(3,.loc 0 0),(4,.loc 1 0),(7,.d (.int .i64 i)),(8,.loc 2 0),(9,.loc 3 0),(10,.d (.int .i64 k))],[(0,treeB rs),(1,treeB us),(2,truB rs[i]),(3,truB us[i])]⟩)
     (fun k=>k≤rs[i].body.length∧sameL (sameTLt atb) rs[i].body us[i].body=sameL (sameTLt atb) (rs[i].body.drop k) (us[i].body.drop k)) (fun k=>rs[i].body.length - k) 0 ⟨Nat.zero_le _,rfl⟩ (ent_ren id ⟨rfl,rfl,rfl,rfl,rfl,rfl,rfl,trivial⟩ ⟨rfl,rfl,rfl,rfl,trivial⟩ rfl rfl rfl rfl rfl rfl) ?_
    rintro k ⟨hk,hks⟩
    dsimp only at hk hks ⊢
    by_cases hkb:k < rs[i].body.length
    ·have hkc:k < us[i].body.length:=by omega
     rw [sameL_drop _ rs[i].body us[i].body k hkb hkc] at hks
     have w1:=sameTTms_fn rs[i].body[k].terms us[i].body[k].terms
     have hret:sameTLt atb rs[i].body[k] us[i].body[k]=false→sameL (sameTRu atb) rs us=false:=by
      intro h
      rw [hs,hks,h];rfl
     have hnext:sameTLt atb rs[i].body[k] us[i].body[k]=true→sameL (sameTLt atb) rs[i].body us[i].body=sameL (sameTLt atb) (rs[i].body.drop (k + 1)) (us[i].body.drop (k + 1)):=by
      intro h
      rw [hks,h];rfl
     repeat' (first|refine z0 ?_|apply ds_nil|apply dw_seq2|refine z16 ?_|apply thenD_n)
     refine dw_len (t:=78) rfl (fun hm2=>?_)
     have hm2:rs[i].body.length≤9223372036854775807:=by rw [lb] at hm2;exact hm2
     repeat' ((fail_if_success (apply dw_stopR 13));(first|refine z0 ?_|refine z12 ?_|apply ds_nil|refine z5 ?_|refine z6 ?_|refine z7 ?_|refine z11 ?_|apply dw_seq2|refine z16 ?_|refine z20 ?_|apply dw_block|apply dw_skip|apply dw_exit|refine z18 ?_|apply thenD_n|apply thenD_e|apply inB_n|refine z17 ?_|(refine z23 ?_ ?_ <;> intro hg)|((fail_if_success (apply ds_known;exact rfl));apply ds_guardP;exact rfl;exact rfl;exact rfl;all_goals intro hg)|((fail_if_success (apply ds_known;exact rfl));apply ds_guardB;exact rfl;exact rfl;exact rfl;all_goals intro hg)))
     all_goals try (exfalso;omega)
     all_goals (cases atb <;> cases hb1:sameL sameTTm rs[i].body[k].terms us[i].body[k].terms)
     all_goals
      rw [hb1] at w1
      repeat' (first|refine z0 ?_|apply ds_nil|apply dw_seq2|refine z16 ?_|apply dw_skip|apply dw_ret|refine z18 ?_|refine z19 ?_|apply thenD_n|apply thenD_r|apply inB_n|apply inB_r|refine z21 ?_ (hc:=by apply w1)|fail)
     all_goals try (exfalso;omega)
     all_goals first
      | exact ret_b rfl (hret (by unfold sameTLt;first|(simp_all;done)|(simp_all;omega))).symm
      | exact⟨k + 1,⟨by omega,hnext (by unfold sameTLt;first|(simp_all;done)|(simp_all;omega))⟩,ent_ren id ⟨rfl,rfl,rfl,rfl,rfl,rfl,rfl,trivial⟩ ⟨rfl,rfl,rfl,rfl,trivial⟩ rfl rfl rfl rfl rfl rfl,by show rs[i].body.length - (k + 1) < rs[i].body.length - k;omega⟩
    ·rw [sameL_end _ _ _ _ (by omega) (by omega)] at hks
     rw [hks,Bool.true_and] at hs
     repeat' (first|refine z0 ?_|refine z12 ?_|apply ds_nil|refine z5 ?_|refine z6 ?_|refine z7 ?_|refine z11 ?_|apply dw_seq2|refine z16 ?_|refine z20 ?_|apply dw_block|apply dw_skip|apply dw_exit|apply dw_ret|refine z18 ?_|apply thenD_n|apply thenD_e|apply thenD_r|apply inB_n|apply inB_r|refine z17 ?_|(refine z23 ?_ ?_ <;> intro hg)|((fail_if_success (apply ds_known;exact rfl));apply ds_guardP;exact rfl;exact rfl;exact rfl;all_goals intro hg)|((fail_if_success (apply ds_known;exact rfl));apply ds_guardB;exact rfl;exact rfl;exact rfl;all_goals intro hg))
     all_goals try (exfalso;omega)
     exact⟨i + 1,⟨by omega,hs⟩,ent_ren id ⟨rfl,rfl,rfl,rfl,trivial⟩ ⟨rfl,rfl,trivial⟩ rfl rfl rfl rfl rfl rfl,by show rs.length - (i + 1) < rs.length - i;omega⟩
  ·repeat' (first|refine z0 ?_|refine z12 ?_|apply ds_nil|refine z5 ?_|refine z6 ?_|refine z7 ?_|refine z11 ?_|apply dw_seq2|refine z16 ?_|refine z20 ?_|apply dw_block|apply dw_skip|apply dw_exit|apply dw_ret|refine z18 ?_|apply thenD_n|apply thenD_e|apply thenD_r|apply inB_r|refine z17 ?_|(refine z23 ?_ ?_ <;> intro hg)|((fail_if_success (apply ds_known;exact rfl));apply ds_guardP;exact rfl;exact rfl;exact rfl;all_goals intro hg)|((fail_if_success (apply ds_known;exact rfl));apply ds_guardB;exact rfl;exact rfl;exact rfl;all_goals intro hg))
   all_goals try (exfalso;omega)
   exact ret_b rfl (by rw [hs,sameL_end _ _ _ _ (by omega) (by omega)])
 ·repeat' (first|refine z0 ?_|apply ds_nil|apply dw_seq2|refine z16 ?_|apply dw_block|apply dw_skip|apply dw_ret|apply thenD_n|apply thenD_r|refine z1 ?_|(refine z23 ?_ ?_ <;> intro hg)|fail)
  all_goals try (exfalso;omega)
  exact ret_b rfl (sameL_len _ _ _ hlen).symm
def smallS:ByteArray:=⟨#[113,40,49,44,32,50,41,46,10,112,40,88,44,32,99,111,117,110,116,32,89,41,32,58,45,32,113,40,88,44,32,89,41,44,32,110,111,116,32,114,40,89,41,44,32,88,32,60,32,89,46,10]⟩
def smallRs:List TRu:=[⟨0,⟨#[113]⟩,[⟨⟨#[]⟩,1⟩,⟨⟨#[]⟩,2⟩],0,[]⟩,⟨9,⟨#[112]⟩,[⟨⟨#[88]⟩,0⟩,⟨⟨#[89]⟩,0⟩],1,[⟨1,26,0,⟨#[113]⟩,[⟨⟨#[88]⟩,0⟩,⟨⟨#[89]⟩,0⟩]⟩,⟨2,35,0,⟨#[114]⟩,[⟨⟨#[89]⟩,0⟩]⟩,⟨3,45,1,⟨#[]⟩,[⟨⟨#[88]⟩,0⟩,⟨⟨#[89]⟩,0⟩]⟩]⟩]
theorem small_parse:parseS smallS=(smallRs,0,0):=by kernel_rfl
theorem small_check:checkT smallRs=0:=by kernel_rfl
set_option maxHeartbeats 8000000 in
theorem treeBegun_fn:Fn 14 [] (fun r=>r = .d (.bool true)):=by
 refine fnp_enter' _ Tryz.func14 rfl rfl (by kernel_rfl) ?_
 intro O w0 E0 β0
 have h1:=tparse_fn smallS
 have h2:=tcheck_fn smallRs
 rw [small_parse] at h1
 rw [small_check] at h2
 unfold encParse at h1
 unfold smallRs at h1 h2
 unfold smallS at h1
 dsimp only at h1 h2
 repeat' (first|refine z0 ?_|apply ds_nil|apply dw_seq2|refine z16 ?_|apply dw_ret|apply thenD_n|refine z21 ?_ (hc:=by apply h1)|refine z21 ?_ (hc:=by apply h2)|refine z1 ?_|refine z3 ?_|fail)
 all_goals first|exact ret_b rfl (by decide)
theorem sameTTms_self (l:List TTm):sameL sameTTm l l=true:=sameL_refl (fun x=>by unfold sameTTm;simp) l
theorem sameTLt_self (b:Bool) (x:TLt):sameTLt b x x=true:=by
 unfold sameTLt
 rw [sameTTms_self]
 simp
theorem sameTRu_self (b:Bool) (x:TRu):sameTRu b x x=true:=by
 unfold sameTRu
 rw [sameTTms_self,sameL_refl (sameTLt_self b)]
 simp
set_option maxHeartbeats 8000000 in
theorem treeParses_fn (s:ByteArray):Fn 4 [.d (.str s)] (fun r=>r = .d (.bool true)):=by
 refine fnp_enter' _ Tryz.func4 rfl rfl (by kernel_rfl) ?_
 intro O w0 E0 β0
 have h1:=tparse_fn s
 have h2:=parseOf_fn s
 have h3:=treeBegun_fn
 generalize parseS s=q at h1 h2
 unfold encParse at h1 h2
 have h4:=sameTree_fn q.1 q.1 true
 rw [sameL_refl (sameTRu_self true)] at h4
 repeat' (first|refine z0 ?_|refine z12 ?_|apply ds_nil|apply dw_seq2|refine z16 ?_|apply dw_ret|apply thenD_n|refine z21 ?_ (hc:=by apply h1)|refine z21 ?_ (hc:=by apply h2)|refine z21 ?_ (hc:=by apply h3)|refine z21 ?_ (hc:=by apply h4)|refine z1 ?_|refine z3 ?_|((fail_if_success (apply ds_known;exact rfl));apply ds_guardP;exact rfl;exact rfl;exact rfl;all_goals intro hg))
 all_goals try (exfalso;exact absurd rfl (by assumption))
 all_goals exact ret_b rfl (by simp)
end Go.Proofs.YtapciiffpnociabGreatDoor
