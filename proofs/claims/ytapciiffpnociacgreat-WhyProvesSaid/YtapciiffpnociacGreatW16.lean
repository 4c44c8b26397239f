/- Several texts in one: RuV GxRR RelW RuW GxSr1. Condition: none. -/
import Derived.Test.YtapciiffpnociacGreatW15
import Derived.Test.YtapciiffpnociacGreatW11
import Derived.Test.YtapciiffpnociacGreatW10
namespace Go.Proofs.YtapciiffpnociacGreat
open Go Go.RowKit
attribute [local irreducible] DW DS DL DQ Ev FnOk FnP thenD b7 DT
set_option maxHeartbeats 8000000 in
theorem growLtl_fn (n:Nat) (hn:n≤1000000):FnOk false Tryz.prog tab b8 162 [.nils,.d (.int .i64 n)] 0 0 [] (fun _ r H=>r = .row 0∧H=[(0,.row 40 4 [])]):=by
 refine cr _ Tryz.func162 rfl rfl (by kernel_rfl) ?_
 intro O w0 E0 β0
 by_cases h0:n=0
 ·subst h0
  repeat' (first|refine z0 ?_|apply ag|apply ae|refine z16 ?_|apply ai|refine z19 ?_|apply aa)
  all_goals try (exfalso;omega)
  refine ds_ev (ev_cap_nils rfl rfl) rfl rfl ?_
  repeat' (first|refine z0 ?_|apply ag|apply ae|refine z16 ?_|apply ai|refine z19 ?_|apply aa)
  all_goals try (exfalso;omega)
  refine bl (ent_nilrow (t:=4) 40 4 rfl) ?_
  repeat' (apply ak)
  exact⟨.inl rfl,_,rfl,id,1,.row 0,[(0,.row 40 4 [])],rfl,⟨rfl,trivial⟩,rfl,rfl,rfl,rfl,rfl,rfl,rfl,rfl⟩
 ·repeat' (first|refine z0 ?_|apply ag|apply ae|refine z16 ?_|apply ai|refine z19 ?_|apply aa)
  all_goals try (exfalso;omega)
  refine ds_ev (ev_cap_nils rfl rfl) rfl rfl ?_
  repeat' (first|refine z0 ?_|apply ag|apply ae|refine z16 ?_|apply ai|apply ak|apply aa|(refine z23 ?_ ?_ <;> intro hg)|fail)
  all_goals try (exfalso;omega)
  refine ds_ev (ev_cap_nils rfl rfl) rfl rfl ?_
  repeat' refine z0 ?_
  all_goals try (exfalso;omega)
  refine ds_apmk (n:=n) (es:=4) (te:=40) [.int .i64 0,.int .i64 0,.int .i64 0,.slice 2 []] rfl rfl (by omega) rfl rfl rfl rfl ⟨.inl rfl,.inl rfl,.inl rfl,.inr ⟨rfl,2,rfl⟩,trivial⟩ rfl rfl (by omega) (by omega) ?_ (by unfold maxLen;omega) rfl rfl ?_
  ·show n * 48≤_
   omega
  repeat' (first|refine z0 ?_|apply ag|apply ae|refine z16 ?_|apply aa)
  all_goals try (exfalso;omega)
  refine bl (ent_cut (n:=0) 4 rfl rfl (Nat.zero_le _) rfl) ?_
  repeat' (apply ak)
  exact⟨.inl rfl,_,rfl,fun j=>match j with|0=>1|j=>j,1,.row 0,[(0,.row 40 4 [])],rfl,⟨rfl,trivial⟩,rfl,rfl,rfl,rfl,rfl,rfl,rfl,rfl⟩
set_option maxHeartbeats 8000000 in
theorem concatLtl_fn (ls:List (List (Ltl))) (h:(ls.map List.length).sum≤1000000) (h2:ls.length≤1000000):Fn 125 [.d (.slice 1 (ls.map fun l=>[.slice 4 (l.map bp)]))] (fun r=>r = .d (.slice 4 (ls.flatten.map bp))):=by
 refine au _ Tryz.func125 rfl rfl (by kernel_rfl) ?_
 intro O w0 E0 β0
 have ll:(ls.map fun l=>[D.slice 4 (l.map bp)]).length=ls.length:=List.length_map _
 repeat' (first|refine z0 ?_|apply ag|apply ae|refine z16 ?_|apply ah|apply aa)
 refine bh (ι:=Nat) (fun i=>⟨0,[(0,.d (.slice 1 (ls.map fun l=>[.slice 4 (l.map bp)]))),(3,.d (.int .i64 (((ls.take i).map List.length).sum:Nat))),(9,.d (.slice 1 (ls.map fun l=>[.slice 4 (l.map bp)]))),(10,.d (.int .i64 ls.length)),(11,.d (.int .i64 i))],[]⟩)
  (fun i=>i≤ls.length) (fun i=>ls.length - i) 0 (Nat.zero_le _) (aj id ⟨rfl,rfl,rfl,by rw [← ll];rfl,rfl,trivial⟩ trivial rfl rfl rfl rfl rfl rfl) ?_
 intro i g1
 by_cases hi:i < ls.length
 ·have h3:=sum_takeL hi
  have h4:=sum_leL ls (i + 1)
  have h5:(ls[i].map bp).length=ls[i].length:=List.length_map _
  repeat' (first|refine z0 ?_|apply ag|apply ae|refine z16 ?_|apply ah|apply ai|apply aq|refine z19 ?_|apply aa|apply ap|apply aw|refine z17 ?_|(refine z23 ?_ ?_ <;> intro hg)|fail)
  all_goals try (exfalso;omega)
  exact⟨i + 1,by omega,aj id ⟨rfl,congrArg (fun z=>SV.d (.int .i64 z)) (by rw [h3,h5];omega),rfl,rfl,rfl,trivial⟩ trivial rfl rfl rfl rfl rfl rfl,by omega⟩
 ·rw [List.take_of_length_le (by omega)]
  repeat' (first|refine z0 ?_|apply ag|apply ae|refine z16 ?_|apply ah|apply ai|apply aq|refine z19 ?_|apply aa|apply ap|apply aw|refine z17 ?_|(refine z23 ?_ ?_ <;> intro hg)|fail)
  all_goals try (exfalso;omega)
  refine bx id (growLtl_fn (ls.map List.length).sum h) rfl rfl rfl rfl trivial rfl rfl rfl rfl rfl rfl ?_ ?_
  ·rintro k2 r H2 ⟨rfl,rfl⟩;exact⟨rfl,rfl⟩
  rintro k2 r H2 ⟨rfl,rfl⟩
  change DS _ _ _ _ _ _ _ _
  repeat' (first|refine z0 ?_|apply ag|apply ae|refine z16 ?_|apply ah|apply aa)
  refine bh (ι:=Nat) (fun i=>⟨1,[(6,.row 0),(25,.d (.slice 1 (ls.map fun l=>[.slice 4 (l.map bp)]))),(26,.d (.int .i64 ls.length)),(27,.d (.int .i64 i))],[(0,.row 40 4 ((ls.take i).flatten.map bp))]⟩)
   (fun i=>i≤ls.length) (fun i=>ls.length - i) 0 (Nat.zero_le _) (aj id ⟨rfl,rfl,by rw [← ll];rfl,rfl,trivial⟩ ⟨rfl,trivial⟩ rfl rfl rfl rfl rfl rfl) ?_
  clear hi g1
  intro i g1
  by_cases hi:i < ls.length
  ·have h3:=sum_takeL hi
   have h4:=sum_leL ls (i + 1)
   have h5:(ls[i].map bp).length=ls[i].length:=List.length_map _
   have h6:((ls.take i).flatten.map bp).length=((ls.take i).map List.length).sum:=by rw [List.length_map,List.length_flatten]
   have h7:(ls.take (i + 1)).flatten=(ls.take i).flatten++ls[i]:=by rw [List.take_succ_eq_append_getElem hi,List.flatten_append];simp
   repeat' (first|refine z0 ?_|apply ag|apply ae|refine z16 ?_|apply ah|apply ai|apply aq|apply ak|apply aa|apply ap|apply aw|refine z17 ?_|refine z2 ?_|(refine z23 ?_ ?_ <;> intro hg)|fail)
   all_goals try (exfalso;omega)
   exact⟨i + 1,by omega,aj (fun _=>1) ⟨rfl,rfl,rfl,rfl,trivial⟩ ⟨by rw [h7,List.map_append];rfl,trivial⟩ rfl rfl rfl rfl rfl rfl,by omega⟩
  ·rw [List.take_of_length_le (by omega)]
   repeat' (first|refine z0 ?_|apply ag|apply ae|refine z16 ?_|apply ah|apply ai|apply aq|apply aa|apply ap|apply aw|refine z17 ?_|refine z2 ?_|(refine z23 ?_ ?_ <;> intro hg)|fail)
   all_goals try (exfalso;omega)
   refine bl (cg 2 rfl rfl rfl) ?_
   repeat' (apply ak)
   exact⟨.inl rfl,_,rfl,rfl,rfl⟩
set_option maxHeartbeats 8000000 in
theorem indexLtl_fn {f:FuncId} {caps:List SV} (p:Ltl→Bool) (l:List (Ltl)) (hcap:SV.lowL 0 caps=true) (hp:∀ x∈l,Fn f (elLtl x::caps) (fun r=>r = .d (.bool (p x)))):Fn 160 [.d (.slice 4 (l.map bp)),.fn f caps] (fun r=>r = .d (.int .i64 (idxF p l))):=by
 refine au _ Tryz.func160 rfl rfl (by kernel_rfl) ?_
 intro O w0 E0 β0
 refine da (t:=0) rfl fun hb=>?_
 repeat' (first|refine z0 ?_|apply ag|apply ae|refine z16 ?_|apply ah|apply aa)
 refine bh (ι:=Nat) (fun i=>⟨0,[(0,.d (.slice 4 (l.map bp))),(1,.fn f caps),(7,.d (.int .i64 l.length)),(8,.d (.int .i64 i))],[]⟩)
  (fun i=>i≤l.length∧∀ j (hj:j < l.length),j < i→p l[j]=false) (fun i=>l.length - i) 0 ⟨Nat.zero_le _,fun j _ h=>absurd h (Nat.not_lt_zero j)⟩
  (aj id ⟨rfl,congrArg (SV.fn f) (SV.renL_id caps).symm,by simp;rfl,rfl,trivial⟩ trivial (by simp [Sl.low,SV.low,hcap]) rfl rfl rfl rfl rfl) ?_
 rintro i ⟨h1,h2⟩
 repeat' (first|refine z0 ?_|apply ag|apply ae|refine z16 ?_|apply aa)
 refine cw rfl (fun h=>?_) (fun h=>?_)
 ·have hi:i < l.length:=by omega
  have hpx:=hp l[i] (List.getElem_mem hi)
  repeat' (first|refine z0 ?_|apply ag|apply ae|refine z16 ?_|apply ah|apply ai|apply aa|(apply ds_callV;exact rfl;exact rfl;exact rfl;exact rfl;apply hpx;exact rfl;(assumption);exact rfl;rintro _ rfl))
  refine bu rfl (fun hb=>?_) (fun hb=>?_)
  ·repeat' (first|refine z0 ?_|apply ag|apply ae|refine z16 ?_|apply ak|apply aa|apply av|apply bq)
   exact cb rfl (idxF_hit h2 hi hb).symm
  ·repeat' (first|refine z0 ?_|apply ag|refine z16 ?_|apply ai|apply aa|apply aw)
   exact⟨i + 1,⟨hi,none_step h2 hi hb⟩,aj id ⟨rfl,congrArg (SV.fn f) (SV.renL_id caps).symm,rfl,rfl,trivial⟩ trivial (by simp [Sl.low,SV.low,hcap]) rfl rfl rfl rfl rfl,by omega⟩
 ·repeat' (first|refine z0 ?_|apply ag|apply ae|refine z16 ?_|apply aq|apply ak|apply aa|apply ap|refine z17 ?_|fail)
  exact cb rfl (idxF_none fun j hj=>h2 j hj (by omega)).symm
set_option maxHeartbeats 8000000 in
theorem next1_fn (l:Ltl):Fn 161 [elLtl l] (fun r=>r = .d (.bool (decide (l.kind=1)))):=by
 refine au _ Tryz.func161 rfl rfl (by kernel_rfl) ?_
 intro O w0 E0 β0
 repeat' (first|refine z0 ?_|apply ag|apply ae|refine z16 ?_|apply ak|apply aa|refine z1 ?_|fail)
 exact⟨.inl rfl,_,rfl,rfl,rfl⟩
theorem idxF_findIdx {α:Type} {p:α→Bool} {l:List α} (h:l.findIdx p < l.length):idxF p l=(l.findIdx p:Nat) :=
 idxF_hit (fun j _ hj=>by have:=List.not_of_lt_findIdx hj;simpa using this) h List.findIdx_getElem
theorem findIdx_at {α:Type} {p:α→Bool} {l:List α} {i:Nat} (hi:i < l.length) (h:∀ j (_:j < l.length),j < i→p l[j]=false) (hp:p l[i]=true):l.findIdx p=i:=by
 rcases Nat.lt_trichotomy (l.findIdx p) i with h1|h1|h1
 ·have h2:=h _ (by omega) h1
  have h3:=List.findIdx_getElem (xs:=l) (p:=p) (w:=by omega)
  rw [h2] at h3;cases h3
 ·exact h1
 ·have:=List.not_of_lt_findIdx h1;rw [hp] at this;simp at this
theorem findIdx_no {α:Type} {p:α→Bool} {l:List α} (h:∀ j (_:j < l.length),p l[j]=false):¬ l.findIdx p < l.length:=fun h1=>by
 have h3:=List.findIdx_getElem (xs:=l) (p:=p) (w:=h1)
 rw [h _ h1] at h3;cases h3
theorem needT_len (l:Ltl):(needT l).length≤l.terms.length:=by
 unfold needT
 split
 ·rw [List.length_take];omega
 ·exact Nat.le_refl _
set_option maxHeartbeats 8000000 in
theorem next_fn (r:Rul) (S:List Fct) (out:List (List Int)) (e:RE) (left:List Ltl) (hok:∀ l∈left,okL S e.length l) (hl:left.length≤1000000) (hn:nextE e left < left.length) (htl:∀ l∈left,l.terms.length≤3) :
  FnOk false Tryz.prog tab b8 124 [.loc 0 0,.d (.slice 4 (left.map bp))] 4 4 (pfH r S e out) (fun _ res H=>res = .d (.int .i64 (nextE e left:Nat))∧H=pfH r S e out):=by
 refine cr _ Tryz.func124 rfl rfl (by kernel_rfl) ?_
 intro O w0 E0 β0
 have ll:(left.map bp).length=left.length:=List.length_map _
 repeat' (first|refine z0 ?_|apply ag|apply ae|refine z16 ?_|apply ah|apply aa)
 refine bh (ι:=Nat) (fun i=>⟨4,[(0,.loc 0 0),(1,.d (.slice 4 (left.map bp))),(10,.d (.slice 4 (left.map bp))),(11,.d (.int .i64 left.length)),(12,.d (.int .i64 i))],pfH r S e out⟩)
  (fun i=>i≤left.length∧∀ j (_:j < left.length),j < i→rdyL e left[j]=false) (fun i=>left.length - i) 0 ⟨Nat.zero_le _,fun _ _ h=>by omega⟩ (aj id ⟨rfl,rfl,rfl,by rw [← ll];rfl,rfl,trivial⟩ ⟨rfl,rfl,rfl,rfl,trivial⟩ rfl rfl rfl rfl rfl rfl) ?_
 rintro i ⟨g1,g2⟩
 dsimp only at g1 g2 ⊢
 by_cases hi:i < left.length
 ·have hm:=List.getElem_mem hi
  have ho:=hok _ hm
  have h3:=htl _ hm
  have w:=values_fn r S out e (needT left[i]) (fun t ht=>ho.terms t (by unfold needT at ht;split at ht;exact List.mem_of_mem_take ht;exact ht)) (by have:=needT_len left[i];omega)
  have hr:rdyL e left[i]=(needT left[i]).all fun t=>(vOf e t).isSome:=rfl
  by_cases h4:left[i].kind=4
  ·have hc3:=ho.calc3 h4
   have lt:(left[i].terms.map bm).length=left[i].terms.length:=List.length_map _
   have hnt:needT left[i]=left[i].terms.take 2:=by unfold needT;rw [if_pos h4]
   rw [hnt] at w hr
   repeat' (first|(apply ds_slD;exact rfl;exact rfl;exact rfl;exact rfl;exact rfl;exact rfl;(refine⟨?_,?_,?_⟩ <;> (omega));((with_reducible apply hv_take);(exact c7 _));exact rfl;exact rfl)|refine z0 ?_|apply ag|apply ae|refine z16 ?_|apply ah|apply ai|apply aq|apply aa|apply ap|refine z17 ?_|refine z1 ?_|refine z3 ?_|(refine z23 ?_ ?_ <;> intro hg)|fail)
   all_goals try (exfalso;omega)
   (refine bx id (w) rfl rfl rfl rfl ⟨rfl,rfl,rfl,rfl,trivial⟩ rfl rfl rfl rfl rfl rfl ?_ ?_)
   ·rintro k2 res H2 ⟨rfl,rfl⟩;split <;> exact⟨rfl,rfl⟩
   rintro k2 res H2 ⟨rfl,rfl⟩
   clear w
   cases hb:rdyL e left[i] with
   | false =>
    rw [← hr,hb,if_neg (by simp)]
    change DS _ _ _ _ _ _ _ _
    repeat' (first|refine z0 ?_|apply ag|apply ae|refine z16 ?_|apply ai|refine z19 ?_|apply aa|apply aw)
    all_goals try (exfalso;omega)
    exact⟨i + 1,⟨hi,fun j hj hji=>by
     by_cases hq:j=i
     ·subst hq;exact hb
     ·exact g2 j hj (by omega)⟩,aj id ⟨rfl,rfl,rfl,rfl,rfl,trivial⟩ ⟨rfl,rfl,rfl,rfl,trivial⟩ rfl rfl rfl rfl rfl rfl,by omega⟩
   | true =>
    have hfi:left.findIdx (rdyL e)=i:=findIdx_at hi g2 hb
    have hne:nextE e left=i:=by unfold nextE;rw [hfi,if_pos hi]
    rw [← hr,hb,if_pos rfl,hne]
    change DS _ _ _ _ _ _ _ _
    repeat' (first|refine z0 ?_|apply ag|apply ae|refine z16 ?_|apply ak|refine z18 ?_|apply aa|apply av|apply bq)
    all_goals try (exfalso;omega)
    exact⟨.inl rfl,_,rfl,id,4,_,pfH r S e out,rfl,⟨rfl,rfl,rfl,rfl,trivial⟩,rfl,rfl,rfl,rfl,rfl,rfl,rfl,rfl⟩
  ·have hnt:needT left[i]=left[i].terms:=by unfold needT;rw [if_neg h4]
   rw [hnt] at w hr
   repeat' (first|(apply ds_slD;exact rfl;exact rfl;exact rfl;exact rfl;exact rfl;exact rfl;(refine⟨?_,?_,?_⟩ <;> (omega));((with_reducible apply hv_take);(exact c7 _));exact rfl;exact rfl)|refine z0 ?_|apply ag|apply ae|refine z16 ?_|apply ah|apply ai|apply aq|apply aa|apply ap|refine z17 ?_|refine z1 ?_|refine z3 ?_|(refine z23 ?_ ?_ <;> intro hg)|fail)
   all_goals try (exfalso;omega)
   (refine bx id (w) rfl rfl rfl rfl ⟨rfl,rfl,rfl,rfl,trivial⟩ rfl rfl rfl rfl rfl rfl ?_ ?_)
   ·rintro k2 res H2 ⟨rfl,rfl⟩;split <;> exact⟨rfl,rfl⟩
   rintro k2 res H2 ⟨rfl,rfl⟩
   clear w
   cases hb:rdyL e left[i] with
   | false =>
    rw [← hr,hb,if_neg (by simp)]
    change DS _ _ _ _ _ _ _ _
    repeat' (first|refine z0 ?_|apply ag|apply ae|refine z16 ?_|apply ai|refine z19 ?_|apply aa|apply aw)
    all_goals try (exfalso;omega)
    exact⟨i + 1,⟨hi,fun j hj hji=>by
     by_cases hq:j=i
     ·subst hq;exact hb
     ·exact g2 j hj (by omega)⟩,aj id ⟨rfl,rfl,rfl,rfl,rfl,trivial⟩ ⟨rfl,rfl,rfl,rfl,trivial⟩ rfl rfl rfl rfl rfl rfl,by omega⟩
   | true =>
    have hfi:left.findIdx (rdyL e)=i:=findIdx_at hi g2 hb
    have hne:nextE e left=i:=by unfold nextE;rw [hfi,if_pos hi]
    rw [← hr,hb,if_pos rfl,hne]
    change DS _ _ _ _ _ _ _ _
    repeat' (first|refine z0 ?_|apply ag|apply ae|refine z16 ?_|apply ak|refine z18 ?_|apply aa|apply av|apply bq)
    all_goals try (exfalso;omega)
    exact⟨.inl rfl,_,rfl,id,4,_,pfH r S e out,rfl,⟨rfl,rfl,rfl,rfl,trivial⟩,rfl,rfl,rfl,rfl,rfl,rfl,rfl,rfl⟩
 ·have hno:¬ left.findIdx (rdyL e) < left.length:=findIdx_no fun j hj=>g2 j hj (by omega)
  have hne:nextE e left=left.findIdx fun l=>decide (l.kind=1):=by unfold nextE;rw [if_neg hno]
  rw [hne] at hn ⊢
  have w:=indexLtl_fn (caps:=[]) (f:=161) (fun l=>decide (l.kind=1)) left rfl (fun x _=>next1_fn x)
  rw [idxF_findIdx hn] at w
  repeat' (first|(apply ds_slD;exact rfl;exact rfl;exact rfl;exact rfl;exact rfl;exact rfl;(refine⟨?_,?_,?_⟩ <;> (omega));((with_reducible apply hv_take);(exact c7 _));exact rfl;exact rfl)|refine z0 ?_|apply ag|apply ae|refine z16 ?_|apply ah|apply ai|apply aq|apply ak|apply aa|apply ap|refine z17 ?_|refine z21 ?_ (hc:=by apply w)|refine z1 ?_|refine z3 ?_|(refine z23 ?_ ?_ <;> intro hg)|fail)
  all_goals try (exfalso;omega)
  exact⟨.inl rfl,_,rfl,id,4,_,pfH r S e out,rfl,⟨rfl,rfl,rfl,rfl,trivial⟩,rfl,rfl,rfl,rfl,rfl,rfl,rfl,rfl⟩
end Go.Proofs.YtapciiffpnociacGreat
namespace Go.Proofs.YtapciiffpnociacGreat
open Go Go.RowKit
section
variable {Γ : Ctx} {k : Nat → Prop} {L : Sl} {H : Hp} {a : Act} {w : World} {e : Env} {t t' ty : TypeId} {x y : Operand}
theorem op_append_rowR [NoDr Γ] {d z:Nat} {te t2 tb:TypeId} {pos:String} {af:Array Edge} {g:Option (Nat × Bool)} {i j es:Nat} {xs ys:List (List D)}
  (hz':¬ k z) (ht:Γ.sh t = .slice te) (hkn:(Γ.sh te).known=true) (hes:Γ.cells te=es) (hpos:Nat.blt 0 es=true) (hz:Nat.beq (bg Γ.τ te).zero.length (Γ.cells te)=true)
  (hx:bi L x = .row i) (hH:Hp.get H i=some (.row te es xs)) (hy:bi L y = .row j) (hHj:Hp.get H j=some (.row tb es ys)) (hd:Nat.blt d Γ.n=true)
  (hroom:(xs.length + ys.length) * (bg Γ.τ te).bytes≤140737488355328) (h63:xs.length + ys.length≤maxLen) :
  OpOk Γ ⟨some d,.call { callee:=.builtin .append,args:=#[x,y],argTypes:=#[t,t] },t2,pos,af,g⟩ k L H (with1 k z) ((d,.row z)::L) ((z,.row te es (xs++ys))::Hp.del H i):=by
 intro e a w Q m
 have hze:¬ e.dom z:=fun h=>hz' ((m.top z).1 h)
 obtain⟨inf,zv,hi,hzz,hs,hb,hzc⟩:=Ctx.info (Sh.known_ne hkn)
 have hut:=Ctx.slice ht
 obtain⟨_,hvx,_⟩:=evT m hx (cSV_row · _)
 obtain⟨_,hvy,_⟩:=evT m hy (cSV_row · _)
 obtain⟨vs,ho,hxe,hone,hrep⟩:=(m.heap _ (Hp.mem_of hH)).2
 obtain⟨us,hoy,hye,hone2,hrep2⟩:=(m.heap _ (Hp.mem_of hHj)).2
 have hsz:inf.size=es:=by rw [hs,hes]
 rw [← hsz] at ho
 have hcase:∃ v' w',(Builtin.append_ #[t,t] t2 #[e.η i,a.eval y]).run Γ.P w = .ok v' w'∧w'.ownsRow 0 te inf.size v' (xs.length + ys.length) (vs++us)∧w.grownBy w' (e.η i).ownBlock∧(∀ c,v'.ownBlock=some c→(e.η i).ownBlock=some c∨w.heap.size≤c):=by
  rcases hoy.2 with ⟨hv,hl0⟩|⟨gb,cap,cur,hv,_⟩
  ·have hys:ys=[]:=List.eq_nil_of_length_eq_zero hl0
   have hu0:us=[]:=List.eq_nil_of_length_eq_zero (by rw [hoy.1,hl0,Nat.zero_mul])
   rw [hvy,hv,hys,hu0]
   have hrun:=run_append_owned_none (P:=Γ.P) (w:=w) 0 t t2 te inf inf.size hut hi (e.η i) xs.length vs ho
   exact⟨e.η i,w,hrun,by simpa using ho,⟨rfl,rfl,rfl,Nat.le_refl _,fun _ _ _=>rfl⟩,fun c hc=>.inl hc⟩
  ·have hcells:∀ j u,us[j]? = some u→w.cell? ((⟨gb,0,none⟩:Addr).add j)=some u:=hoy.cells (g:=gb) (by rw [hv];rfl)
   rw [hvy,hv]
   exact append_own (P:=Γ.P) (ty:=t2) hut hi hzz (Ctx.zsize hzc hz hs) (by rw [hsz];exact Nat.le_of_ble_eq_true hpos) ho (c:=cap) (by rw [hoy.1,hsz]) hcells hone2 h63 (by rw [hb];exact hroom)
 obtain⟨v',w',hrun,hown',hgr,hblk⟩:=hcase
 have hop:(execOp a.eval ⟨some d,.call { callee:=.builtin .append,args:=#[x,y],argTypes:=#[t,t] },t2,pos,af,g⟩).run Γ.P w = .ok (.value v') w':=by
  simp only [execOp,resolve,invoke,builtin,Sem.run_bind,Sem.run_pure,Result.andThen_ok,List.map_toArray,List.map_cons,List.map_nil,hvx,hrun]
 unfold Oper.wp
 rw [hop]
 have hη:(e.bindRow z v').η z=v':=if_pos rfl
 have hl:=ho.1
 have m2:=m.trade (hb:=.row te es (xs++ys)) hH hz' (e':=e.bindRow z v') (w':=w') (fun i=>or_congr (m.top i) Iff.rfl) (e.bindRow_ext _ _ hze) hgr.size hgr.os hgr.tape hgr.output NoDr.any
  (fun c hc hne=>hgr.block c hc (fun h=>hne (by simp [HB.owned,h]))) (fun c hc=>by simp only [HB.owned,hη] at hc;exact hblk c hc) (fun hX=>by
   have hkeep:∀ b,b < w.heap.size→¬ Γ.X e H b→w'.heap[b]? = w.heap[b]?:=fun b hb hx=>hgr.block b hb (fun h=>hx (.inr (List.mem_filterMap.2 ⟨_,Hp.mem_of hH,by simp [HB.owned,h]⟩)))
   obtain⟨q1,q2⟩:=rows_append hxe hye (by rw [hl,hsz]) hrep hrep2
   refine⟨vs++us,?_,q1,fun v hv=>?_,fun i' hi' j hj=>?_⟩
   ·rw [hη,List.length_append,← hsz];exact hown'
   ·rcases List.mem_append.1 hv with hv|hv
    ·exact hone v hv
    ·exact hone2 v hv
   ·obtain⟨v,p1,p2⟩:=q2 i' hi' j hj
    exact⟨v,p1,RepC.keep hgr.size hkeep hX p2⟩)
 exact⟨_,m2.put (s:=.row z) (v:=v') (Nat.le_of_ble_eq_true hd) ⟨.inr rfl,hη.symm,ownsRow_one hown'⟩⟩
end
section
variable {Γ : Ctx} {k : Nat} {L : Sl} {H : Hp} {K : c6} {ops : List Oper} {rest : List Oper} {t t' ty : TypeId} {x y : Operand}
theorem ds_append_rowR [NoDr Γ] (j:Nat) {d:Nat} {te t2 tb:TypeId} {pos:String} {af:Array Edge} {g:Option (Nat × Bool)} {i es:Nat} {xs ys:List (List D)} {H':Hp}
  (ht:Γ.sh t = .slice te) (hkn:(Γ.sh te).known=true) (hes:Γ.cells te=es) (hpos:Nat.blt 0 es=true) (hz:Nat.beq (bg Γ.τ te).zero.length (Γ.cells te)=true)
  (hx:bi L x = .row i) (hH:Hp.get H i=some (.row te es xs)) (hy:bi L y = .row j) (hHj:Hp.get H j=some (.row tb es ys)) (hw:bk ops L g=some true) (hd:Nat.blt d Γ.n=true)
  (hroom:(xs.length + ys.length) * (bg Γ.τ te).bytes≤140737488355328) (h63:xs.length + ys.length≤maxLen) (hD:delF H i some=some H')
  (hk:DS false Γ ops rest K (k + 1) ((d,.row k)::L) ((k,.row te es (xs++ys))::H')) :
  DS false Γ ops (⟨some d,.call { callee:=.builtin .append,args:=#[x,y],argTypes:=#[t,t] },t2,pos,af,g⟩::rest) K k L H:=by
 rw [delF_eq] at hD
 simp only [Option.some.injEq] at hD
 subst hD
 exact dl_op hw ((op_append_rowR (lo_not k) ht hkn hes hpos hz hx hH hy hHj hd hroom h63).cast (with1_lo k)) hk
theorem ds_eqnilR {d i es:Nat} {te tb:TypeId} {pos:String} {af:Array Edge} {g:Option (Nat × Bool)} {xs:List (List D)} (hx:bi L x = .row i) (hH:Hp.get H i=some (.row tb es xs)) (hy:bi L y = .nils) (ht:(bg Γ.τ t).sh = .slice te) (hd:Nat.blt d Γ.n=true) (hw:bk ops L g=some true)
  (h1:xs=[]→DS false Γ ops rest K k ((d,.d (.bool true))::L) H) (h2:DS false Γ ops rest K k ((d,.d (.bool false))::L) H):DS false Γ ops (⟨some d,.binOp .eql t x y t',ty,pos,af,g⟩::rest) K k L H:=by
 refine dl_run hw fun e a w m=>?_
 obtain⟨_,hvx,_⟩:=evT m hx (cSV_row · _)
 obtain⟨us,hown,_⟩:=(m.heap _ (Hp.mem_of hH)).2
 have hvy:a.eval y = .slice none 0 0:=by
  have hok:opOk y:=by
   cases y with
   | const v=>simp only [bi] at hy;unfold cSV at hy;split at hy <;> simp_all [opOk,cOk]
   | _=>trivial
  have:=m.op y hok
  rw [hy] at this;exact this
 have hv:∃ ao n cap,e.η i = .slice ao n cap∧(ao=none→xs=[]):=by
  rcases hown.2 with ⟨hv,h0⟩|⟨gb,cap,cur,hv,_⟩
  ·exact⟨_,_,_,hv,fun _=>List.eq_nil_of_length_eq_zero h0⟩
  ·exact⟨_,_,_,hv,fun h=>by cases h⟩
 obtain⟨ao,n,cap,hv,hnone⟩:=hv
 have hrun:(execOp a.eval ⟨some d,.binOp .eql t x y t',ty,pos,af,g⟩).run Γ.P w = .ok (.value (.bool ao.isNone)) w:=by
  simp [execOp,hvx,hv,hvy,eqGuard,Lib.run_eql_slice_nil w t te ao n cap 0 0 (Ctx.slice ht)]
 unfold Oper.wp
 rw [hrun]
 cases ao with
 | none=>exact⟨k,_,H,e,m.put (s:=.d (.bool true)) (v:=.bool true) (Nat.le_of_ble_eq_true hd) .bool,h1 (hnone rfl)⟩
 | some ad=>exact⟨k,_,H,e,m.put (s:=.d (.bool false)) (v:=.bool false) (Nat.le_of_ble_eq_true hd) .bool,h2⟩
end
attribute [local irreducible] DW DS DL DQ Ev FnOk FnP thenD b7 DT
theorem half_u64 (i j:Nat) (h:i + j≤9223372036854775807):shrN .u64 (IntKind.u64.wrap ((i:Int) + j)) 1=(((i + j) / 2:Nat):Int):=by
 have hw:IntKind.u64.wrap ((i:Int) + j)=(i:Int) + j:=by simp [IntKind.wrap,IntKind.bits,IntKind.signed];omega
 rw [hw]
 unfold shrN
 rw [show (2:Int) ^ min (1:Int).toNat IntKind.u64.bits=2 from by decide,Int.fdiv_eq_ediv_of_nonneg _ (by decide)]
 omega
theorem found_at {l:List Fct} {f:Fct} {i:Nat} (hs:Strict l) (h1:∀ p (hp:p < l.length),p < i→c9 l[p] f < 0) (h2:∀ p (hp:p < l.length),i≤p→0≤c9 l[p] f):hasF l f=(if h:i < l.length then decide (c9 l[i] f=0) else false):=by
 rw [Bool.eq_iff_iff,hasF_iff]
 have hpi:=List.pairwise_iff_getElem.1 hs
 constructor
 ·intro hm
  obtain⟨p,hp,rfl⟩:=List.mem_iff_getElem.1 hm
  have hpi':¬ p < i:=fun h=>lt_irrefl (h1 p hp h)
  rw [dif_pos (by omega)]
  by_cases he:p=i
  ·subst he;exact decide_eq_true (ordF_self _)
  ·have:=hpi i p (by omega) hp (by omega)
   have:=h2 i (by omega) (Nat.le_refl _)
   omega
 ·intro h
  split at h
  ·rename_i hi
   rw [← ordF_eq0 (of_decide_eq_true h)]
   exact List.getElem_mem hi
  ·cases h
theorem below_step {l:List Fct} {f:Fct} {h i:Nat} (hs:Strict l) (hml:h < l.length) (_:∀ p (hp:p < l.length),p < i→c9 l[p] f < 0) (hg:c9 l[h] f < 0):∀ p (hp:p < l.length),p < h + 1→c9 l[p] f < 0:=by
 intro p hp hlt
 by_cases he:p=h
 ·subst he;exact hg
 ·exact ordF_trans (List.pairwise_iff_getElem.1 hs p h hp hml (by omega)) hg
theorem above_step {l:List Fct} {f:Fct} {h:Nat} (hs:Strict l) (hml:h < l.length) (hg:0≤c9 l[h] f):∀ p (hp:p < l.length),h≤p→0≤c9 l[p] f:=by
 intro p hp hlt
 by_cases he:p=h
 ·subst he;exact hg
 ·have h1:=List.pairwise_iff_getElem.1 hs h p hml hp (by omega)
  have h2:=ordF_anti l[p] l[h]
  exact ordF_le (by omega) hg
set_option maxHeartbeats 8000000 in
theorem bsearch_fn (l:List Fct) (f:Fct) (hl:l.length≤4398046511104) (hs:Strict l):Fn 116 [.d (.slice 2 (l.map ay)),elFct f,.fn 63 []] (fun r=>∃ n:Int,r = .tup [.d (.int .i64 n),.d (.bool (hasF l f))]):=by
 refine au _ Tryz.func116 rfl rfl (by kernel_rfl) ?_
 intro O w0 E0 β0
 have ll:(l.map ay).length=l.length:=List.length_map _
 repeat' (first|refine z0 ?_|apply ag|apply ae|refine z16 ?_|apply ah|apply aa|refine z1 ?_|fail)
 refine bh (ι:=Nat × Nat) (fun x=>⟨1,[(0,.d (.slice 2 (l.map ay))),(2,.fn 63 []),(4,.loc 0 0),(8,.d (.int .i64 l.length)),(9,.d (.int .i64 x.1)),(10,.d (.int .i64 x.2))],[(0,.blk 48 [.d (.int .i64 f.pred),.d (.slice 1 (f.args.map bf))])]⟩)
  (fun x=>x.1≤x.2∧x.2≤l.length∧(∀ p (hp:p < l.length),p < x.1→c9 l[p] f < 0)∧(∀ p (hp:p < l.length),x.2≤p→0≤c9 l[p] f)) (fun x=>x.2 - x.1)
  (0,l.length) ⟨Nat.zero_le _,Nat.le_refl _,fun p _ h=>absurd h (Nat.not_lt_zero p),fun p hp h=>by omega⟩ (aj id ⟨rfl,rfl,rfl,by rw [← ll];rfl,rfl,by rw [← ll];rfl,trivial⟩ ⟨rfl,trivial⟩ rfl rfl rfl rfl rfl rfl) ?_
 rintro⟨i,j⟩ ⟨g1,g2,g3,g4⟩
 dsimp only at g1 g2 g3 g4 ⊢
 by_cases hij:i < j
 ·have he:=half_u64 i j (by omega)
  have hm1:i≤(i + j) / 2:=by omega
  have hm2:(i + j) / 2 < j:=by omega
  have hml:(i + j) / 2 < l.length:=by omega
  have hw:=orderF_fn (l[(i + j) / 2]'hml) f
  repeat' ((fail_if_success (apply cv 5));(first|refine z0 ?_|apply ag|refine z5 ?_|refine z14 ?_|refine z10 ?_|apply ae|refine z16 ?_|refine z20 ?_|apply ah|apply ai|apply aq|apply ak|apply aa|apply ap|refine z17 ?_|(refine z23 ?_ ?_ <;> intro hg)|((fail_if_success (apply dt_known;exact rfl));apply c8;exact rfl;exact rfl;exact rfl;all_goals intro hg)))
  all_goals try (exfalso;omega)
  refine bl (k':=1) (L':=[(11,.d (.int .i64 (((i + j) / 2:Nat):Int))),(0,.d (.slice 2 (l.map ay))),(2,.fn 63 []),(4,.loc 0 0),(8,.d (.int .i64 l.length)),(9,.d (.int .i64 i)),(10,.d (.int .i64 j))]) (H':=[(0,.blk 48 [.d (.int .i64 f.pred),.d (.slice 1 (f.args.map bf))])]) ?_ ?_
  ·rw [← he]
   exact aj id ⟨rfl,rfl,rfl,rfl,rfl,rfl,rfl,trivial⟩ ⟨rfl,trivial⟩ rfl rfl rfl rfl rfl rfl
  generalize (i + j) / 2=h at *
  repeat' (first|refine z0 ?_|apply ag|refine z5 ?_|refine z10 ?_|apply ae|refine z16 ?_|refine z20 ?_|apply aa|apply aw|(apply dt_callV;exact rfl;exact rfl;exact rfl;exact rfl;apply hw;exact rfl;(exact rfl);exact rfl;exact rfl;exact⟨_,rfl⟩;rintro _ rfl)|(refine z23 ?_ ?_ <;> intro hg)|fail)
  all_goals try (exfalso;omega)
  all_goals first
   | exact⟨(h + 1,j),⟨by dsimp only;omega,g2,below_step hs hml g3 hg,g4⟩,aj id ⟨rfl,rfl,rfl,rfl,rfl,rfl,trivial⟩ ⟨rfl,trivial⟩ rfl rfl rfl rfl rfl rfl,by show j - (h + 1) < j - i;omega⟩
   | exact⟨(i,h),⟨hm1,by dsimp only;omega,g3,above_step hs hml (Int.not_lt.1 hg)⟩,aj id ⟨rfl,rfl,rfl,rfl,rfl,rfl,trivial⟩ ⟨rfl,trivial⟩ rfl rfl rfl rfl rfl rfl,by show h - i < j - i;omega⟩
 ·have hij':i=j:=by omega
  subst hij'
  have hf:=found_at hs g3 g4
  by_cases hil:i < l.length
  ·rw [dif_pos hil] at hf
   have hw:=orderF_fn l[i] f
   rw [hf]
   repeat' (first|refine z0 ?_|apply ag|refine z5 ?_|refine z14 ?_|refine z10 ?_|apply ae|refine z16 ?_|refine z20 ?_|apply ah|apply ai|apply aq|apply ak|apply aa|apply ap|refine z17 ?_|(apply dt_callV;exact rfl;exact rfl;exact rfl;exact rfl;apply hw;exact rfl;(exact rfl);exact rfl;exact rfl;exact⟨_,rfl⟩;rintro _ rfl)|(refine z23 ?_ ?_ <;> intro hg)|((fail_if_success (apply dt_known;exact rfl));apply c8;exact rfl;exact rfl;exact rfl;all_goals intro hg))
   all_goals try (exfalso;omega)
   all_goals exact⟨.inl rfl,_,rfl,rfl,_,rfl⟩
  ·rw [dif_neg hil] at hf
   rw [hf]
   repeat' (first|refine z0 ?_|apply ag|refine z5 ?_|refine z14 ?_|refine z10 ?_|apply ae|refine z16 ?_|refine z20 ?_|apply ah|apply ai|apply aq|apply ak|apply aa|apply ap|refine z17 ?_|(refine z23 ?_ ?_ <;> intro hg)|((fail_if_success (apply dt_known;exact rfl));apply c8;exact rfl;exact rfl;exact rfl;all_goals intro hg))
   all_goals try (exfalso;omega)
   exact⟨.inl rfl,_,rfl,rfl,_,rfl⟩
set_option maxHeartbeats 8000000 in
theorem in_fn (l:List Fct) (f:Fct) (hl:l.length≤4398046511104) (hs:Strict l):Fn 76 [.d (.slice 2 (l.map ay)),elFct f] (fun r=>r = .d (.bool (hasF l f))):=by
 refine au _ Tryz.func76 rfl rfl (by kernel_rfl) ?_
 intro O w0 E0 β0
 have hb:=bsearch_fn l f hl hs
 repeat' (first|refine z0 ?_|apply ag|apply ae|refine z16 ?_|apply aa|refine z1 ?_|fail)
 refine ds_call rfl rfl hb rfl rfl rfl ?_
 rintro r ⟨n,rfl⟩
 repeat' (first|refine z0 ?_|apply ag|apply ae|refine z16 ?_|apply ak|apply aa)
 exact⟨.inl rfl,_,rfl,rfl,rfl⟩
set_option maxHeartbeats 8000000 in
theorem cloneIR_fn (l:List Int) (hl:l.length≤17592186044416):FnOk false Tryz.prog tab b8 81 [.row 0] 1 1 [(0,.row 3 1 (l.map bf))] (fun _ r H=>r = .d (.slice 1 (l.map bf))∧H=[(0,.row 3 1 (l.map bf))]):=by
 refine cr _ Tryz.func81 rfl rfl (by kernel_rfl) ?_
 intro O w0 E0 β0
 have la:(l.map bf).length=l.length:=List.length_map _
 repeat' (first|refine z0 ?_|apply ag|apply ae|refine z16 ?_|apply aa)
 refine ds_eqnilR rfl rfl rfl rfl rfl rfl (fun h=>?_) ?_
 ·have h0:l=[]:=List.map_eq_nil_iff.1 h
  subst h0
  repeat' (first|refine z0 ?_|apply ag|apply ae|refine z16 ?_|refine z18 ?_|apply aa)
  refine bl (dc 2 1 rfl) ?_
  repeat' (first|apply ak|apply av)
  exact⟨.inl rfl,_,rfl,id,1,_,[(0,.row 3 1 [])],rfl,⟨rfl,trivial⟩,rfl,rfl,rfl,rfl,rfl,rfl,rfl,rfl⟩
 ·repeat' (first|(apply ds_bs0;exact rfl;exact rfl;exact rfl;exact rfl;exact rfl;exact rfl;exact rfl;exact rfl)|(first|refine z0 ?_|apply ag|apply ae|refine z16 ?_|apply ai|refine z19 ?_|apply aa))
  refine ds_append_rowR 0 rfl rfl rfl rfl rfl rfl rfl rfl rfl rfl rfl ?_ ?_ rfl ?_
  ·show (0 + (l.map bf).length) * 8≤_
   omega
  ·show 0 + (l.map bf).length≤_
   unfold maxLen
   omega
  repeat' (first|refine z0 ?_|apply ag|apply aa)
  refine bl (cg 2 rfl rfl rfl) ?_
  repeat' (apply ak)
  exact⟨.inl rfl,_,rfl,id,1,_,[(0,.row 3 1 (l.map bf))],rfl,⟨rfl,trivial⟩,rfl,rfl,rfl,rfl,rfl,rfl,rfl,rfl⟩
theorem putW_app {a b out:List (List Int)} (h:fewW a out=true):putW (a++b) out=putW b (putW a out)∧fewW (a++b) out=fewW b (putW a out)∧(putW a out).length≤2000:=by
 have h:=of_decide_eq_true h
 have hp:putW a out=out++a:=by unfold putW;exact List.take_of_length_le (by rw [List.length_append];omega)
 rw [hp]
 refine⟨by unfold putW;rw [List.append_assoc],?_,by rw [List.length_append];exact h⟩
 unfold fewW
 rw [List.length_append,List.length_append]
 exact decide_eq_decide.2 (by omega)
theorem putW_many {a b out:List (List Int)} (h:fewW a out=false):putW (a++b) out=putW a out∧fewW (a++b) out=false:=by
 have h:=of_decide_eq_false h
 refine⟨?_,decide_eq_false (by rw [List.length_append];omega)⟩
 unfold putW
 rw [← List.append_assoc,List.take_append_of_le_length (by rw [List.length_append];omega)]
theorem matchE_num:∀ {ts:List Trm} {ns:List Int} {e e':RE},numE e→(∀ n∈ns,-1000000≤n∧n≤1000000)→cn e ts ns=some e'→numE e'
 | [],_,e,e',hn,_,h=>by simp only [cn,Option.some.injEq] at h;subst h;exact hn
 | _::_,[],e,e',hn,_,h=>by simp only [cn,Option.some.injEq] at h;subst h;exact hn
 | t::ts,n::ns,e,e',hn,hns,h=>by
  rw [cn] at h
  cases hv:vOf e t with
  | some x =>
   rw [hv] at h
   simp only at h
   split at h
   ·exact matchE_num hn (fun m hm=>hns m (List.mem_cons_of_mem _ hm)) h
   ·cases h
  | none =>
   rw [hv] at h
   simp only at h
   refine matchE_num (fun v x hx=>?_) (fun m hm=>hns m (List.mem_cons_of_mem _ hm)) h
   by_cases hq:t.var.toNat=v
   ·subst hq
    by_cases hl:t.var.toNat < e.length
    ·rw [List.getElem?_set_self hl] at hx
     simp at hx;subst hx
     exact hns n (List.mem_cons_self ..)
    ·rw [List.getElem?_eq_none (by rw [List.length_set];omega)] at hx;cases hx
   ·rw [List.getElem?_set_ne hq] at hx
    exact hn v x hx
def facW (W:RE→List (List Int)) (e:RE) (l:Ltl) (x:Fct):List (List Int):=if x.pred=l.pred then matW W (cn e l.terms x.args) else []
theorem litW_yes' {S:List Fct} {W:RE→List (List Int)} {l:Ltl} {e:RE} (h:l.kind=1):litW S W l e=S.flatMap (facW W e l):=by
 unfold litW
 rw [if_pos h]
 rfl
def FindOk (r:Rul) (S:List Fct) (left:List Ltl):Prop:=∀ (e:RE) (out:List (List Int)),okB S e.length left→numE e→Bd left (b5 e)→out.length≤2000 →
 FnOk false Tryz.prog tab b8 86 [.loc 0 0,.d (.slice 4 (left.map bp))] 3 4 (pfH r S e out)
  (fun k2 res H=>k2=4∧res = .d (.bool (fewW (findE S left.length left e) out))∧H=pfH r S e (putW (findE S left.length left e) out))
set_option maxHeartbeats 8000000 in
theorem find1_fn (r:Rul) (S:List Fct) (left:List Ltl) (hf:FindOk r S left) (e:RE) (out:List (List Int)) (h1:okB S e.length left) (h2:numE e) (h3:Bd left (b5 e)) (h4:out.length≤2000) :
  FnOk false Tryz.prog tab b8 126 [.loc 3 0,.loc 4 0] 5 6 (goH r S left e out) (fun k2 res H=>k2=6∧res = .d (.bool (fewW (findE S left.length left e) out))∧H=goH r S left e (putW (findE S left.length left e) out)):=by
 refine cr _ Tryz.func126 rfl rfl (by kernel_rfl) ?_
 intro O w0 E0 β0
 have w:=hf e out h1 h2 h3 h4
 clear hf
 generalize fewW (findE S left.length left e) out=bb at w ⊢
 generalize putW (findE S left.length left e) out=o2 at w ⊢
 repeat' (first|refine z0 ?_|apply ag|apply ae|refine z16 ?_|apply aa)
 refine bx (fun j=>match j with|3=>5|j=>j) w rfl rfl rfl rfl ⟨rfl,rfl,rfl,rfl,trivial⟩ rfl rfl rfl rfl rfl rfl ?_ ?_
 ·rintro k2 res H2 ⟨rfl,rfl,rfl⟩;exact⟨rfl,rfl⟩
 rintro k2 res H2 ⟨rfl,rfl,rfl⟩
 change DS _ _ _ _ _ _ _ _
 repeat' (first|refine z0 ?_|apply ag|apply ak|apply aa)
 exact⟨.inl rfl,_,rfl,fun j=>match j with|5=>9|j=>j,6,_,goH r S left e o2,rfl,⟨rfl,rfl,rfl,rfl,rfl,rfl,trivial⟩,rfl,rfl,rfl,rfl,rfl,rfl,rfl,rfl,rfl⟩
set_option maxHeartbeats 8000000 in
theorem find_nil (r:Rul) (S:List Fct):FindOk r S []:=by
 intro e out h1 _ _ h4
 refine cr _ Tryz.func86 rfl rfl (by kernel_rfl) ?_
 intro O w0 E0 β0
 have he:=h1.vle
 have w:=cloneIR_fn (bz e) (by rw [outE_len];omega)
 have hfe:findE S 0 [] e=[bz e]:=rfl
 rw [show ([]:List Ltl).length=0 from rfl,hfe]
 repeat' ((fail_if_success (apply dw_stopT 2));(first|refine z0 ?_|apply ag|apply ae|refine z16 ?_|refine z18 ?_|apply aa|refine z1 ?_|fail))
 refine dw_tail 12 (by kernel_rfl) (by kernel_rfl) (by kernel_rfl) rfl rfl rfl ?_
 repeat' refine z5 ?_
 refine dt_callR (fun j=>match j with|0=>1|j=>j) w (by rintro _ rfl;exact⟨rfl,rfl⟩) ⟨_,rfl⟩ rfl rfl rfl rfl ⟨rfl,trivial⟩ rfl rfl rfl rfl rfl rfl rfl rfl rfl ?_
 rintro _ rfl
 have lo:(out.map encW).length=out.length:=List.length_map _
 repeat' (first|refine z0 ?_|apply ag|refine z5 ?_|refine z9 ?_|refine z10 ?_|refine z11 ?_|apply ae|refine z20 ?_|apply ak|apply aa|apply av|refine z3 ?_|fail)
 have hp:putW [bz e] out=out++[bz e]:=by unfold putW;exact List.take_of_length_le (by simp only [List.length_append,List.length_singleton];omega)
 rw [hp]
 have hfew:decide (((((out.map encW++[[D.slice 1 ((bz e).map bf)]]).length:Nat):Int))≤2000)=fewW [bz e] out:=by
  unfold fewW
  simp only [List.length_append,List.length_singleton,lo]
  exact decide_eq_decide.2 (by omega)
 exact⟨.inl rfl,_,rfl,fun j=>match j with|3=>16|j=>j,4,.d (.bool _),pfH r S e (out++[bz e]),rfl,⟨rfl,rfl,rfl,by rw [List.map_append];rfl,trivial⟩,rfl,rfl,rfl,rfl,rfl,rfl,rfl,congrArg (fun b=>SV.d (.bool b)) hfew,rfl⟩
set_option maxHeartbeats 8000000 in
theorem find_step (r:Rul) (S:List Fct) (hS:Strict S) (hS2:S.length≤4398046511104) (left:List Ltl) (hne:left≠[]) (ih:∀ i (_:i < left.length),FindOk r S (left.eraseIdx i)):FindOk r S left:=by
 intro e out h1 h2 h3 h4
 refine cr _ Tryz.func86 rfl rfl (by kernel_rfl) ?_
 intro O w0 E0 β0
 have ll:(left.map bp).length=left.length:=List.length_map _
 have hl4:=h1.len
 have hpos:0 < left.length:=List.length_pos_iff.2 hne
 have hnx:=next_lt hne h1.lit h3
 have hnr:=next_is hnx
 have w1:=next_fn r S out e left h1.lit (by omega) hnx h1.tlen
 have hB':∀ e',leB (b5 e) (b5 e')→((∀ t∈litTs left[nextE e left],isT (b5 e') t=true)∨∀ ds,cd ds left[nextE e left]=false)→Bd (left.eraseIdx (nextE e left)) (b5 e'):=fun e' k1 k2=>Bd_rest hnx h3 k1 k2
 have hok':∀ e':RE,e'.length=e.length→okB S e'.length (left.eraseIdx (nextE e left)):=fun e' k1=>by
  have hsub:∀ l∈left.eraseIdx (nextE e left),l∈left:=fun l hl=>(mem_erase hnx l).2 (.inr hl)
  rw [k1]
  exact⟨fun l hl=>h1.lit l (hsub l hl),fun l hl=>h1.op l (hsub l hl),fun l hl=>h1.nums l (hsub l hl),h1.facts,by rw [List.length_eraseIdx];split <;> omega,h1.vle,fun l hl=>h1.tlen l (hsub l hl)⟩
 have hfe:findE S left.length left e=litW S (findE S (left.length - 1) (left.eraseIdx (nextE e left))) left[nextE e left] e:=by
  obtain⟨l0,ls,rfl⟩:=List.exists_cons_of_ne_nil hne
  rw [List.length_cons,findE,List.getElem?_eq_getElem hnx,Nat.add_sub_cancel]
 have hel:(left.eraseIdx (nextE e left)).length=left.length - 1:=by rw [List.length_eraseIdx,if_pos hnx]
 have ih':=ih _ hnx
 have hlm:=List.getElem_mem hnx
 have hlo:=h1.lit _ hlm
 have hlop:=h1.op _ hlm
 have hlnum:=h1.nums _ hlm
 have hl3:=h1.tlen _ hlm
 rw [hfe,← hel]
 clear ih hfe h3
 have hc:Fn 125 [.d (.slice 1 [[.slice 4 ((left.take (nextE e left)).map bp)],[.slice 4 ((left.drop (nextE e left + 1)).map bp)]])] (fun r=>r = .d (.slice 4 ((left.eraseIdx (nextE e left)).map bp))):=by
  have h:=concatLtl_fn [left.take (nextE e left),left.drop (nextE e left + 1)] (by simp only [List.map_cons,List.map_nil,List.sum_cons,List.sum_nil,List.length_take,List.length_drop];omega) (by simp)
  rw [show [left.take (nextE e left),left.drop (nextE e left + 1)].flatten=left.eraseIdx (nextE e left) by rw [List.eraseIdx_eq_take_drop_succ];simp] at h
  exact h
 repeat' (first|refine z0 ?_|apply ag|refine z5 ?_|apply ae|refine z16 ?_|refine z20 ?_|apply ai|apply aa|refine z1 ?_|(refine z23 ?_ ?_ <;> intro hg)|fail)
 all_goals try (exfalso;omega)
 (refine bx id (w1) rfl rfl rfl rfl ⟨rfl,rfl,rfl,rfl,trivial⟩ rfl rfl rfl rfl rfl rfl ?_ ?_)
 ·rintro k2 res H2 ⟨rfl,rfl⟩;exact⟨rfl,rfl⟩
 rintro k2 res H2 ⟨rfl,rfl⟩
 change DS _ _ _ _ _ _ _ _
 clear w1
 generalize nextE e left=j at *
 repeat' ((fail_if_success (apply dw_stopR 8));(first|refine z0 ?_|apply ag|refine z5 ?_|refine z6 ?_|refine z7 ?_|refine z11 ?_|apply ae|refine z16 ?_|refine z20 ?_|apply aa|refine z22 ?_ (hc:=by apply hc)|refine z1 ?_|refine z3 ?_|fail))
 all_goals try (exfalso;omega)
 refine bl (aj (k':=7) (L':=[(2,.loc 3 0),(6,.loc 6 0),(8,.fn 126 [.loc 3 0,.loc 4 0])]) (H':=(6,litB left[j])::goH r S (left.eraseIdx j) e out) (fun z=>match z with|3=>4|4=>15|5=>3|6=>5|z=>z) ⟨rfl,rfl,rfl,trivial⟩ ⟨rfl,rfl,rfl,rfl,rfl,rfl,rfl,trivial⟩ rfl rfl rfl rfl rfl rfl) ?_
 clear hc ll hlm
 generalize left[j]=l at *
 generalize left.eraseIdx j=rest at *
 have hthen:∀ (ts:List Trm) (ns:List Int) (o:List (List Int)),o.length≤2000→ts.length=ns.length→(∀ t∈ts,okT e.length t)→(∀ n∈ns,-1000000≤n∧n≤1000000)→litTs l=ts→∀ e',cn e ts ns=some e' →
   FnOk false Tryz.prog tab b8 126 [.loc 3 0,.loc 4 0] 5 6 (goH r S rest e' o) (fun k2 res H=>k2=6∧res = .d (.bool (fewW (findE S rest.length rest e') o))∧H=goH r S rest e' (putW (findE S rest.length rest e') o)):=by
  intro ts ns o q1 q2 q3 q4 q5 e' q6
  obtain⟨m1,_,m3⟩:=matchE_some q2 q3 q6
  exact find1_fn r S rest ih' e' o (hok' e' m1) (matchE_num h2 q4 q6) (hB' e' (by rw [m3];exact setTs_le _ _) (.inl (by rw [q5,m3];exact setTs_is (by rw [cp];exact q3)))) q1
 have hthen0:l.kind≠1→l.kind≠4→FnOk false Tryz.prog tab b8 126 [.loc 3 0,.loc 4 0] 5 6 (goH r S rest e out) (fun k2 res H=>k2=6∧res = .d (.bool (fewW (findE S rest.length rest e) out))∧H=goH r S rest e (putW (findE S rest.length rest e) out)):=fun n1 n4 =>
  find1_fn r S rest ih' e out (hok' e rfl) h2 (hB' e (leB.refl _) (.inr fun ds=>by unfold cd;rw [decide_eq_false n1,decide_eq_false n4];rfl)) h4
 have hfacts:=h1.facts
 have hfl:=hlo.facts
 have hT:=hlo.terms
 have hc3:=hlo.calc3
 have ht2:=hlo.test2
 have hkind:=hlo.kind
 have hvle:=h1.vle
 clear ih' hB' hok' hlo h1 hel hnx hpos
 generalize findE S rest.length rest=W at hthen hthen0 ⊢
 by_cases hk1:l.kind=1
 ·rw [litW_yes' hk1]
  have lS:(S.map ay).length=S.length:=List.length_map _
  repeat' (first|refine z0 ?_|apply ag|refine z5 ?_|apply ae|refine z16 ?_|refine z20 ?_|apply ah|apply ai|apply aa|apply aw|(refine z23 ?_ ?_ <;> intro hg)|fail)
  all_goals try (exfalso;omega)
  refine bh (ι:=Nat) (fun i=>⟨7,[(2,.loc 3 0),(6,.loc 6 0),(8,.fn 126 [.loc 3 0,.loc 4 0]),(68,.d (.slice 2 (S.map ay))),(69,.d (.int .i64 S.length)),(70,.d (.int .i64 i))],(6,litB l)::goH r S rest e (putW ((S.take i).flatMap (facW W e l)) out)⟩)
   (fun i=>i≤S.length∧fewW ((S.take i).flatMap (facW W e l)) out=true) (fun i=>S.length - i) 0 ⟨Nat.zero_le _,fewW_nil h4⟩ (aj id ⟨rfl,rfl,rfl,rfl,by rw [← lS];rfl,rfl,trivial⟩ ⟨rfl,rfl,rfl,rfl,rfl,rfl,by rw [show (S.take 0).flatMap (facW W e l)=[] from rfl,putW_nil h4];rfl,trivial⟩ rfl rfl rfl rfl rfl rfl) ?_
  rintro i ⟨g1,g2⟩
  dsimp only at g1 g2 ⊢
  by_cases hi:i < S.length
  ·have hx:=List.getElem_mem hi
   have hst:(S.take (i + 1)).flatMap (facW W e l)=(S.take i).flatMap (facW W e l)++facW W e l S[i]:=by rw [List.take_succ_eq_append_getElem hi,List.flatMap_append];simp
   obtain⟨p1,p2,p3⟩:=putW_app (b:=facW W e l S[i]) g2
   have hwh:S.flatMap (facW W e l)=(S.take (i + 1)).flatMap (facW W e l)++(S.drop (i + 1)).flatMap (facW W e l):=by rw [← List.flatMap_append,List.take_append_drop]
   have hfx:=hfacts _ hx
   have hfa:=hfl hk1 _ hx
   rw [← hst] at p1 p2
   generalize putW ((S.take i).flatMap (facW W e l)) out=o at p1 p2 p3 ⊢
   have w:=match_fnR r S rest o e l.terms S[i].args W
   by_cases hp:S[i].pred=l.pred
   ·have hfw:facW W e l S[i]=matW W (cn e l.terms S[i].args):=by unfold facW;rw [if_pos hp]
    have w:=w (hfa hp).symm (by omega) hT p3 (hthen l.terms S[i].args o p3 (hfa hp).symm hT hfx (by unfold litTs;rw [if_pos hk1]))
    rw [← hfw,← p1,← p2] at w
    repeat' (first|refine z0 ?_|refine z12 ?_|apply ag|apply ae|refine z16 ?_|apply ah|apply ai|apply aq|apply ak|refine z19 ?_|apply aa|apply ap|apply av|apply aw|apply bq|refine z17 ?_|refine z1 ?_|refine z3 ?_|(refine z23 ?_ ?_ <;> intro hg)|((fail_if_success (apply a8;exact rfl));apply a6;exact rfl;exact rfl;exact rfl;all_goals intro hg))
    all_goals try (exfalso;omega)
    (refine bx id (w) rfl rfl rfl rfl ⟨rfl,rfl,rfl,rfl,rfl,rfl,trivial⟩ rfl rfl rfl rfl rfl rfl ?_ ?_)
    ·rintro k2 res H2 ⟨rfl,rfl,rfl⟩;exact⟨rfl,rfl⟩
    rintro k2 res H2 ⟨rfl,rfl,rfl⟩
    change DS _ _ _ _ _ _ _ _
    cases hb:fewW ((S.take (i + 1)).flatMap (facW W e l)) out with
    | true =>
     repeat' (first|refine z0 ?_|apply ag|refine z16 ?_|apply ai|refine z19 ?_|apply aa|apply aw)
     all_goals try (exfalso;omega)
     exact⟨i + 1,⟨hi,hb⟩,aj (fun j=>match j with|5=>13|j=>j) ⟨rfl,rfl,rfl,rfl,rfl,rfl,trivial⟩ ⟨rfl,rfl,rfl,rfl,rfl,rfl,rfl,trivial⟩ rfl rfl rfl rfl rfl rfl,by omega⟩
    | false =>
     obtain⟨q1,q2⟩:=putW_many (b:=(S.drop (i + 1)).flatMap (facW W e l)) hb
     rw [← hwh] at q1 q2
     rw [q1,q2]
     repeat' (first|refine z0 ?_|apply ag|apply ae|refine z16 ?_|apply ak|refine z18 ?_|apply aa|apply av|apply bq)
     all_goals try (exfalso;omega)
     exact⟨.inl rfl,_,rfl,fun j=>match j with|3=>13|j=>j,4,_,pfH r S e _,rfl,⟨rfl,rfl,rfl,rfl,trivial⟩,rfl,rfl,rfl,rfl,rfl,rfl,rfl,rfl,rfl⟩
   ·have hfw:facW W e l S[i]=[]:=by unfold facW;rw [if_neg hp]
    rw [hfw] at p1 p2
    rw [putW_nil p3] at p1
    rw [fewW_nil p3] at p2
    repeat' (first|refine z0 ?_|refine z12 ?_|apply ag|apply ae|refine z16 ?_|apply ah|apply ai|apply aq|apply ak|refine z19 ?_|apply aa|apply ap|apply av|apply aw|apply bq|refine z17 ?_|refine z1 ?_|refine z3 ?_|(refine z23 ?_ ?_ <;> intro hg)|((fail_if_success (apply a8;exact rfl));apply a6;exact rfl;exact rfl;exact rfl;all_goals intro hg))
    all_goals try (exfalso;omega)
    exact⟨i + 1,⟨hi,p2⟩,aj id ⟨rfl,rfl,rfl,rfl,rfl,rfl,trivial⟩ ⟨rfl,rfl,rfl,rfl,rfl,rfl,by rw [p1];rfl,trivial⟩ rfl rfl rfl rfl rfl rfl,by omega⟩
  ·rw [List.take_of_length_le (by omega)] at g2 ⊢
   rw [g2]
   repeat' (first|refine z0 ?_|refine z12 ?_|apply ag|apply ae|refine z16 ?_|apply ah|apply ai|apply aq|apply ak|refine z19 ?_|apply aa|apply ap|apply av|apply aw|apply bq|refine z17 ?_|refine z1 ?_|refine z3 ?_|(refine z23 ?_ ?_ <;> intro hg)|((fail_if_success (apply a8;exact rfl));apply a6;exact rfl;exact rfl;exact rfl;all_goals intro hg))
   all_goals try (exfalso;omega)
   exact⟨.inl rfl,_,rfl,fun j=>match j with|3=>5|j=>j,4,_,pfH r S e _,rfl,⟨rfl,rfl,rfl,rfl,trivial⟩,rfl,rfl,rfl,rfl,rfl,rfl,rfl,rfl,rfl⟩
 ·have hrd:rdyL e l=true:=hnr.resolve_right hk1
  by_cases hk4:l.kind=4
  ·have h3:=hc3 hk4
   have hnum:∀ t∈l.terms,-1000000≤vA (bz e) t∧vA (bz e) t≤1000000:=fun t ht=>vA_num h2 (hlnum t ht)
   have hall:(l.terms.take 2).all (fun t=>(vOf e t).isSome)=true:=by
    unfold rdyL needT at hrd;rw [if_pos hk4] at hrd;exact hrd
   have hlW:litW S W l e=if numB (calcL l (bz e)) then matW W (cn e (l.terms.drop 2) [calcL l (bz e)]) else []:=by
    unfold litW;rw [if_neg hk1,if_pos hk4];rfl
   have w:=values_fn r S out e (l.terms.take 2) (fun t ht=>hT t (List.mem_of_mem_take ht)) (by rw [List.length_take];omega)
   rw [hall,if_pos rfl] at w
   have hthen4:=hthen (l.terms.drop 2) [calcL l (bz e)] out h4 (by rw [List.length_drop,h3];rfl) (fun t ht=>hT t (List.mem_of_mem_drop ht))
   have hlt:litTs l=l.terms.drop 2:=by unfold litTs;rw [if_neg hk1]
   have wm:=fun hn:numB (calcL l (bz e))=true=>match_fnR r S rest out e (l.terms.drop 2) [calcL l (bz e)] W (by rw [List.length_drop,h3];rfl) (by rw [List.length_drop];omega) (fun t ht=>hT t (List.mem_of_mem_drop ht)) h4
    (hthen4 (by intro n hn';rw [List.mem_singleton] at hn';subst hn';exact numB_iff.1 hn) hlt)
   have hcl:calcL l (bz e)=calcE l.op ((l.terms.map (vA (bz e))).getD 0 0) ((l.terms.map (vA (bz e))).getD 1 0):=rfl
   rw [hcl] at hlW wm
   clear hthen4 hthen hthen0 hcl hlt hall hrd hnr
   obtain⟨kind,op,pred,terms⟩:=l
   dsimp only at h3 hk4 hk1 hnum w wm hlW hT
   match terms,h3 with
   | [t1,t2,t3],_ =>
    simp only [List.map_cons,List.map_nil,List.getD_cons_zero,List.getD_cons_succ,List.take_succ_cons,List.take_zero,List.drop_succ_cons,List.drop_zero] at w wm hlW
    have n1:=hnum t1 (by simp)
    have n2:=hnum t2 (by simp)
    clear hnum
    generalize vA (bz e) t1=x at *
    generalize vA (bz e) t2=y at *
    have w4:=calc_fn op x y n1 n2
    have w5:=snumber_fn (calcE op x y)
    repeat' (first|refine z0 ?_|apply ag|refine z5 ?_|apply ae|refine z16 ?_|refine z20 ?_|apply ah|apply ai|apply aa|apply aw|(refine z23 ?_ ?_ <;> intro hg)|fail)
    all_goals try (exfalso;first|omega|exact hk1 hg|exact hg hk4|exact hk4 hg|exact hk3 hg|exact hg hk3)
    refine dt_callR (fun j=>match j with|3=>5|j=>j) w (by rintro _ rfl;exact⟨rfl,rfl⟩) ⟨_,rfl⟩ rfl rfl rfl rfl ⟨rfl,rfl,rfl,rfl,trivial⟩ rfl rfl rfl rfl rfl rfl rfl rfl rfl ?_
    rintro _ rfl
    clear w
    repeat' ((fail_if_success (apply dw_stopT 20));(first|refine z5 ?_|refine z10 ?_|apply ae|refine z20 ?_|apply aa|refine z22 ?_ (hc:=by apply w4)|fail))
    all_goals try (exfalso;first|omega|exact hk1 hg|exact hg hk4|exact hk4 hg|exact hk3 hg|exact hg hk3)
    cases hn:numB (calcE op x y) with
    | false =>
     rw [hn] at hlW w5
     rw [hlW,if_neg (by simp),fewW_nil h4,putW_nil h4]
     repeat' (first|refine z5 ?_|refine z14 ?_|refine z10 ?_|refine z20 ?_|apply ak|apply aa|apply av|apply bq|refine z22 ?_ (hc:=by apply w5)|fail)
     all_goals try (exfalso;first|omega|exact hk1 hg|exact hg hk4|exact hk4 hg|exact hk3 hg|exact hg hk3)
     exact⟨.inl rfl,_,rfl,fun j=>match j with|3=>5|j=>j,4,_,pfH r S e out,rfl,⟨rfl,rfl,rfl,rfl,trivial⟩,rfl,rfl,rfl,rfl,rfl,rfl,rfl,rfl,rfl⟩
    | true =>
     have wm:=wm hn
     rw [hn] at hlW w5
     rw [hlW,if_pos rfl]
     refine dw_tail 11 (by kernel_rfl) (by kernel_rfl) (by kernel_rfl) rfl rfl rfl ?_
     repeat' (first|refine z5 ?_|refine z10 ?_|refine z22 ?_ (hc:=by apply w5)|fail)
     all_goals try (exfalso;first|omega|exact hk1 hg|exact hg hk4|exact hk4 hg|exact hk3 hg|exact hg hk3)
     (refine bx id (wm) rfl rfl rfl rfl ⟨rfl,rfl,rfl,rfl,rfl,rfl,trivial⟩ rfl rfl rfl rfl rfl rfl ?_ ?_)
     ·rintro k2 res H2 ⟨rfl,rfl,rfl⟩;exact⟨rfl,rfl⟩
     rintro k2 res H2 ⟨rfl,rfl,rfl⟩
     change DS _ _ _ _ _ _ _ _
     repeat' (first|refine z0 ?_|apply ag|apply ak|apply aa|apply av|apply bq)
     exact⟨.inl rfl,_,rfl,fun j=>match j with|3=>12|j=>j,4,_,pfH r S e _,rfl,⟨rfl,rfl,rfl,rfl,trivial⟩,rfl,rfl,rfl,rfl,rfl,rfl,rfl,rfl,rfl⟩
  ·have hlW:litW S W l e=if holdE S l (bz e) then W e else []:=by unfold litW;rw [if_neg hk1,if_neg hk4]
   have hth:=hthen0 hk1 hk4
   clear hthen0
   have hall:l.terms.all (fun t=>(vOf e t).isSome)=true:=by
    unfold rdyL needT at hrd;rw [if_neg hk4] at hrd;exact hrd
   have w:=values_fn r S out e l.terms hT (by omega)
   rw [hall,if_pos rfl] at w
   clear hthen hall hrd hnr
   by_cases hk3:l.kind=3
   ·have h2':=ht2 hk3
    obtain⟨kind,op,pred,terms⟩:=l
    dsimp only at h2' hk3 hk4 hk1 w hlW hT
    match terms,h2' with
    | [t1,t2],_ =>
     have hh:holdE S ⟨kind,op,pred,[t1,t2]⟩ (bz e)=testE op (vA (bz e) t1) (vA (bz e) t2):=by subst hk3;rfl
     rw [hh] at hlW
     simp only [List.map_cons,List.map_nil] at w
     generalize vA (bz e) t1=x at *
     generalize vA (bz e) t2=y at *
     have w4:=test_fn op x y
     repeat' (first|refine z0 ?_|apply ag|refine z5 ?_|apply ae|refine z16 ?_|refine z20 ?_|apply ah|apply ai|apply aa|apply aw|(refine z23 ?_ ?_ <;> intro hg)|fail)
     all_goals try (exfalso;first|omega|exact hk1 hg|exact hg hk4|exact hk4 hg|exact hk3 hg|exact hg hk3)
     refine bx (fun j=>match j with|3=>5|j=>j) w rfl rfl rfl rfl ⟨rfl,rfl,rfl,rfl,trivial⟩ rfl rfl rfl rfl rfl rfl ?_ ?_
     ·rintro k2 res H2 ⟨rfl,rfl⟩;exact⟨rfl,rfl⟩
     rintro k2 res H2 ⟨rfl,rfl⟩
     change DS _ _ _ _ _ _ _ _
     cases hb:testE op x y with
     | false =>
      rw [hb] at hlW w4
      rw [hlW,if_neg (by simp),fewW_nil h4,putW_nil h4]
      repeat' (first|refine z0 ?_|refine z12 ?_|apply ag|refine z5 ?_|refine z10 ?_|apply ae|refine z16 ?_|refine z20 ?_|apply ak|apply aa|refine z22 ?_ (hc:=by apply w4)|(refine z23 ?_ ?_ <;> intro hg)|fail)
      all_goals try (exfalso;first|omega|exact hk1 hg|exact hg hk4|exact hk4 hg|exact hk3 hg|exact hg hk3)
      exact⟨.inl rfl,_,rfl,fun j=>match j with|3=>5|j=>j,4,_,pfH r S e out,rfl,⟨rfl,rfl,rfl,rfl,trivial⟩,rfl,rfl,rfl,rfl,rfl,rfl,rfl,rfl,rfl⟩
     | true =>
      rw [hb] at hlW w4
      rw [hlW,if_pos rfl]
      repeat' (first|refine z0 ?_|apply ag|refine z5 ?_|refine z10 ?_|apply ae|refine z16 ?_|refine z20 ?_|apply aa|refine z22 ?_ (hc:=by apply w4)|(refine z23 ?_ ?_ <;> intro hg)|fail)
      all_goals try (exfalso;first|omega|exact hk1 hg|exact hg hk4|exact hk4 hg|exact hk3 hg|exact hg hk3)
      (refine ds_callVF id (hth) rfl rfl rfl rfl rfl rfl ⟨rfl,rfl,rfl,rfl,rfl,rfl,trivial⟩ rfl rfl rfl rfl rfl rfl ?_ ?_)
      ·rintro k2 res H2 ⟨rfl,rfl,rfl⟩;exact⟨rfl,rfl⟩
      rintro k2 res H2 ⟨rfl,rfl,rfl⟩
      change DS _ _ _ _ _ _ _ _
      repeat' (first|refine z0 ?_|apply ag|apply ak|apply aa)
      exact⟨.inl rfl,_,rfl,fun j=>match j with|3=>12|j=>j,4,_,pfH r S e _,rfl,⟨rfl,rfl,rfl,rfl,trivial⟩,rfl,rfl,rfl,rfl,rfl,rfl,rfl,rfl,rfl⟩
   ·have hk2:l.kind=2:=by omega
    have hh:holdE S l (bz e) = !hasF S ⟨l.pred,l.terms.map (vA (bz e))⟩:=by unfold holdE;rw [if_neg hk1,if_pos hk2]
    rw [hh] at hlW
    have w4:=in_fn S ⟨l.pred,l.terms.map (vA (bz e))⟩ hS2 hS
    repeat' (first|refine z0 ?_|apply ag|refine z5 ?_|apply ae|refine z16 ?_|refine z20 ?_|apply ah|apply ai|apply aa|apply aw|(refine z23 ?_ ?_ <;> intro hg)|fail)
    all_goals try (exfalso;first|omega|exact hk1 hg|exact hg hk4|exact hk4 hg|exact hk3 hg|exact hg hk3)
    refine bx (fun j=>match j with|3=>5|j=>j) w rfl rfl rfl rfl ⟨rfl,rfl,rfl,rfl,trivial⟩ rfl rfl rfl rfl rfl rfl ?_ ?_
    ·rintro k2 res H2 ⟨rfl,rfl⟩;exact⟨rfl,rfl⟩
    rintro k2 res H2 ⟨rfl,rfl⟩
    change DS _ _ _ _ _ _ _ _
    cases hb:hasF S ⟨l.pred,l.terms.map (vA (bz e))⟩ with
    | true =>
     rw [hb] at hlW w4
     rw [hlW,if_neg (by simp),fewW_nil h4,putW_nil h4]
     repeat' (first|refine z0 ?_|refine z12 ?_|apply ag|refine z5 ?_|refine z10 ?_|apply ae|refine z16 ?_|refine z20 ?_|apply ak|apply aa|refine z22 ?_ (hc:=by apply w4)|(refine z23 ?_ ?_ <;> intro hg)|fail)
     all_goals try (exfalso;first|omega|exact hk1 hg|exact hg hk4|exact hk4 hg|exact hk3 hg|exact hg hk3)
     exact⟨.inl rfl,_,rfl,fun j=>match j with|3=>5|j=>j,4,_,pfH r S e out,rfl,⟨rfl,rfl,rfl,rfl,trivial⟩,rfl,rfl,rfl,rfl,rfl,rfl,rfl,rfl,rfl⟩
    | false =>
     rw [hb] at hlW w4
     rw [hlW,if_pos (by simp)]
     repeat' (first|refine z0 ?_|apply ag|refine z5 ?_|refine z10 ?_|apply ae|refine z16 ?_|refine z20 ?_|apply aa|refine z22 ?_ (hc:=by apply w4)|(refine z23 ?_ ?_ <;> intro hg)|fail)
     all_goals try (exfalso;first|omega|exact hk1 hg|exact hg hk4|exact hk4 hg|exact hk3 hg|exact hg hk3)
     (refine ds_callVF id (hth) rfl rfl rfl rfl rfl rfl ⟨rfl,rfl,rfl,rfl,rfl,rfl,trivial⟩ rfl rfl rfl rfl rfl rfl ?_ ?_)
     ·rintro k2 res H2 ⟨rfl,rfl,rfl⟩;exact⟨rfl,rfl⟩
     rintro k2 res H2 ⟨rfl,rfl,rfl⟩
     change DS _ _ _ _ _ _ _ _
     repeat' (first|refine z0 ?_|apply ag|apply ak|apply aa)
     exact⟨.inl rfl,_,rfl,fun j=>match j with|3=>12|j=>j,4,_,pfH r S e _,rfl,⟨rfl,rfl,rfl,rfl,trivial⟩,rfl,rfl,rfl,rfl,rfl,rfl,rfl,rfl,rfl⟩
theorem find_fn (r:Rul) (S:List Fct) (hS:Strict S) (hS2:S.length≤4398046511104):∀ (n:Nat) (left:List Ltl),left.length=n→FindOk r S left
 | 0,left,h=>by rw [List.eq_nil_of_length_eq_zero h];exact find_nil r S
 | n + 1,left,h=>find_step r S hS hS2 left (fun h0=>by rw [h0] at h;cases h) fun i hi=>find_fn r S hS hS2 n _ (by rw [List.length_eraseIdx,if_pos hi];omega)
end Go.Proofs.YtapciiffpnociacGreat
namespace Go.Proofs.YtapciiffpnociacGreat
open Go Go.RowKit Go.Sort Go.Shelf
section
variable {β : Type}
def Held.val {X:Nat→Prop} {w:World} {enc:β→List D} (h:Held X w 1 enc):Value:=h.vs.headD undef
theorem Held.vs1 {X:Nat→Prop} {w:World} {enc:β→List D} (h:Held X w 1 enc):h.vs=[h.val]:=by
 have:=h.len
 unfold Held.val
 match hv:h.vs,this with
 | [v],_=>rfl
theorem sort1_heap {α:Type} [Inhabited α] {w:World} {g n:Nat} {os:Array Obj} {cur:Array Value} {e:TypeId} {fr:Nat × Nat} (enc:α→Value) (d:Array α) (hb:w.heap[g]? = some (.cells cur e fr)) :
  (sortWorld enc w g 0 n d os).heap[g]? = some (.cells (putCells enc 0 d cur) e fr):=by
 have hg:g < w.heap.size:=(Array.getElem?_eq_some_iff.1 hb).1
 unfold sortWorld
 rw [heap_grow_old _ _ (by simpa using hg)]
 simp [putRow,mapBlock,Sort.ahead,Array.getElem?_modify,hb,onCells]
theorem sort1_other {α:Type} [Inhabited α] {w:World} {g n:Nat} {os:Array Obj} (enc:α→Value) (d:Array α) {b:Nat} (hb:b < w.heap.size) (hne:b≠g) :
  (sortWorld enc w g 0 n d os).heap[b]? = w.heap[b]?:=by
 unfold sortWorld
 rw [heap_grow_old _ _ (by simpa using hb)]
 have:g≠b:=fun h=>hne h.symm
 simp [putRow,mapBlock,Sort.ahead,Array.getElem?_modify,this]
theorem sort1_size {α:Type} [Inhabited α] {w:World} {g n:Nat} {os:Array Obj} (enc:α→Value) (d:Array α):w.heap.size≤(sortWorld enc w g 0 n d os).heap.size:=by
 unfold sortWorld
 simp
theorem take_putCells1 {α:Type} [Inhabited α] (enc:α→Value) (cur:Array Value) (d:Array α) (h:d.size≤cur.size):(putCells enc 0 d cur).toList.take d.size=d.toList.map enc:=by
 apply List.ext_getElem?
 intro j
 by_cases hj:j < d.size
 ·rw [List.getElem?_take_of_lt hj,Array.getElem?_toList,List.getElem?_map,Array.getElem?_toList,Array.getElem?_eq_getElem hj]
  simp [putCells,hj,show j < cur.size by omega]
 ·rw [List.getElem?_take_eq_none (by omega),List.getElem?_eq_none (by simp;omega)]
variable {P : Program} {τ : List (Nat × TI)} {τok : TabOk P τ} {ρ : Ren}
theorem sort_row1 (L:SlLaysF.n6 P ρ) (enc:β→List D) (hes:∀ x,(enc x).length=1) (cf:β→β→Int) (hO:SWO (ltOf cf)) (g:Nat)
  (hc:∀ a b,FnP true P τ τok g ((enc a++enc b).map .d) (fun r=>r = .d (.int .i64 (cf a b)))) (te:TypeId) (l:List β) (hl:l.length < 4611686018427387904)
  {X:Nat→Prop} {e:Env} {w:World} {i:Nat} (hXo:∀ c,HB.owned e (i,.row te 1 (l.map enc))=some c→X c) (hXl:∀ b,X b→b < w.heap.size) (hrow:HRel X e w (i,.row te 1 (l.map enc))) :
  Calls P (ρ.f 6) #[e.η i,.func (.func g) #[] #[]] w fun en w'=>en = .returned (.tuple #[])∧w.heap.size≤w'.heap.size∧w'.os=w.os∧w'.tape=w.tape∧w'.output=w.output ∧
   (∀ c,c < w.heap.size→HB.owned e (i,.row te 1 (l.map enc))≠some c→w'.heap[c]? = w.heap[c]?)∧∃ l':List β,l'.Perm l∧l'.Pairwise (fun a b=>cf b a ≥ 0)∧HRel X e w' (i,.row te 1 (l'.map enc)):=by
 obtain⟨us,hown,hlen,hone2,hrep⟩:=hrow
 by_cases hne:l=[]
 ·subst hne
  obtain⟨p,cap,hv⟩:∃ p cap,e.η i = .slice p 0 cap:=by
   rcases hown.2 with ⟨hv,_⟩|⟨gb,cap,cur,hv,_⟩
   ·exact⟨_,_,hv⟩
   ·exact⟨_,_,hv⟩
  rw [hv]
  refine (AnyF.slices_SortFunc_none { L with } p cap _ w).mono ?_
  rintro en w' ⟨rfl,rfl⟩
  exact⟨rfl,Nat.le_refl _,rfl,rfl,rfl,fun _ _ _=>rfl,[],.refl _,.nil,us,hown,hlen,hone2,hrep⟩
 ·have hpos:0 < l.length:=List.length_pos_iff.2 hne
  have lm:(l.map enc).length=l.length:=List.length_map _
  obtain⟨hul,hcase⟩:=hown
  rw [lm] at hul hcase
  rcases hcase with ⟨_,h⟩|⟨gb,cap,cur,hv,_,hblk,hnc,hcm,hcs,htk⟩
  ·omega
  have hgb:gb < w.heap.size:=(Array.getElem?_eq_some_iff.1 hblk).1
  have howned:∀ (m:List (List D)),HB.owned e (i,.row te 1 m)=some gb:=fun m=>by simp [HB.owned,hv,Value.ownBlock]
  have hXg:X gb:=hXo gb (howned _)
  obtain⟨d,d1,d2⟩:=held_of (X:=X) (w:=w) (enc:=enc) hes l us hul hone2 (fun i hi j hj=>by
   obtain⟨v,q1,q2⟩:=hrep i (by rw [lm];exact hi) j (by simpa using hj)
   exact⟨v,q1,by simpa using q2⟩)
  have hdl:d.length=l.length:=by rw [← d1,List.length_map]
  haveI:Inhabited (Held X w 1 enc):=⟨d[0]'(by omega)⟩
  have hflat:∀ (q:List (Held X w 1 enc)),(q.map Held.vs).flatten=q.map Held.val:=by
   intro q
   induction q with
   | nil=>rfl
   | cons x q ih=>rw [List.map_cons,List.flatten_cons,ih,x.vs1];rfl
  have hF:d.map Held.val=us:=by rw [← hflat,d2]
  have hHold:Holds (Held.val (X:=X) (w:=w) (enc:=enc)) w gb 0 d.toArray:=by
   intro t ht
   have ht':t < l.length:=by simpa [hdl] using ht
   have hc1:cur[t]? = us[t]?:=by
    rw [← htk,List.getElem?_take,if_pos (by omega),Array.getElem?_toList]
   refine⟨?_,by simp [World.frozen?,hblk]⟩
   simp only [World.cell?,hblk,Nat.zero_add]
   simp only [Option.isSome_none,Bool.false_eq_true,if_false]
   rw [hc1,← hF,List.getElem?_map,getElem!_pos _ t ht]
   have:d[t]? = some d[t]:=List.getElem?_eq_getElem (by omega)
   rw [this]
   simp
  have hcmp:CmpLays1 P g #[] (Held.val (X:=X) (w:=w) (enc:=enc)) (fun x y=>cf x.x y.x) gb 0 d.toArray.size w:=by
   intro m os dk hdk x y
   generalize hW:sortWorld Held.val w gb 0 m dk os=W
   have hWs:w.heap.size≤W.heap.size:=hW▸sort1_size _ _
   have hWb:∀ b,b < w.heap.size→¬ X b→W.heap[b]? = w.heap[b]?:=fun b hb hx=>hW▸sort1_other _ _ hb fun h=>hx (h▸hXg)
   have hXW:∀ b,X b→b < W.heap.size:=fun b hb=>Nat.lt_of_lt_of_le (hXl b hb) hWs
   have hel:∀ z:Held X w 1 enc,RelL X e W ((enc z.x).map .d) [z.val]:=fun z=>by
    have:=relL_d (X:=X) (e:=e) (w:=W) (enc z.x) z.vs (by rw [z.len,hes]) fun j hj=>by
     obtain⟨v,q1,q2⟩:=z.rep j hj
     exact⟨v,q1,RepC.keep hWs hWb (fun _ _ h=>h) q2⟩
    rw [z.vs1] at this
    exact this
   have hk:=(hc x.x y.x).2 X (e.ren id 0) W [x.val,y.val] ⟨fun _=>Iff.rfl,by simp,by simp,by simp [a7],by simp [a7],rfl,rfl,rfl,fun _=>Nat.le_refl _,Nat.le_refl _,fun _ _ _=>rfl,fun b hb=>⟨hXW b hb,by simp [a7]⟩,fun j hj=>absurd hj (Nat.not_lt_zero j),fun j hj=>absurd hj (Nat.not_lt_zero j)⟩ ?_
   ·refine hk.mono ?_
    rintro en w' ⟨k',r,H',e',v,⟨rfl,hlr,rfl⟩,rfl,hH2,hrel⟩
    refine⟨?_,grown_eq hH2.os hH2.tape hH2.output (hH2.drawn rfl) hH2.size fun b hb=>hH2.block b hb (by simp [a7])⟩
    cases hrel
    rfl
   ·have hXX:∀ b,Ctx.X ⟨P,τ,τok,X,W,fun b=>b∈a7 (e.ren id 0) [],0,0,(e.ren id 0).an,none,noPan,true,true⟩ (e.ren id 0) [] b↔X b:=fun b=>by unfold Ctx.X;simp [a7]
    refine RelL.keep (Nat.le_refl _) (fun _ _ _=>rfl) (fun b _ h=>(hXX b).1 h) _ _ (X:=X) (w:=W) ?_
    rw [List.map_append]
    exact RelL.append _ _ _ _ (RelL.env _ _ (lowL_d _) (hel x)) (RelL.env _ _ (lowL_d _) (hel y))
  have hOα:SWO (ltOf fun x y:Held X w 1 enc=>cf x.x y.x):=⟨fun x=>hO.irrefl x.x,fun x y z=>hO.trans x.x y.x z.x,fun x y z=>hO.ntrans x.x y.x z.x⟩
  have eg:∀ args w,(callFunc g args).run P w = .ok (.enter g args) w:=run_call ((if h:l.length=0 then by omega else (hc (l[0]'hpos) (l[0]'hpos)).1))
  have hone:OneCell (Held.val (X:=X) (w:=w) (enc:=enc)):=fun x=>x.one _ (by rw [x.vs1];simp)
  have hs:=Any.slices_SortFunc L (Held.val (X:=X) (w:=w) (enc:=enc)) hone (fun x y=>cf x.x y.x) hOα g #[] gb 0 cap d.toArray w eg hcmp hHold hgb (by simpa [hdl] using hl)
  have hsz:d.toArray.size=l.length:=by simpa using hdl
  rw [hsz] at hs
  rw [hv]
  refine hs.mono ?_
  rintro en w' ⟨rfl,d',m,os,hp,hso,rfl⟩
  have hd's:d'.size=l.length:=hp.1.trans hsz
  have hperm:d'.toList.Perm d:=by
   have:=hp.2.2
   rwa [show d'.extract 0 l.length=d' by rw [← hd's];simp,show d.toArray.extract 0 l.length=d.toArray by rw [← hsz];simp] at this
  refine⟨rfl,sort1_size _ _,rfl,rfl,rfl,fun c hc hne=>sort1_other _ _ hc fun h=>hne (by rw [howned,h]),d'.toList.map Held.x,d1▸hperm.map _,?_,?_⟩
  ·rw [List.pairwise_map,List.pairwise_iff_getElem]
   intro i j hi hj hij
   have h1:=hso i j (Nat.zero_le _) hij (by simpa [hd's] using hj)
   rw [getElem!_pos d' i (by simpa using hi),getElem!_pos d' j (by simpa using hj)] at h1
   have h2:¬ cf d'[j].x d'[i].x < 0:=of_decide_eq_false h1
   simp only [Array.getElem_toList]
   omega
  ·have hl':(d'.toList.map Held.x).length=l.length:=by simp [hd's]
   refine⟨d'.toList.map Held.val,⟨?_,.inr ⟨gb,cap,_,hv▸?_,Nat.zero_le _,sort1_heap _ _ hblk,?_,hcm,by simp [putCells,hcs],?_⟩⟩,?_,?_,?_⟩
   ·simp
   ·simp [hd's]
   ·simp [hd's];exact hnc
   ·have:(d'.toList.map Held.x).length * 1=d'.size:=by simp
    rw [List.length_map,this]
    exact take_putCells1 _ _ _ (by rw [hd's,hcs];omega)
   ·intro j hj;rw [List.getElem_map];exact hes _
   ·intro v hv'
    obtain⟨z,_,rfl⟩:=List.mem_map.1 hv'
    exact hone z
   ·intro i' hi' j hj
    rw [List.length_map,hl'] at hi'
    have hz:i' < d'.size:=by omega
    simp only [List.getElem_map,Array.getElem_toList] at hj ⊢
    have hj0:j=0:=by have:=hes (d'[i'].x);omega
    subst hj0
    obtain⟨v,q1,q2⟩:=d'[i'].rep 0 (by simpa using hj)
    refine⟨v,?_,RepC.keep (sort1_size _ _) (fun b hb hx=>sort1_other _ _ hb fun h=>hx (h▸hXg)) (fun b _ h=>h) q2⟩
    rw [List.getElem?_map,Array.getElem?_toList,Nat.mul_one,Nat.add_zero,Array.getElem?_eq_getElem hz]
    rw [d'[i'].vs1] at q1
    simpa using q1
end
end Go.Proofs.YtapciiffpnociacGreat
