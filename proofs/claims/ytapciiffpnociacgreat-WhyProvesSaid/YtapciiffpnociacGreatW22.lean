/- Several texts in one: RelX RelB RelC RelM RelY RelT RelG RelH RuX RuY RuTa MoA MoB MoC MoD MoE StrG. Condition: none. -/
import Derived.Test.YtapciiffpnociacGreatW10
import Derived.Test.YtapciiffpnociacGreatW11
import Derived.Test.YtapciiffpnociacGreatW09
import Derived.Test.YtapciiffpnociacGreatW08
import Derived.Test.YtapciiffpnociacGreatW17
import Derived.Test.YtapciiffpnociacGreatW21
import Derived.Test.YtapciiffpnociacGreatW18
import Derived.Test.YtapciiffpnociacGreatW20
import Derived.Test.YtapciiffpnociacGreatW19
namespace Go.Proofs.YtapciiffpnociacGreat
open Go Go.RowKit
attribute [local irreducible] DW DS DL DQ Ev FnOk FnP thenD b7 DT
set_option maxHeartbeats 8000000 in
theorem grow_fn (n:Nat) (hn:n≤4398046511104):FnOk false Tryz.prog tab b8 146 [.nils,.d (.int .i64 n)] 0 0 [] (fun _ r H=>r = .row 0∧H=[(0,.row 48 2 [])]):=by
 refine cr _ Tryz.func146 rfl rfl (by kernel_rfl) ?_
 intro O w0 E0 β0
 by_cases h0:n=0
 ·subst h0
  repeat' (first|refine z0 ?_|apply ag|apply ae|refine z16 ?_|apply ai|refine z19 ?_|apply aa)
  all_goals try (exfalso;omega)
  refine ds_ev (ev_cap_nils rfl rfl) rfl rfl ?_
  repeat' (first|refine z0 ?_|apply ag|apply ae|refine z16 ?_|apply ai|refine z19 ?_|apply aa)
  all_goals try (exfalso;omega)
  refine bl (ent_nilrow (t:=4) 48 2 rfl) ?_
  repeat' (apply ak)
  exact⟨.inl rfl,_,rfl,id,1,.row 0,[(0,.row 48 2 [])],rfl,⟨rfl,trivial⟩,rfl,rfl,rfl,rfl,rfl,rfl,rfl,rfl⟩
 ·repeat' (first|refine z0 ?_|apply ag|apply ae|refine z16 ?_|apply ai|refine z19 ?_|apply aa)
  all_goals try (exfalso;omega)
  refine ds_ev (ev_cap_nils rfl rfl) rfl rfl ?_
  repeat' (first|refine z0 ?_|apply ag|apply ae|refine z16 ?_|apply ai|apply ak|apply aa|(refine z23 ?_ ?_ <;> intro hg)|fail)
  all_goals try (exfalso;omega)
  refine ds_ev (ev_cap_nils rfl rfl) rfl rfl ?_
  repeat' refine z0 ?_
  all_goals try (exfalso;omega)
  refine ds_apmk (n:=n) (es:=2) (te:=48) [.int .i64 0,.slice 1 []] rfl rfl (by omega) rfl rfl rfl rfl ⟨.inl rfl,.inr ⟨rfl,1,rfl⟩,trivial⟩ rfl rfl (by omega) (by omega) ?_ (by unfold maxLen;omega) rfl rfl ?_
  ·show n * 32≤_
   omega
  repeat' (first|refine z0 ?_|apply ag|apply ae|refine z16 ?_|apply aa)
  all_goals try (exfalso;omega)
  refine bl (ent_cut (n:=0) 4 rfl rfl (Nat.zero_le _) rfl) ?_
  repeat' (apply ak)
  exact⟨.inl rfl,_,rfl,fun j=>match j with|0=>1|j=>j,1,.row 0,[(0,.row 48 2 [])],rfl,⟨rfl,trivial⟩,rfl,rfl,rfl,rfl,rfl,rfl,rfl,rfl⟩
theorem sum_take {ls:List (List Fct)} {i:Nat} (hi:i < ls.length):((ls.take (i + 1)).map List.length).sum=((ls.take i).map List.length).sum + ls[i].length:=by
 rw [List.take_succ_eq_append_getElem hi,List.map_append,List.sum_append];rfl
theorem sum_le (ls:List (List Fct)) (i:Nat):((ls.take i).map List.length).sum≤(ls.map List.length).sum:=by
 have h:(ls.map List.length).sum=((ls.take i).map List.length).sum + ((ls.drop i).map List.length).sum:=by rw [← List.sum_append,← List.map_append,List.take_append_drop]
 omega
set_option maxHeartbeats 8000000 in
theorem concat_fn (ls:List (List Fct)) (h:(ls.map List.length).sum≤4398046511104) (h2:ls.length≤4398046511104):Fn 107 [.d (.slice 1 (ls.map fun l=>[.slice 2 (l.map ay)]))] (fun r=>r = .d (.slice 2 (ls.flatten.map ay))):=by
 refine au _ Tryz.func107 rfl rfl (by kernel_rfl) ?_
 intro O w0 E0 β0
 have ll:(ls.map fun l=>[D.slice 2 (l.map ay)]).length=ls.length:=List.length_map _
 repeat' (first|refine z0 ?_|apply ag|apply ae|refine z16 ?_|apply ah|apply aa)
 refine bh (ι:=Nat) (fun i=>⟨0,[(0,.d (.slice 1 (ls.map fun l=>[.slice 2 (l.map ay)]))),(3,.d (.int .i64 (((ls.take i).map List.length).sum:Nat))),(9,.d (.slice 1 (ls.map fun l=>[.slice 2 (l.map ay)]))),(10,.d (.int .i64 ls.length)),(11,.d (.int .i64 i))],[]⟩)
  (fun i=>i≤ls.length) (fun i=>ls.length - i) 0 (Nat.zero_le _) (aj id ⟨rfl,rfl,rfl,by rw [← ll];rfl,rfl,trivial⟩ trivial rfl rfl rfl rfl rfl rfl) ?_
 intro i g1
 by_cases hi:i < ls.length
 ·have h3:=sum_take hi
  have h4:=sum_le ls (i + 1)
  have h5:(ls[i].map ay).length=ls[i].length:=List.length_map _
  repeat' (first|refine z0 ?_|apply ag|apply ae|refine z16 ?_|apply ah|apply ai|apply aq|refine z19 ?_|apply aa|apply ap|apply aw|refine z17 ?_|(refine z23 ?_ ?_ <;> intro hg)|fail)
  all_goals try (exfalso;omega)
  exact⟨i + 1,by omega,aj id ⟨rfl,congrArg (fun z=>SV.d (.int .i64 z)) (by rw [h3,h5];omega),rfl,rfl,rfl,trivial⟩ trivial rfl rfl rfl rfl rfl rfl,by omega⟩
 ·rw [List.take_of_length_le (by omega)]
  repeat' (first|refine z0 ?_|apply ag|apply ae|refine z16 ?_|apply ah|apply ai|apply aq|refine z19 ?_|apply aa|apply ap|apply aw|refine z17 ?_|(refine z23 ?_ ?_ <;> intro hg)|fail)
  all_goals try (exfalso;omega)
  refine bx id (grow_fn (ls.map List.length).sum h) rfl rfl rfl rfl trivial rfl rfl rfl rfl rfl rfl ?_ ?_
  ·rintro k2 r H2 ⟨rfl,rfl⟩;exact⟨rfl,rfl⟩
  rintro k2 r H2 ⟨rfl,rfl⟩
  change DS _ _ _ _ _ _ _ _
  repeat' (first|refine z0 ?_|apply ag|apply ae|refine z16 ?_|apply ah|apply aa)
  refine bh (ι:=Nat) (fun i=>⟨1,[(6,.row 0),(25,.d (.slice 1 (ls.map fun l=>[.slice 2 (l.map ay)]))),(26,.d (.int .i64 ls.length)),(27,.d (.int .i64 i))],[(0,.row 48 2 ((ls.take i).flatten.map ay))]⟩)
   (fun i=>i≤ls.length) (fun i=>ls.length - i) 0 (Nat.zero_le _) (aj id ⟨rfl,rfl,by rw [← ll];rfl,rfl,trivial⟩ ⟨rfl,trivial⟩ rfl rfl rfl rfl rfl rfl) ?_
  clear hi g1
  intro i g1
  by_cases hi:i < ls.length
  ·have h3:=sum_take hi
   have h4:=sum_le ls (i + 1)
   have h5:(ls[i].map ay).length=ls[i].length:=List.length_map _
   have h6:((ls.take i).flatten.map ay).length=((ls.take i).map List.length).sum:=by rw [List.length_map,List.length_flatten]
   have h7:(ls.take (i + 1)).flatten=(ls.take i).flatten++ls[i]:=by rw [List.take_succ_eq_append_getElem hi,List.flatten_append];simp
   repeat' (first|refine z0 ?_|apply ag|apply ae|refine z16 ?_|apply ah|apply ai|apply aq|apply ak|apply aa|apply ap|apply aw|refine z17 ?_|refine z2 ?_|(refine z23 ?_ ?_ <;> intro hg)|fail)
   all_goals try (exfalso;omega)
   exact⟨i + 1,by omega,aj (fun _=>1) ⟨rfl,rfl,rfl,rfl,trivial⟩ ⟨by rw [h7,List.map_append];rfl,trivial⟩ rfl rfl rfl rfl rfl rfl,by omega⟩
  ·rw [List.take_of_length_le (by omega)]
   repeat' (first|refine z0 ?_|apply ag|apply ae|refine z16 ?_|apply ah|apply ai|apply aq|apply aa|apply ap|apply aw|refine z17 ?_|refine z2 ?_|(refine z23 ?_ ?_ <;> intro hg)|fail)
   all_goals try (exfalso;omega)
   refine bl (cg 2 rfl rfl rfl) ?_
   repeat' (apply ak)
   exact⟨.inl rfl,_,rfl,rfl,rfl⟩
set_option maxHeartbeats 8000000 in
theorem unionOf_fn (l m:List Fct) (hl:l.length + m.length≤4398046511104):Fn 36 [.d (.slice 2 (l.map ay)),.d (.slice 2 (m.map ay))] (fun r=>r = .d (.slice 2 ((b9 (l++m)).map ay))):=by
 refine au _ Tryz.func36 rfl rfl (by kernel_rfl) ?_
 intro O w0 E0 β0
 have la:(l.map ay).length=l.length:=List.length_map _
 have lb:(m.map ay).length=m.length:=List.length_map _
 have lc:([]++l.map ay).length=l.length:=by simp
 have w:=setOf_fn (l++m) (by rw [List.length_append];exact hl)
 rw [List.map_append] at w
 repeat' (first|(apply ds_bs0;exact rfl;exact rfl;exact rfl;exact rfl;exact rfl;exact rfl;exact rfl;exact rfl)|(first|refine z0 ?_|apply ag|apply ae|refine z16 ?_|apply aa|refine z2 ?_|fail))
 refine ds_ent (cg 9 rfl rfl rfl) ?_
 repeat' (first|refine z0 ?_|apply ag|apply ak|apply aa|refine z21 ?_ (hc:=by apply w)|fail)
 exact⟨.inl rfl,_,rfl,rfl,rfl⟩
def minusL (l m:List Fct):List Fct:=l.filter fun x=>!hasF m x
set_option maxHeartbeats 8000000 in
theorem minusOf_fn (l m:List Fct) (hl:l.length≤4398046511104):Fn 33 [.d (.slice 2 (l.map ay)),.d (.slice 2 (m.map ay))] (fun r=>r = .d (.slice 2 ((b9 (minusL l m)).map ay))):=by
 refine au _ Tryz.func33 rfl rfl (by kernel_rfl) ?_
 intro O w0 E0 β0
 have la:(l.map ay).length=l.length:=List.length_map _
 have hfl:=List.length_filter_le (fun x=>!hasF m x) l
 have w:=setOf_fn (minusL l m) (by unfold minusL;omega)
 repeat' (first|refine z0 ?_|apply ag|apply ae|refine z16 ?_|apply ah|apply aa)
 refine bl (ent_nilrow (t:=5) 48 2 rfl) ?_
 refine bh (ι:=Nat × List Fct) (fun x=>⟨1,[(0,.d (.slice 2 (l.map ay))),(1,.d (.slice 2 (m.map ay))),(5,.row 0),(6,.d (.int .i64 x.1))],[(0,.row 48 2 (x.2.map ay))]⟩)
  (fun x=>x.1≤l.length∧x.2=(l.take x.1).filter fun x=>!hasF m x) (fun x=>l.length - x.1) (0,[]) ⟨Nat.zero_le _,rfl⟩ (aj id ⟨rfl,rfl,rfl,rfl,trivial⟩ ⟨rfl,trivial⟩ rfl rfl rfl rfl rfl rfl) ?_
 rintro⟨i,o⟩ ⟨g1,g2⟩
 dsimp only at g1 g2 ⊢
 have lo:(o.map ay).length=o.length:=List.length_map _
 have hol:o.length≤i:=by
  have:=List.length_filter_le (fun x=>!hasF m x) (l.take i)
  rw [← g2] at this
  simp at this
  omega
 by_cases hi:i < l.length
 ·have wh:=hasFact_fn m l[i]
  have hstep:(l.take (i + 1)).filter (fun x=>!hasF m x)=o++[l[i]].filter (fun x=>!hasF m x):=by rw [List.take_succ_eq_append_getElem hi,List.filter_append,← g2]
  cases hh:hasF m l[i] with
  | true =>
   rw [hh] at wh
   have h1:[l[i]].filter (fun x=>!hasF m x)=[]:=by simp [hh]
   rw [h1,List.append_nil] at hstep
   repeat' (first|refine z0 ?_|apply ag|apply ae|refine z16 ?_|apply ah|apply ai|apply aq|refine z19 ?_|apply aa|apply ap|apply aw|refine z17 ?_|refine z21 ?_ (hc:=by apply wh)|(refine z23 ?_ ?_ <;> intro hg)|fail)
   all_goals try (exfalso;omega)
   exact⟨(i + 1,o),⟨by dsimp only;omega,hstep.symm⟩,aj id ⟨rfl,rfl,rfl,rfl,trivial⟩ ⟨rfl,trivial⟩ rfl rfl rfl rfl rfl rfl,by show l.length - (i + 1) < l.length - i;omega⟩
  | false =>
   rw [hh] at wh
   have h1:[l[i]].filter (fun x=>!hasF m x)=[l[i]]:=by simp [hh]
   rw [h1] at hstep
   repeat' (first|refine z0 ?_|apply ag|apply ae|refine z16 ?_|apply ah|apply ai|apply aq|refine z18 ?_|apply aa|apply ap|apply aw|refine z17 ?_|refine z21 ?_ (hc:=by apply wh)|refine z4 ?_|refine z2 ?_|(refine z23 ?_ ?_ <;> intro hg)|fail)
   all_goals try (exfalso;omega)
   refine⟨(i + 1,o++[l[i]]),⟨by dsimp only;omega,hstep.symm⟩,?_,by show l.length - (i + 1) < l.length - i;omega⟩
   dsimp only
   rw [List.map_append]
   exact aj (fun _=>1) ⟨rfl,rfl,rfl,rfl,trivial⟩ ⟨rfl,trivial⟩ rfl rfl rfl rfl rfl rfl
 ·have ho:o=minusL l m:=by unfold minusL;rw [g2,List.take_of_length_le (by omega)]
  repeat' (first|refine z0 ?_|apply ag|apply ae|refine z16 ?_|apply ah|apply ai|apply aq|apply aa|apply ap|refine z17 ?_|(refine z23 ?_ ?_ <;> intro hg)|fail)
  all_goals try (exfalso;omega)
  refine ds_ent (cg 27 rfl rfl rfl) ?_
  rw [ho]
  repeat' (first|refine z0 ?_|apply ag|apply ak|apply aa|refine z21 ?_ (hc:=by apply w)|fail)
  exact⟨.inl rfl,_,rfl,rfl,rfl⟩


theorem ent_freezeL {Γ:Ctx} {k:Nat} {L:Sl} {H:Hp} (t i:Nat) {ty:TypeId} {ds:List D} (hL:L.get t = .loc i 0) (hH:Hp.get H i=some (.blk ty (ds.map .d))):Ent Γ k L H k ((t,.pd ds)::L) (Hp.del H i):=by
 intro e a w m
 obtain⟨m2,hX⟩:=m.del i
 have hmem:=Hp.mem_of hH
 refine⟨e,m2.toHeap,m2.defers,m2.len,fun t'=>?_⟩
 rw [Sl.get_cons]
 split
 ·rename_i ht
  subst ht
  have hs:=m.slot t
  rw [hL] at hs
  obtain⟨_,hv⟩:=hs
  obtain⟨us,g1,g2,_⟩:=(m.heap _ hmem).2
  have hown:HB.owned e (i,.blk ty (ds.map .d))=some (e.β i):=rfl
  refine⟨e.β i,0,hv,lt_of_heap g1,fun hx=>?_,fun j hj=>?_⟩
  ·rcases hx with hx|hx
   ·exact (m.mine _ (List.mem_filterMap.2 ⟨_,hmem,hown⟩)).2 hx
   ·obtain⟨p,hp,hpg⟩:=List.mem_filterMap.1 hx
    have hd:=Hp.del_mem (i:=i) H m.ids p hp
    exact m.owned_ne hd.1 hmem hd.2 hpg hown
  ·obtain⟨u,g3,g4⟩:=RelL.get _ _ g2 j (.d ds[j]) (by rw [List.getElem?_map,List.getElem?_eq_getElem hj];rfl)
   refine⟨u,?_,RepC.keep (Nat.le_refl _) (fun _ _ _=>rfl) (fun b _ h=>hX b h) g4⟩
   rw [cell_of_row w _ _ _ ty (0,0) g1,Nat.zero_add];simpa using g3
 ·exact m2.slot t'
set_option maxHeartbeats 8000000 in
theorem union_fn (l m:List Fct) (hl:l.length + m.length≤4398046511104) (ha:∀ x∈l,x.args.length≤17592186044416) (hb:∀ x∈m,x.args.length≤17592186044416) :
  Fn 70 [.d (.slice 2 (l.map ay)),.d (.slice 2 (m.map ay))] (fun r=>r = .d (.slice 2 ((b9 (l++m)).map ay))):=by
 refine au _ Tryz.func70 rfl rfl (by kernel_rfl) ?_
 intro O w0 E0 β0
 have hc:Fn 107 [.d (.slice 1 [[.slice 2 (l.map ay)],[.slice 2 (m.map ay)]])] (fun r=>r = .d (.slice 2 ((l++m).map ay))):=by
  have h:=concat_fn [l,m] (by simpa using hl) (by simp)
  rw [show [l,m].flatten=l++m by simp] at h
  exact h
 have hs:=set_fn (l++m) (by rw [List.length_append];exact hl) (fun x hx=>(List.mem_append.1 hx).elim (ha x) (hb x))
 repeat' (first|refine z0 ?_|apply ag|apply ae|refine z16 ?_|apply ak|apply aa|refine z21 ?_ (hc:=by apply hc)|refine z21 ?_ (hc:=by apply hs)|refine z4 ?_|fail)
 exact⟨.inl rfl,_,rfl,rfl,rfl⟩
theorem hasF_set (m:List Fct) (x:Fct):hasF (b9 m) x=hasF m x:=by
 rw [Bool.eq_iff_iff,hasF_iff,hasF_iff,(bw m).2]
theorem set_ext {l m:List Fct} (h:∀ x,x∈l↔x∈m):b9 l=b9 m :=
 strict_ext (bw l).1 (bw m).1 fun x=>by rw [(bw l).2,(bw m).2,h]
theorem set_set (l:List Fct):b9 (b9 l)=b9 l:=set_ext fun x=>(bw l).2 x
section
variable {Γ : Ctx} {k : Nat} {L : Sl} {H : Hp} {t ty : TypeId} {x : Operand}
end

def smallR:Rul:=⟨1,[⟨0,0⟩,⟨2,0⟩],0,[⟨1,0,1,[⟨0,0⟩,⟨1,0⟩]⟩,⟨1,0,0,[⟨1,0⟩,⟨2,0⟩]⟩],3⟩
theorem made_fn (arity:List Int) (r:Rul) (ways:List (List Int)) (hok:HeadOk arity r ways):Fn 56 [elRul r,.d (.slice 1 (ways.map encW))] (fun res=>res = .d (.slice 2 ((b9 (headsD r ways)).map ay))):=by
 by_cases h0:r.fold=0
 ·exact made0_fn arity r ways hok h0
 ·exact madeF_fn arity r ways hok h0
abbrev elW (w:List Int):SV:=.d (.slice 1 (w.map bf))
set_option maxHeartbeats 8000000 in
theorem way1_fn (r:Rul) (f:Fct) (w:List Int) (hw:∀ t∈r.terms,okT w.length t) (hl:r.terms.length≤3) (hf:f.args.length=r.terms.length):Fn 200 ([elW w]++[.pd [.int .i64 r.pred,.slice 2 (r.terms.map bm),.int .i64 r.fold,.slice 4 (r.body.map bp),.int .i64 r.vars],.pd [.int .i64 (kW r)],.pd (ay f)]) (fun res=>res = .d (.bool (isW r f w))):=by
 refine au _ Tryz.func200 rfl rfl (by kernel_rfl) ?_
 intro O w0 E0 β0
 have hk:=kW_le r
 have l1:(r.terms.map bm).length=r.terms.length:=List.length_map _
 have l2:(f.args.map bf).length=f.args.length:=List.length_map _
 have w1:=args_fn (r.terms.take (kW r)) w (fun t ht=>hw t (List.mem_of_mem_take ht)) (by rw [List.length_take];omega)
 have w2:=equalI_fn ((aW r w).take (kW r)) (f.args.take (kW r))
 rw [show (r.terms.take (kW r)).map (vA w)=(aW r w).take (kW r) by unfold aW;rw [List.map_take]] at w1
 repeat' (first|refine z0 ?_|apply ag|refine z5 ?_|refine z10 ?_|apply ae|refine z16 ?_|refine z20 ?_|apply ak|apply aa|refine z22 ?_ (hc:=by apply w1)|refine z22 ?_ (hc:=by apply w2)|fail)
 all_goals try (exfalso;omega)
 exact db rfl rfl
set_option maxHeartbeats 8000000 in
theorem indexW_fn {f:FuncId} {caps:List SV} (p:List Int→Bool) (l:List (List Int)) (hcap:SV.lowL 0 caps=true) (hp:∀ x∈l,Fn f (elW x::caps) (fun r=>r = .d (.bool (p x)))):Fn 179 [.d (.slice 1 (l.map encW)),.fn f caps] (fun r=>r = .d (.int .i64 (idxF p l))):=by
 refine au _ Tryz.func179 rfl rfl (by kernel_rfl) ?_
 intro O w0 E0 β0
 refine da (t:=0) rfl fun hb=>?_
 repeat' (first|refine z0 ?_|apply ag|apply ae|refine z16 ?_|apply ah|apply aa)
 refine bh (ι:=Nat) (fun i=>⟨0,[(0,.d (.slice 1 (l.map encW))),(1,.fn f caps),(7,.d (.int .i64 l.length)),(8,.d (.int .i64 i))],[]⟩)
  (fun i=>i≤l.length∧∀ j (hj:j < l.length),j < i→p l[j]=false) (fun i=>l.length - i) 0 ⟨Nat.zero_le _,fun j _ h=>absurd h (Nat.not_lt_zero j)⟩
  (aj id ⟨rfl,congrArg (SV.fn f) (SV.renL_id caps).symm,by simp;rfl,rfl,trivial⟩ trivial (by simp [Sl.low,SV.low,hcap]) rfl rfl rfl rfl rfl) ?_
 rintro i ⟨h1,h2⟩
 repeat' (first|refine z0 ?_|apply ag|apply ae|refine z16 ?_|apply aa)
 refine cw rfl (fun h=>?_) (fun h=>?_)
 ·have hi:i < l.length:=by omega
  have hpx:=hp l[i] (List.getElem_mem hi)
  repeat' (first|refine z0 ?_|apply ag|apply ae|refine z16 ?_|apply ah|apply ai|apply aa|(apply ds_callV;exact rfl;exact rfl;exact rfl;exact rfl;apply hpx;exact rfl;(assumption);exact rfl;rintro _ rfl))
  refine bu rfl (fun hb=>?_) (fun hb=>?_)
  ·repeat' (first|refine z0 ?_|apply ag|apply ae|refine z16 ?_|apply ak|apply aa|apply av|apply bq)
   exact cb rfl (idxF_hit h2 hi hb).symm
  ·repeat' (first|refine z0 ?_|apply ag|refine z16 ?_|apply ai|apply aa|apply aw)
   exact⟨i + 1,⟨hi,none_step h2 hi hb⟩,aj id ⟨rfl,congrArg (SV.fn f) (SV.renL_id caps).symm,rfl,rfl,trivial⟩ trivial (by simp [Sl.low,SV.low,hcap]) rfl rfl rfl rfl rfl,by omega⟩
 ·repeat' (first|refine z0 ?_|apply ag|apply ae|refine z16 ?_|apply aq|apply ak|apply aa|apply ap|refine z17 ?_|fail)
  exact cb rfl (idxF_none fun j hj=>h2 j hj (by omega)).symm
set_option maxHeartbeats 8000000 in
theorem way_fn (r:Rul) (f:Fct) (ways:List (List Int)) (hw:∀ w∈ways,∀ t∈r.terms,okT w.length t) (hl:r.terms.length≤3) (hf:f.args.length=r.terms.length) (h0:r.fold≠0→0 < r.terms.length) (hex:∃ w∈ways,isW r f w=true) (hwl:∀ w∈ways,w.length≤1000) :
  Fn 175 [elRul r,elFct f,.d (.slice 1 (ways.map encW))] (fun res=>res = .d (.slice 1 ((wayOf r f ways).map bf))):=by
 refine au _ Tryz.func175 rfl rfl (by kernel_rfl) ?_
 intro O w0 E0 β0
 have l1:(r.terms.map bm).length=r.terms.length:=List.length_map _
 have lw:(ways.map encW).length=ways.length:=List.length_map _
 obtain⟨wm,wi⟩:=wayOf_mem hex
 have hlt:ways.findIdx (isW r f) < ways.length:=by
  obtain⟨w,hw,h⟩:=hex
  exact List.findIdx_lt_length_of_exists ⟨w,hw,h⟩
 have hidx:idxF (isW r f) ways=(ways.findIdx (isW r f):Int):=by
  unfold idxF
  rw [List.findIdx?_eq_some_iff_findIdx_eq.2 ⟨hlt,rfl⟩]
 have hget:ways[ways.findIdx (isW r f)]=wayOf r f ways:=by unfold wayOf;rw [List.getD_eq_getElem?_getD,List.getElem?_eq_getElem hlt];rfl
 have w3:=indexW_fn (isW r f) ways rfl (fun w hw'=>way1_fn r f w (hw w hw') hl hf)
 rw [hidx] at w3
 have w4:=cloneI_fn (wayOf r f ways) (by have:=hwl _ wm;omega)
 rw [← hget] at w4
 repeat' ((fail_if_success (apply cv 4));(first|refine z0 ?_|apply ag|apply ae|refine z16 ?_|apply ai|apply aa|refine z1 ?_|refine z3 ?_|(refine z23 ?_ ?_ <;> intro hg)|fail))
 ·have hk:((kW r:Nat):Int)=((r.terms.map bm).length:Int) - 1:=by
   unfold kW
   rw [if_neg (by assumption),l1]
   have:=h0 (by assumption)
   omega
  refine bl (ent_freezeL (ds:=[.int .i64 r.pred,.slice 2 (r.terms.map bm),.int .i64 r.fold,.slice 4 (r.body.map bp),.int .i64 r.vars]) 3 0 rfl rfl) ?_
  refine bl (ent_freezeL (ds:=[.int .i64 (kW r)]) 7 2 rfl (by rw [hk];rfl)) ?_
  refine bl (ent_freezeL (ds:=ay f) 4 1 rfl rfl) ?_
  repeat' (first|refine z0 ?_|apply ag|apply ae|refine z16 ?_|apply ak|apply aa|refine z21 ?_ (hc:=by apply w3)|refine z21 ?_ (hc:=by apply w4)|fail)
  all_goals try (exfalso;omega)
  rw [← hget]
  exact⟨.inl rfl,_,rfl,rfl,rfl⟩
 ·have hk:((kW r:Nat):Int)=((r.terms.map bm).length:Int):=by
   unfold kW
   rw [if_pos (by simp_all),l1]
  refine bl (ent_freezeL (ds:=[.int .i64 r.pred,.slice 2 (r.terms.map bm),.int .i64 r.fold,.slice 4 (r.body.map bp),.int .i64 r.vars]) 3 0 rfl rfl) ?_
  refine bl (ent_freezeL (ds:=[.int .i64 (kW r)]) 7 2 rfl (by rw [hk];rfl)) ?_
  refine bl (ent_freezeL (ds:=ay f) 4 1 rfl rfl) ?_
  repeat' (first|refine z0 ?_|apply ag|apply ae|refine z16 ?_|apply ak|apply aa|refine z21 ?_ (hc:=by apply w3)|refine z21 ?_ (hc:=by apply w4)|fail)
  all_goals try (exfalso;omega)
  rw [← hget]
  exact⟨.inl rfl,_,rfl,rfl,rfl⟩
def bt (s:Stp):List D:=[.int .i64 s.fact.pred,.slice 1 (s.fact.args.map bf),.int .i64 s.rule,.slice 1 (s.vars.map bf)]
abbrev bldH (p:Prg) (S:List Fct) (hw:List Stp):Hp :=
 [(0,.blk 152 [.d (.slice 1 (p.arity.map bf)),.d (.slice 1 (p.names.map encT)),.d (.slice 5 (p.rules.map co)),.d (.slice 2 (S.map ay)),.row 1]),(1,.row 166 4 (hw.map bt))]
set_option maxHeartbeats 8000000 in
theorem mtake_fn (p:Prg) (n:Nat) (hn:n < p.rules.length) (ways:List (List Int)) (heads S:List Fct) (hw:List Stp) (hr:RulR p.arity p.rules[n]) (hl:p.rules[n].terms.length≤3)
  (hwok:∀ w∈ways,(∀ t∈p.rules[n].terms,okT w.length t)∧w.length≤1000) (hh:∀ f∈heads,f.args.length=p.rules[n].terms.length∧∃ w∈ways,isW p.rules[n] f w=true)
  (hS:Strict S) (hSl:S.length≤60) (hhl:heads.length≤2000) (hwl:hw.length≤100000) (hSa:∀ x∈S,x.args.length≤3) :
  FnOk false Tryz.prog tab b8 138 [.loc 0 0,.d (.int .i64 n),.d (.slice 2 (heads.map ay)),.d (.slice 1 (ways.map encW))] 1 2 (bldH p S hw)
   (fun k2 r H2=>k2=2∧r = .d (.bool (takeG p.rules[n] n ways heads S hw).1)∧H2=bldH p (takeG p.rules[n] n ways heads S hw).2.1 (takeG p.rules[n] n ways heads S hw).2.2):=by
 refine cr _ Tryz.func138 rfl rfl (by kernel_rfl) ?_
 intro O w0 E0 β0
 have lr:(p.rules.map co).length=p.rules.length:=List.length_map _
 have lh:(heads.map ay).length=heads.length:=List.length_map _
 repeat' (first|refine z0 ?_|apply ag|apply ae|refine z16 ?_|apply ah|apply aa|refine z1 ?_|refine z3 ?_|fail)
 all_goals try (exfalso;omega)
 refine bh (ι:=Nat × List Fct × List Stp) (fun c=>⟨3,[(0,.loc 0 0),(1,.d (.int .i64 n)),(3,.d (.slice 1 (ways.map encW))),(8,.d (.bool false)),(9,.loc 2 0),(20,.d (.slice 2 (heads.map ay))),(21,.d (.int .i64 heads.length)),(22,.d (.int .i64 c.1))],
   (2,.blk 36 [.d (.int .i64 p.rules[n].pred),.d (.slice 2 (p.rules[n].terms.map bm)),.d (.int .i64 p.rules[n].fold),.d (.slice 4 (p.rules[n].body.map bp)),.d (.int .i64 p.rules[n].vars)])::bldH p c.2.1 c.2.2⟩)
  (fun c=>c.1≤heads.length∧takeG p.rules[n] n ways heads S hw=takeG p.rules[n] n ways (heads.drop c.1) c.2.1 c.2.2∧Strict c.2.1∧c.2.1.length≤60∧c.2.2.length≤100000 + c.1∧∀ x∈c.2.1,x.args.length≤3) (fun c=>heads.length - c.1) (0,S,hw) ⟨Nat.zero_le _,rfl,hS,hSl,hwl,hSa⟩
  (aj id ⟨rfl,rfl,rfl,rfl,rfl,rfl,by rw [← lh];rfl,rfl,trivial⟩ ⟨rfl,rfl,rfl,trivial⟩ rfl rfl rfl rfl rfl rfl) ?_
 rintro⟨i,S',hw'⟩ ⟨g1,g2,g3,g4,g5,g6⟩
 dsimp only at g1 g2 g3 g4 g5 g6 ⊢
 by_cases hi:i < heads.length
 ·have hm:=List.getElem_mem hi
  obtain⟨q1,q2⟩:=hh _ hm
  have w1:=in_fn S' heads[i] (by omega) g3
  have w2:=union_fn S' [heads[i]] (by rw [List.length_singleton];omega) (fun x hx=>by have:=g6 x hx;omega) (fun x hx=>by rw [List.mem_singleton] at hx;subst hx;omega)
  have w3:=way_fn p.rules[n] heads[i] ways (fun w hw=>(hwok w hw).1) hl q1 (fun hf=>(hr.folded hf).1) q2 (fun w hw=>(hwok w hw).2)
  have lS:(S'.map ay).length=S'.length:=List.length_map _
  have lhw:(hw'.map bt).length=hw'.length:=List.length_map _
  rw [List.drop_eq_getElem_cons hi,takeG] at g2
  repeat' (first|refine z0 ?_|apply ag|refine z5 ?_|refine z6 ?_|refine z9 ?_|refine z10 ?_|refine z11 ?_|apply ae|refine z16 ?_|refine z20 ?_|apply ah|apply ai|apply aq|apply ak|apply aa|apply ap|apply av|apply aw|apply bq|refine z17 ?_|refine z22 ?_ (hc:=by apply w1)|refine z22 ?_ (hc:=by apply w2)|refine z22 ?_ (hc:=by apply w3)|refine z1 ?_|refine z3 ?_|(refine z23 ?_ ?_ <;> intro hg)|(apply bu;exact rfl;all_goals intro hg))
  all_goals try (exfalso;omega)
  ·rw [if_pos (by assumption)] at g2
   exact⟨(i + 1,S',hw'),⟨hi,g2,g3,g4,by dsimp only;omega,g6⟩,aj id ⟨rfl,rfl,rfl,rfl,rfl,rfl,rfl,rfl,trivial⟩ ⟨rfl,rfl,rfl,trivial⟩ rfl rfl rfl rfl rfl rfl,by dsimp only;omega⟩
  ·rw [if_neg (by simp_all),if_pos (by omega)] at g2
   exact⟨.inl rfl,_,rfl,id,2,_,bldH p S' hw',rfl,⟨rfl,rfl,trivial⟩,rfl,rfl,rfl,rfl,rfl,rfl,rfl,by rw [g2],by rw [g2]⟩
  ·rw [if_neg (by simp_all),if_neg (by omega)] at g2
   obtain⟨s1,s2⟩:=bw (S'++[heads[i]])
   have hle:=setF_lenle (S'++[heads[i]])
   rw [List.length_append,List.length_singleton] at hle
   refine⟨(i + 1,b9 (S'++[heads[i]]),hw'++[⟨heads[i],n,wayOf p.rules[n] heads[i] ways⟩]),⟨hi,g2,s1,by dsimp only;omega,by dsimp only;rw [List.length_append,List.length_singleton];omega,fun x hx=>?_⟩,
    aj (fun j=>match j with|1=>17|j=>j) ⟨rfl,rfl,rfl,rfl,rfl,rfl,rfl,rfl,trivial⟩ ⟨rfl,rfl,by dsimp only;rw [List.map_append];rfl,trivial⟩ rfl rfl rfl rfl rfl rfl,by dsimp only;omega⟩
   rcases List.mem_append.1 ((s2 x).1 hx) with hx|hx
   ·exact g6 x hx
   ·rw [List.mem_singleton] at hx;subst hx;omega
 ·rw [List.drop_of_length_le (by omega)] at g2
  repeat' (first|refine z0 ?_|apply ag|refine z5 ?_|apply ae|refine z16 ?_|refine z20 ?_|apply ah|apply ai|apply aq|apply ak|apply aa|apply ap|refine z17 ?_|refine z1 ?_|refine z3 ?_|(refine z23 ?_ ?_ <;> intro hg)|fail)
  all_goals try (exfalso;omega)
  exact⟨.inl rfl,_,rfl,id,2,_,bldH p S' hw',rfl,⟨rfl,rfl,trivial⟩,rfl,rfl,rfl,rfl,rfl,rfl,rfl,by rw [g2,takeG],by rw [g2,takeG]⟩
theorem hw_len {given S:List Fct} {hw:List Stp} (h:HwOk given S hw):hw.length≤S.length:=by
 have:=nodup_len h.nodup (b:=S) fun x hx=>by
  obtain⟨g,hg,rfl⟩:=List.mem_map.1 hx
  exact (h.all _).2 (.inr ⟨g,hg,rfl⟩)
 rw [List.length_map] at this
 exact this
theorem fct_len {p:Prg} (hp:PrgR p) {x:Fct} (h:FctOk p.arity x):x.args.length≤3:=by
 have:=h.len
 have:=(hp.ar x.pred.toNat).2
 omega
def RndOk (p:Prg) (lv:List Int) (n:Nat) (S1 S:List Fct) (i:Nat):Prop :=
 ∀ j (hj:j < p.rules.length),j < i→lv.getD (p.rules[j]).pred.toNat 0=n→∃ S0,Strict S0∧(∀ x∈S1,x∈S0)∧(∀ x∈S0,x∈S)∧manyW S0 p.rules[j]=true∧∀ x∈hdW S0 p.rules[j],x∈S
theorem RndOk.more {p:Prg} {lv:List Int} {n:Nat} {S1 S S':List Fct} {i:Nat} (h:RndOk p lv n S1 S i) (hs:∀ x∈S,x∈S') (hi:i < p.rules.length)
  (hn:lv.getD (p.rules[i]).pred.toNat 0=n→∃ S0,Strict S0∧(∀ x∈S1,x∈S0)∧(∀ x∈S0,x∈S')∧manyW S0 p.rules[i]=true∧∀ x∈hdW S0 p.rules[i],x∈S'):RndOk p lv n S1 S' (i + 1):=by
 intro j hj hji hl
 by_cases he:j=i
 ·subst he;exact hn hl
 ·obtain⟨S0,a,b,c,d,e⟩:=h j hj (by omega) hl
  exact⟨S0,a,b,fun x hx=>hs x (c x hx),d,fun x hx=>hs x (e x hx)⟩
theorem round_fit {p:Prg} {lv:List Int} {n:Nat} {given m0 S1 S:List Fct} {hw:List Stp} (hb:BldOk p lv n given m0 S hw) (h1:Strict S1) (hs:∀ x∈S1,x∈S) (hr:RndOk p lv n S1 S p.rules.length) (hl:S.length≤S1.length):Fit (lvV p lv n m0) m0 S:=by
 have he:=same_len h1 hb.inv.strict hs hl
 subst he
 have key:∀ r∈(lvV p lv n m0).rs,manyW S1 r=true∧∀ x∈hdW S1 r,x∈S1:=by
  intro r hr'
  obtain⟨hm,hn⟩:=List.mem_filter.1 hr'
  have hn:=of_decide_eq_true hn
  obtain⟨j,hj,rfl⟩:=List.mem_iff_getElem.1 hm
  obtain⟨S0,a,b,c,d,e⟩:=hr j hj hj hn
  have:S0=S1:=strict_ext a h1 fun x=>⟨c x,b x⟩
  subst this
  exact⟨d,e⟩
 exact fit_done hb.inv (fun r hr=>(key r hr).1) fun r hr=>(key r hr).2
set_option maxHeartbeats 8000000 in
theorem level_fn (p:Prg) (lv:List Int) (n:Nat) (given m0:List Fct) (hw:List Stp) (hp:PrgR p) (hlv:LvFit p lv) (hb:BldOk p lv n given m0 m0 hw) :
  FnOk false Tryz.prog tab b8 98 [.loc 0 0,.d (.slice 1 (lv.map bf)),.d (.int .i64 n)] 1 2 (bldH p m0 hw)
   (fun k2 r H2=>k2=2∧∃ S' hw',H2=bldH p S' hw'∧((r = .d (.bool true)∧Fit (lvV p lv n m0) m0 S'∧BldOk p lv n given m0 S' hw')∨(r = .d (.bool false)∧¬ ∃ M,Fit (lvV p lv n m0) m0 M))):=by
 refine cr _ Tryz.func98 rfl rfl (by kernel_rfl) ?_
 intro O w0 E0 β0
 have lr:(p.rules.map co).length=p.rules.length:=List.length_map _
 have llv:(lv.map bf).length=lv.length:=List.length_map _
 have hrl:=hp.rlen
 repeat' (first|refine z0 ?_|apply ag|apply ae|refine z16 ?_|apply ah|apply aa)
 refine bh (ι:=Int × List Fct × List Stp) (fun c=>⟨2,[(0,.loc 0 0),(1,.d (.slice 1 (lv.map bf))),(2,.d (.int .i64 n)),(6,.d (.bool false)),(7,.d (.int .i64 c.1))],bldH p c.2.1 c.2.2⟩)
  (fun c=>BldOk p lv n given m0 c.2.1 c.2.2∧(c.1 = -1∨∃ S1,c.1=(S1.length:Int)∧Strict S1∧(∀ x∈S1,x∈c.2.1)∧RndOk p lv n S1 c.2.1 p.rules.length)) (fun c=>2 * (61 - c.2.1.length) + if c.1 < c.2.1.length then 1 else 0) (-1,m0,hw) ⟨hb,.inl rfl⟩
  (aj id ⟨rfl,rfl,rfl,rfl,rfl,trivial⟩ ⟨rfl,rfl,trivial⟩ rfl rfl rfl rfl rfl rfl) ?_
 rintro⟨many,S,hw1⟩ ⟨g1,g2⟩
 dsimp only at g1 g2 ⊢
 have lS:(S.map ay).length=S.length:=List.length_map _
 have hS60:=g1.inv.len
 repeat' (first|refine z0 ?_|apply ag|apply ae|refine z16 ?_|apply ah|apply ai|apply aq|apply ak|apply aa|apply ap|refine z17 ?_|(refine z23 ?_ ?_ <;> intro hg)|fail)
 ·refine bh (ι:=Nat × List Fct × List Stp) (fun c=>⟨2,[(0,.loc 0 0),(1,.d (.slice 1 (lv.map bf))),(2,.d (.int .i64 n)),(6,.d (.bool false)),(7,.d (.int .i64 S.length)),(28,.d (.slice 5 (p.rules.map co))),(29,.d (.int .i64 p.rules.length)),(30,.d (.int .i64 c.1))],bldH p c.2.1 c.2.2⟩)
   (fun c=>c.1≤p.rules.length∧BldOk p lv n given m0 c.2.1 c.2.2∧(∀ x∈S,x∈c.2.1)∧RndOk p lv n S c.2.1 c.1) (fun c=>p.rules.length - c.1) (0,S,hw1) ⟨Nat.zero_le _,g1,fun _ h=>h,fun j _ h=>absurd h (Nat.not_lt_zero j)⟩
   (aj id ⟨rfl,rfl,rfl,rfl,by rw [← lS];rfl,rfl,by rw [← lr];rfl,rfl,trivial⟩ ⟨rfl,rfl,trivial⟩ rfl rfl rfl rfl rfl rfl) ?_
  rintro⟨i,S2,hw2⟩ ⟨q1,q2,q3,q4⟩
  dsimp only at q1 q2 q3 q4 ⊢
  by_cases hi:i < p.rules.length
  ·have hr:=hp.rul _ (List.getElem_mem hi)
   have hpr:=hr.pred
   have hlvl:=hlv.len
   have hgd:lv.getD (p.rules[i]).pred.toNat 0=lv[(p.rules[i]).pred.toNat]'(by omega):=by rw [List.getD,List.getElem?_eq_getElem (by omega)];rfl
   have hS2:=q2.inv.len
   have hok:=raw_ok hr hp.ar q2.inv.a.1 q2.inv.strict.nodup
   have w1:=raw_fn S2 p.rules[i] q2.inv.strict (by omega) (rulS_mk hr hp.ar q2.inv.a.1)
   have w2:=made_fn p.arity p.rules[i] (rawW S2 p.rules[i]) hok
   by_cases hlev:lv.getD (p.rules[i]).pred.toNat 0=n
   ·have hrs:p.rules[i]∈(lvV p lv n m0).rs:=List.mem_filter.2 ⟨List.getElem_mem hi,decide_eq_true hlev⟩
    cases hmm:manyW S2 p.rules[i] with
    | false =>
     rw [hmm] at w1
     clear w2
     rw [hgd] at hlev
     repeat' (first|refine z0 ?_|refine z12 ?_|apply ag|refine z5 ?_|refine z10 ?_|apply ae|refine z16 ?_|refine z20 ?_|apply ah|apply ai|apply aq|apply ak|refine z18 ?_|apply aa|apply ap|apply av|apply aw|apply bq|refine z17 ?_|refine z22 ?_ (hc:=by apply w1)|refine z1 ?_|refine z3 ?_|(refine z23 ?_ ?_ <;> intro hg)|fail)
     all_goals try (exfalso;omega)
     exact⟨.inl rfl,_,rfl,id,2,_,bldH p S2 hw2,rfl,⟨rfl,rfl,trivial⟩,rfl,rfl,rfl,rfl,rfl,rfl,rfl,S2,hw2,rfl,.inr ⟨rfl,no_many (lvV_ok hp hlv n m0) q2.inv hrs hmm⟩⟩
    | true =>
     rw [hmm] at w1
     rw [hgd] at hlev
     repeat' (first|refine z0 ?_|apply ag|refine z5 ?_|refine z10 ?_|apply ae|refine z16 ?_|refine z20 ?_|apply ah|apply ai|apply aq|apply aa|apply ap|apply aw|refine z17 ?_|refine z22 ?_ (hc:=by apply w1)|refine z21 ?_ (hc:=by apply w2)|refine z1 ?_|refine z3 ?_|(refine z23 ?_ ?_ <;> intro hg)|fail)
     all_goals try (exfalso;omega)
     clear w1 w2
     have hhd:∀ f∈hdW S2 p.rules[i],f.args.length=p.rules[i].terms.length∧∃ w∈rawW S2 p.rules[i],isW p.rules[i] f w=true:=fun f hf=>head_way (((bw _).2 f).1 hf) fun hf=>(hr.folded hf).1
     have hhl:(hdW S2 p.rules[i]).length≤2000:=by
      refine Nat.le_trans (setF_lenle _) ?_
      rw [headsD_eq]
      exact Nat.le_trans (List.length_filterMap_le _ _) hok.many
     have wt:=mtake_fn p i hi (rawW S2 p.rules[i]) (hdW S2 p.rules[i]) S2 hw2 hr hok.tlen (fun w hw=>⟨hok.terms hw,by rw [hok.len w hw];have:=hr.vars;omega⟩) hhd q2.inv.strict hS2 hhl (by have:=hw_len q2.hwk;omega) (fun x hx=>fct_len hp (q2.inv.a.1 x hx))
     obtain⟨t1,t2⟩:=take_spec hp hlv hi (hgd.trans hlev) q2 hmm (hdW S2 p.rules[i]) S2 hw2 (fun _ h=>h) q2 (fun _ h=>h) (fun _ h=>h) (Nat.le_refl _)
     generalize takeG p.rules[i] i (rawW S2 p.rules[i]) (hdW S2 p.rules[i]) S2 hw2=res at wt t1 t2
     obtain⟨ok,S3,hw3⟩:=res
     dsimp only at wt t1 t2
     (refine bx id (wt) rfl rfl rfl rfl ⟨rfl,rfl,trivial⟩ rfl rfl rfl rfl rfl rfl ?_ ?_)
     ·rintro k2 r H2 ⟨rfl,rfl,rfl⟩
      exact⟨rfl,rfl⟩
     rintro k2 r H2 ⟨rfl,rfl,rfl⟩
     change DS _ _ _ _ _ _ _ _
     cases ok with
     | false =>
      repeat' (first|refine z0 ?_|apply ag|apply ae|refine z16 ?_|apply ak|refine z18 ?_|apply aa|apply av|apply bq)
      all_goals try (exfalso;omega)
      exact⟨.inl rfl,_,rfl,fun j=>match j with|1=>4|j=>j,2,_,bldH p S3 hw3,rfl,⟨rfl,rfl,trivial⟩,rfl,rfl,rfl,rfl,rfl,rfl,rfl,S3,hw3,rfl,.inr ⟨rfl,t2 rfl⟩⟩
     | true =>
      obtain⟨a1,a2,a3,a4⟩:=t1 rfl
      repeat' (first|refine z0 ?_|apply ag|refine z16 ?_|apply ai|refine z19 ?_|apply aa|apply aw)
      all_goals try (exfalso;omega)
      exact⟨(i + 1,S3,hw3),⟨hi,a1,fun x hx=>a2 x (q3 x hx),q4.more a2 hi fun _=>⟨S2,q2.inv.strict,q3,a2,hmm,a3⟩⟩,aj (fun j=>match j with|1=>4|j=>j) ⟨rfl,rfl,rfl,rfl,rfl,rfl,rfl,rfl,trivial⟩ ⟨rfl,rfl,trivial⟩ rfl rfl rfl rfl rfl rfl,by dsimp only;omega⟩
   ·rw [hgd] at hlev
    clear w1 w2
    repeat' (first|refine z0 ?_|apply ag|refine z5 ?_|apply ae|refine z16 ?_|refine z20 ?_|apply ah|apply ai|apply aq|apply aa|apply ap|apply aw|refine z17 ?_|refine z1 ?_|refine z3 ?_|(refine z23 ?_ ?_ <;> intro hg)|fail)
    all_goals try (exfalso;omega)
    exact⟨(i + 1,S2,hw2),⟨hi,q2,q3,q4.more (fun _ h=>h) hi fun h=>absurd (hgd.symm.trans h) hlev⟩,aj id ⟨rfl,rfl,rfl,rfl,rfl,rfl,rfl,rfl,trivial⟩ ⟨rfl,rfl,trivial⟩ rfl rfl rfl rfl rfl rfl,by dsimp only;omega⟩
  ·have hil:i=p.rules.length:=by omega
   subst hil
   repeat' (first|refine z0 ?_|apply ag|refine z5 ?_|apply ae|refine z16 ?_|refine z20 ?_|apply ah|apply ai|apply aq|apply aa|apply ap|apply aw|refine z17 ?_|refine z1 ?_|refine z3 ?_|(refine z23 ?_ ?_ <;> intro hg)|fail)
   all_goals try (exfalso;omega)
   have hlen:S.length≤S2.length:=nodup_len g1.inv.strict.nodup q3
   have hS2:=q2.inv.len
   refine⟨((S.length:Int),S2,hw2),⟨q2,.inr ⟨S,rfl,g1.inv.strict,q3,q4⟩⟩,aj id ⟨rfl,rfl,rfl,rfl,rfl,trivial⟩ ⟨rfl,rfl,trivial⟩ rfl rfl rfl rfl rfl rfl,?_⟩
   dsimp only
   rw [if_pos (by omega:many < (S.length:Int))]
   split <;> omega
 ·rcases g2 with g2|⟨S1,e1,e2,e3,e4⟩
  ·exfalso;omega
  ·exact⟨.inl rfl,_,rfl,id,2,_,bldH p S hw1,rfl,⟨rfl,rfl,trivial⟩,rfl,rfl,rfl,rfl,rfl,rfl,rfl,S,hw1,rfl,.inl ⟨rfl,round_fit g1 e2 e3 e4 (by omega),g1⟩⟩
theorem hwm_next {p:Prg} {lv:List Int} {n:Nat} {given m0:List Fct} {hw:List Stp} (hp:PrgR p) (hl:LvFit p lv) (hm:∀ x∈m0,FctOk p.arity x) (hs:Strict m0) (h:HwM p lv n given hw m0) {T:List Fct} (hT:Good (lvV p lv n m0) m0 T):HwM p lv (n + 1) given hw T:=by
 intro i s hsi
 have h1:=h i s hsi
 have hr:=hp.rul _ (List.getElem_mem h1.hi)
 obtain⟨_,e2⟩:=same_ways hr hp.ar hT.a.1 hm hT.strict.nodup hs.nodup fun l hlb hk x hx=>hT.a.2 x (by
  have h2:=hl.fit _ (List.getElem_mem h1.hi) l hlb hk
  have h3:0≤liftN (p.rules[s.rule.toNat]'h1.hi).fold l:=by unfold liftN;split <;> omega
  have h4:=h1.level
  rw [hx];omega)
 refine⟨h1.lo,h1.hi,by have:=h1.level;omega,by rw [e2];exact h1.way,?_,h1.is,h1.ahead⟩
 unfold hdW
 rw [e2]
 exact h1.head
theorem bld_first {p:Prg} {lv:List Int} {n:Nat} {given m0:List Fct} {hw:List Stp} (hp:PrgR p) (hl:LvFit p lv) (hm:∀ x∈m0,FctOk p.arity x) (hs:Strict m0) (hlen:m0.length≤60) (hk:HwOk given m0 hw) (h:HwM p lv n given hw m0):BldOk p lv n given m0 m0 hw :=
 ⟨inv_first hs ⟨hm,fun _ _=>Iff.rfl⟩ hlen,hk,fun _ hT=>hwm_next hp hl hm hs h hT⟩
theorem hw_first (given:List Fct):HwOk given (b9 given) [] :=
 ⟨fun x=>by rw [(bw given).2];simp,by simp,fun _ h=>by simp at h⟩
theorem run_none {p:Prg} {lv:List Int} {given:List Fct} {n N:Nat} {m:List Fct} (hn:n < N) (h:RunTo p lv given n m) (hno:¬ ∃ M,Fit (lvV p lv n m) m M):¬ ∃ M,RunTo p lv given N M:=by
 rintro⟨M,hM⟩
 have hN:n + 1 + (N - (n + 1))=N:=by omega
 rw [← hN] at hM
 obtain⟨m1,m',h1,h2⟩:=RunTo.back hM
 have:=h1.unique h
 subst this
 exact hno ⟨m1,h2⟩
set_option maxHeartbeats 8000000 in
theorem built_fn (p:Prg) (lv:List Int) (l:List Fct) (hp:PrgR p) (hlv:LvFit p lv) (hl:l.length≤60) (hf:∀ x∈l,FctOk p.arity x) :
  Fn 60 [elPrg p,.d (.slice 1 (lv.map bf)),.d (.slice 2 (l.map ay))]
   (fun r=>∃ (m:List Fct) (hw:List Stp) (b:Bool),r = .tup [.d (.slice 2 (m.map ay)),.d (.slice 4 (hw.map bt)),.d (.bool b)] ∧
    ((b=true∧RunTo p lv l p.arity.length m∧HwOk l m hw∧HwM p lv p.arity.length l hw m)∨(b=false∧m=[]∧hw=[]∧¬ ∃ m,RunTo p lv l p.arity.length m))):=by
 refine au _ Tryz.func60 rfl rfl (by kernel_rfl) ?_
 intro O w0 E0 β0
 have la:(p.arity.map bf).length=p.arity.length:=List.length_map _
 have hal:=hp.alen
 have ws:=set_fn l (by omega) (fun x hx=>by have:=fct_len hp (hf x hx);omega)
 repeat' ((fail_if_success (apply cv 2));(first|refine z0 ?_|apply ag|refine z5 ?_|refine z7 ?_|refine z11 ?_|apply ae|refine z16 ?_|refine z20 ?_|apply aa|refine z22 ?_ (hc:=by apply ws)|refine z1 ?_|fail))
 refine bl (ent_cellrow 5 4 166 4 rfl rfl rfl) ?_
 repeat' (first|refine z0 ?_|apply ag|apply ae|refine z16 ?_|apply ah|apply aa)
 refine bh (ι:=Nat × List Fct × List Stp) (fun c=>⟨3,[(1,.d (.slice 1 (lv.map bf))),(9,.loc 0 0),(18,.d (.int .i64 p.arity.length)),(19,.d (.int .i64 c.1))],
   (2,.blk 26 [.d (.slice 1 (p.arity.map bf)),.d (.slice 1 (p.names.map encT)),.d (.slice 5 (p.rules.map co))])::bldH p c.2.1 c.2.2⟩)
  (fun c=>c.1≤p.arity.length∧RunTo p lv l c.1 c.2.1∧HwOk l c.2.1 c.2.2∧HwM p lv c.1 l c.2.2 c.2.1) (fun c=>p.arity.length - c.1) (0,b9 l,[]) ⟨Nat.zero_le _,rfl,hw_first l,fun i h hi=>by simp at hi⟩
  (aj (fun j=>match j with|0=>5|1=>7|_=>0) ⟨rfl,rfl,by rw [← la];rfl,rfl,trivial⟩ ⟨rfl,rfl,rfl,trivial⟩ rfl rfl rfl rfl rfl rfl) ?_
 rintro⟨n,S,hw⟩ ⟨g1,g2,g3,g4⟩
 dsimp only at g1 g2 g3 g4 ⊢
 obtain⟨s1,s2,s3,s4⟩:=RunTo.ok hf hl g2
 have lS:(S.map ay).length=S.length:=List.length_map _
 by_cases hn:n < p.arity.length
 ·have hb:=bld_first hp hlv s3 s1 s2 g3 g4
  have wl:=level_fn p lv n l S hw hp hlv hb
  repeat' (first|refine z0 ?_|apply ag|refine z5 ?_|refine z10 ?_|apply ae|refine z16 ?_|refine z20 ?_|apply ah|apply ai|apply aq|apply ak|apply aa|apply ap|refine z17 ?_|(refine z23 ?_ ?_ <;> intro hg)|fail)
  all_goals try (exfalso;omega)
  (refine bx id (wl) rfl rfl rfl rfl ⟨rfl,rfl,trivial⟩ rfl rfl rfl rfl rfl rfl ?_ ?_)
  ·rintro k2 r H2 ⟨rfl,S',hw',rfl,⟨rfl,_⟩|⟨rfl,_⟩⟩
   ·exact⟨rfl,rfl⟩
   ·exact⟨rfl,rfl⟩
  rintro k2 r H2 ⟨rfl,S',hw',rfl,⟨rfl,hfit,hb2⟩|⟨rfl,hno⟩⟩
  ·change DS _ _ _ _ _ _ _ _
   repeat' (first|refine z0 ?_|apply ag|refine z16 ?_|apply ai|refine z19 ?_|apply aa|apply aw)
   all_goals try (exfalso;omega)
   exact⟨(n + 1,S',hw'),⟨hn,⟨S,g2,hfit⟩,hb2.hwk,by have:=hb2.stp S' hfit.good;exact this⟩,aj (fun j=>match j with|1=>4|j=>j) ⟨rfl,rfl,rfl,rfl,trivial⟩ ⟨rfl,rfl,rfl,trivial⟩ rfl rfl rfl rfl rfl rfl,by dsimp only;omega⟩
  ·change DS _ _ _ _ _ _ _ _
   repeat' (first|refine z0 ?_|apply ag|apply ae|refine z16 ?_|refine z18 ?_|apply aa)
   all_goals try (exfalso;omega)
   refine bl (dc 6 2 rfl) ?_
   refine bl (dc 7 4 rfl) ?_
   repeat' (first|apply ak|apply av|apply bq)
   exact⟨.inl rfl,_,rfl,rfl,[],[],false,rfl,.inr ⟨rfl,rfl,rfl,run_none hn g2 hno⟩⟩
 ·have hnn:n=p.arity.length:=by omega
  subst hnn
  repeat' (first|refine z0 ?_|apply ag|refine z5 ?_|refine z10 ?_|apply ae|refine z16 ?_|refine z20 ?_|apply ah|apply ai|apply aq|apply aa|apply ap|refine z17 ?_|(refine z23 ?_ ?_ <;> intro hg)|fail)
  all_goals try (exfalso;omega)
  refine bl (cg 7 rfl rfl rfl) ?_
  repeat' (apply ak)
  exact⟨.inl rfl,_,rfl,rfl,S,hw,true,by rw [lS,decide_eq_true (by omega:(S.length:Int)≤60)];rfl,.inl ⟨rfl,g2,g3,g4⟩⟩
theorem mErr_lev {p:Prg} {l:List Fct}:mErr p l=if levE p≠0 then levE p else factsE p.arity l:=by
 unfold mErr levE
 by_cases h:progE nameR p=0
 ·rw [h]
  cases docOk p <;> simp
 ·simp [h]
set_option maxHeartbeats 8000000 in
theorem rights_fn (p:Prg) (l:List Fct):Fn 59 [elPrg p,.d (.slice 2 (l.map ay))] (fun r=>r = .d (.int .i64 (factsE p.arity l))):=by
 refine au _ Tryz.func59 rfl rfl (by kernel_rfl) ?_
 intro O w0 E0 β0
 have ll:(l.map ay).length=l.length:=List.length_map _
 refine da (t:=1) rfl fun hk=>?_
 unfold factsE
 by_cases h2:60 < l.length
 ·rw [if_pos h2]
  repeat' (first|refine z0 ?_|apply ag|apply ae|refine z16 ?_|apply ah|apply ai|apply ak|apply aa|apply av|refine z1 ?_|(refine z23 ?_ ?_ <;> intro hg)|fail)
  all_goals try (exfalso;omega)
  all_goals exact⟨.inl rfl,_,rfl,rfl,rfl⟩
 ·rw [if_neg h2]
  repeat' (first|refine z0 ?_|apply ag|apply ae|refine z16 ?_|apply ah|apply ai|apply ak|apply aa|apply av|refine z1 ?_|(refine z23 ?_ ?_ <;> intro hg)|fail)
  all_goals try (exfalso;omega)
  refine bh (ι:=Nat) (fun i=>⟨1,[(2,.loc 0 0),(11,.d (.slice 2 (l.map ay))),(12,.d (.int .i64 l.length)),(13,.d (.int .i64 i))],[(0,.blk 26 [.d (.slice 1 (p.arity.map bf)),.d (.slice 1 (p.names.map encT)),.d (.slice 5 (p.rules.map co))])]⟩)
   (fun i=>i≤l.length∧ce (factE p.arity) l=ce (factE p.arity) (l.drop i)) (fun i=>l.length - i) 0 ⟨Nat.zero_le _,rfl⟩ (aj id ⟨rfl,rfl,by rw [← ll];rfl,rfl,trivial⟩ ⟨rfl,trivial⟩ rfl rfl rfl rfl rfl rfl) ?_
  rintro i ⟨g1,g2⟩
  dsimp only at g1 g2 ⊢
  by_cases hi:i < l.length
  ·rw [firstL_step hi] at g2
   have w2:=fright_fn p l[i]
   by_cases h3:factE p.arity l[i]≠0
   ·rw [if_pos h3] at g2
    rw [g2]
    repeat' (first|refine z0 ?_|apply ag|apply ae|refine z16 ?_|apply ah|apply ai|apply aq|apply ak|apply aa|apply ap|apply av|apply aw|apply bq|refine z17 ?_|refine z21 ?_ (hc:=by apply w2)|refine z1 ?_|refine z3 ?_|(refine z23 ?_ ?_ <;> intro hg)|fail)
    all_goals try (exfalso;omega)
    all_goals exact⟨.inl rfl,_,rfl,rfl,rfl⟩
   ·rw [if_neg h3] at g2
    repeat' (first|refine z0 ?_|apply ag|apply ae|refine z16 ?_|apply ah|apply ai|apply aq|apply ak|apply aa|apply ap|apply av|apply aw|apply bq|refine z17 ?_|refine z21 ?_ (hc:=by apply w2)|refine z1 ?_|refine z3 ?_|(refine z23 ?_ ?_ <;> intro hg)|fail)
    all_goals try (exfalso;omega)
    exact⟨i + 1,⟨hi,g2⟩,aj id ⟨rfl,rfl,rfl,rfl,trivial⟩ ⟨rfl,trivial⟩ rfl rfl rfl rfl rfl rfl,by omega⟩
  ·rw [firstL_end (by omega)] at g2
   rw [g2]
   repeat' (first|refine z0 ?_|apply ag|apply ae|refine z16 ?_|apply ah|apply ai|apply aq|apply ak|apply aa|apply ap|refine z17 ?_|refine z1 ?_|refine z3 ?_|(refine z23 ?_ ?_ <;> intro hg)|fail)
   all_goals try (exfalso;omega)
   all_goals exact⟨.inl rfl,_,rfl,rfl,rfl⟩
set_option maxHeartbeats 8000000 in
theorem mall_fn (p:Prg) (l:List Fct) :
  Fn 57 [elPrg p,.d (.slice 2 (l.map ay))]
   (fun r=>∃ (m:List Fct) (hw:List Stp) (e:Int),r = .tup [.d (.slice 2 (m.map ay)),.d (.slice 4 (hw.map bt)),.d (.int .i64 e)]∧ModelR p l e m∧(e=0→HwOk l m hw∧HwM p (docLv p) p.arity.length l hw m)):=by
 refine au _ Tryz.func57 rfl rfl (by kernel_rfl) ?_
 intro O w0 E0 β0
 have w1:=levels_fn p
 have w2:=rights_fn p l
 by_cases h0:mErr p l=0
 ·have ho:=mOk h0
  have hE:levE p=0:=by unfold levE;rw [if_neg (by rw [ho.prog];simp),ho.doc];rfl
  have hL:levL p=docLv p:=by unfold levL;rw [if_pos ⟨ho.prog,ho.doc⟩]
  have hF:factsE p.arity l=0:=by rw [mErr_lev,if_neg (by rw [hE];simp)] at h0;exact h0
  rw [hE,hL] at w1
  rw [hF] at w2
  have w3:=built_fn p (docLv p) l ho.pr ho.fit ho.len ho.facts
  repeat' (first|refine z0 ?_|apply ag|apply ae|refine z16 ?_|apply ai|refine z18 ?_|refine z19 ?_|apply aa|refine z21 ?_ (hc:=by apply w1)|refine z21 ?_ (hc:=by apply w2)|refine z1 ?_|fail)
  all_goals try (exfalso;omega)
  apply ds_call;exact rfl;exact rfl;exact w3;exact rfl;exact rfl;exact rfl
  rintro _ ⟨m,hw,b,rfl,⟨rfl,q1,q2,q3⟩|⟨rfl,rfl,rfl,q1⟩⟩
  ·clear w1 w2 w3
   repeat' (first|refine z0 ?_|apply ag|apply ae|refine z16 ?_|apply ai|apply ak|refine z19 ?_|apply aa)
   all_goals try (exfalso;omega)
   exact⟨.inl rfl,_,rfl,rfl,m,hw,0,rfl,.ok m h0 q1,fun _=>⟨q2,q3⟩⟩
  ·clear w1 w2 w3
   repeat' (first|refine z0 ?_|apply ag|apply ae|refine z16 ?_|refine z18 ?_|apply aa)
   all_goals try (exfalso;omega)
   refine bl (dc 4 2 rfl) ?_
   refine bl (dc 5 4 rfl) ?_
   repeat' (first|apply ak|apply av)
   exact⟨.inl rfl,_,rfl,rfl,[],[],2,rfl,.much h0 q1,fun h=>absurd h (by simp)⟩
 ·have hE:=mErr_lev (p:=p) (l:=l)
  have hb:ModelR p l (mErr p l) []:=.bad h0
  by_cases hl:levE p=0
  ·rw [if_neg (by rw [hl];simp)] at hE
   rw [hl] at w1
   rw [hE] at h0 hb
   generalize factsE p.arity l=e at *
   repeat' (first|refine z0 ?_|apply ag|apply ae|refine z16 ?_|apply ai|refine z18 ?_|apply aa|refine z21 ?_ (hc:=by apply w1)|refine z21 ?_ (hc:=by apply w2)|refine z1 ?_|(refine z23 ?_ ?_ <;> intro hg)|fail)
   all_goals try (exfalso;omega)
   refine bl (dc 4 2 rfl) ?_
   refine bl (dc 5 4 rfl) ?_
   repeat' (first|apply ak|apply av)
   exact⟨.inl rfl,_,rfl,rfl,[],[],e,rfl,hb,fun h=>absurd h h0⟩
  ·rw [if_pos hl] at hE
   rw [hE] at h0 hb
   generalize levE p=e at *
   repeat' (first|refine z0 ?_|apply ag|apply ae|refine z16 ?_|apply ai|apply aa|refine z21 ?_ (hc:=by apply w1)|refine z21 ?_ (hc:=by apply w2)|refine z1 ?_|(refine z23 ?_ ?_ <;> intro hg)|fail)
   all_goals try (exfalso;omega)
   refine bl (dc 4 2 rfl) ?_
   refine bl (dc 5 4 rfl) ?_
   repeat' (first|apply ak|apply av)
   exact⟨.inl rfl,_,rfl,rfl,[],[],e,rfl,hb,fun h=>absurd h h0⟩
set_option maxHeartbeats 8000000 in
theorem model_fn (p:Prg) (l:List Fct) (e:Int) (m:List Fct) (hm:ModelR p l e m):Fn 20 [elPrg p,.d (.slice 2 (l.map ay))] (fun r=>r = .tup [.d (.slice 2 (m.map ay)),.d (.int .i64 e)]):=by
 refine au _ Tryz.func20 rfl rfl (by kernel_rfl) ?_
 intro O w0 E0 β0
 have w1:=mall_fn p l
 repeat' (first|refine z0 ?_|apply ag|apply ae|refine z16 ?_|apply aa|refine z1 ?_|fail)
 apply ds_call;exact rfl;exact rfl;exact w1;exact rfl;exact rfl;exact rfl
 rintro _ ⟨m',hw,e',rfl,q1,_⟩
 obtain⟨rfl,rfl⟩:=q1.unique hm
 repeat' (first|refine z0 ?_|apply ag|apply ae|refine z16 ?_|apply ak|apply aa)
 exact⟨.inl rfl,_,rfl,rfl,rfl⟩
end Go.Proofs.YtapciiffpnociacGreat
namespace Go.Proofs.YtapciiffpnociacGreat
open Go Go.RowKit
attribute [local irreducible] DW DS DL DQ Ev FnOk FnP thenD b7 DWr
abbrev dlL (n:Nat) (rose:Bool):Sl:=[(1,.loc 0 0),(4,.row 1),(5,.d (.bool rose)),(6,.d (.int .i64 n))]
abbrev dlH (p:Prg) (lv:List Int):Hp:=[(0,prgBk p),(1,.row 3 1 (lv.map bf))]
set_option maxHeartbeats 8000000 in
theorem levelsOf_fn (p:Prg) (hok:PrgOk p):Fn 67 [elPrg p] (fun res=>res = .tup [.d (.slice 1 ((docLv p).map bf)),.d (.bool (docOk p))]):=by
 refine au _ Tryz.func67 rfl rfl (by kernel_rfl) ?_
 intro O w0 E0 β0
 have la:(p.arity.map bf).length=p.arity.length:=List.length_map _
 have lr:(p.rules.map co).length=p.rules.length:=List.length_map _
 have h10:=hok.preds
 have h12:=hok.rules
 repeat' (first|refine z0 ?_|apply ag|apply ae|refine z16 ?_|apply aa|refine z1 ?_|fail)
 refine ds_mk ((zeros p.arity.length).map bf) rfl rfl (by rw [la]) rfl rfl rfl rfl rfl rfl (by show 8 * _≤_;omega) (by unfold maxLen;omega) (by unfold zeros;rw [List.map_replicate];rfl) rfl rfl ?_
 repeat' (first|refine z0 ?_|apply ag|apply ae|refine z16 ?_|apply ah|apply aa)
 refine bh (ι:=Nat × List Int × Bool) (fun x=>⟨2,dlL x.1 x.2.2,dlH p x.2.1⟩)
  (fun x=>x.1≤p.arity.length + 1∧x.2.1=lvIter p.rules x.1 (zeros p.arity.length)∧x.2.1.length=p.arity.length∧(∀ v∈x.2.1,0≤v∧v≤x.1 * 48)∧∀ m,x.1=m + 1→x.2.2 = !decide (lvIter p.rules (m + 1) (zeros p.arity.length)=lvIter p.rules m (zeros p.arity.length)))
  (fun x=>p.arity.length + 1 - x.1) (0,zeros p.arity.length,false) ⟨Nat.zero_le _,rfl,by simp [zeros],fun v hv=>by rw [List.eq_of_mem_replicate hv];constructor <;> simp,fun m h=>by cases h⟩
  (aj id ⟨rfl,rfl,rfl,rfl,trivial⟩ ⟨rfl,rfl,trivial⟩ rfl rfl rfl rfl rfl rfl) ?_
 rintro⟨n,lv0,rose⟩ ⟨g1,g2,g3,g4,g5⟩
 dsimp only at g1 g2 g3 g4 g5 ⊢
 by_cases hn:n < p.arity.length + 1
 ·repeat' (first|refine z0 ?_|apply ag|apply ae|refine z16 ?_|apply ah|apply ai|apply aq|apply ak|apply aa|apply ap|refine z17 ?_|(refine z23 ?_ ?_ <;> intro hg)|fail)
  all_goals try (exfalso;omega)
  refine bh (ι:=Nat × List Int × Bool) (fun x=>⟨2,(7,.d (.int .i64 x.1))::dlL n x.2.2,dlH p x.2.1⟩)
   (fun x=>x.1≤p.rules.length∧lvRound p.rules lv0=lvRound (p.rules.drop x.1) x.2.1∧RdL lv0 x.2.1 x.2.2 (n * 48 + x.1 * 4)) (fun x=>p.rules.length - x.1)
   (0,lv0,false) ⟨Nat.zero_le _,rfl,RdL.refl (fun v hv=>by have:=g4 v hv;omega)⟩ (aj id ⟨rfl,rfl,rfl,rfl,rfl,trivial⟩ ⟨rfl,rfl,trivial⟩ rfl rfl rfl rfl rfl rfl) ?_
  rintro⟨i,lv1,rose1⟩ ⟨f1,f2,f3⟩
  dsimp only at f1 f2 f3 ⊢
  by_cases hi:i < p.rules.length
  ·have hm:=List.getElem_mem hi
   have hrk:=hok.each _ hm
   rw [List.drop_eq_getElem_cons hi] at f2
   repeat' (first|refine z0 ?_|apply ag|apply ae|refine z16 ?_|apply ah|apply ai|apply aq|apply aa|apply ap|apply aw|refine z17 ?_|refine z1 ?_|refine z3 ?_|(refine z23 ?_ ?_ <;> intro hg)|fail)
   all_goals try (exfalso;omega)
   generalize p.rules[i]=r at hrk f2 ⊢
   have hp1:=hrk.pred
   have hb4:=hrk.body
   have hlt:=hrk.lits
   have lb:(r.body.map bp).length=r.body.length:=List.length_map _
   have f2:lvRound p.rules lv0=lvRound (p.rules.drop (i + 1)) (r.body.foldl (lvLit r.fold r.pred) lv1):=f2
   refine bh (ι:=Nat × List Int × Bool) (fun x=>⟨3,(9,.d (.int .i64 x.1))::(8,.loc 2 0)::(7,.d (.int .i64 i))::dlL n x.2.2,(2,ruleB r)::dlH p x.2.1⟩)
    (fun x=>x.1≤r.body.length∧lvRound p.rules lv0=lvRound (p.rules.drop (i + 1)) ((r.body.drop x.1).foldl (lvLit r.fold r.pred) x.2.1)∧RdL lv0 x.2.1 x.2.2 (n * 48 + i * 4 + x.1)) (fun x=>r.body.length - x.1)
    (0,lv1,rose1) ⟨Nat.zero_le _,f2,f3.more (by simp)⟩ (aj id ⟨rfl,rfl,rfl,rfl,rfl,rfl,rfl,trivial⟩ ⟨rfl,rfl,rfl,trivial⟩ rfl rfl rfl rfl rfl rfl) ?_
   clear f2 f3
   rintro⟨k,lv2,rose2⟩ ⟨e1,e2,e3⟩
   dsimp only at e1 e2 e3 ⊢
   have l2:(lv2.map bf).length=lv2.length:=List.length_map _
   have hl2:lv2.length=lv0.length:=e3.1.1.symm
   by_cases hk:k < r.body.length
   ·have hxm:=List.getElem_mem hk
    obtain⟨⟨k1,k2⟩,kp⟩:=hlt _ hxm
    rw [List.drop_eq_getElem_cons hk,List.foldl_cons] at e2
    by_cases hkind:2 < r.body[k].kind
    ·rw [show lvLit r.fold r.pred lv2 r.body[k]=lv2 from if_pos hkind] at e2
     repeat' (first|refine z0 ?_|refine z12 ?_|apply ag|(apply ds_stP;exact rfl;exact rfl;(apply hv_get;(omega));exact rfl;exact rfl;(exact hv_set rfl);exact rfl;exact rfl;exact rfl;exact rfl;exact rfl;exact rfl)|apply ae|refine z16 ?_|apply ah|apply ai|apply aq|refine z18 ?_|apply aa|apply ap|apply aw|refine z17 ?_|refine z1 ?_|refine z3 ?_|(refine z23 ?_ ?_ <;> intro hg)|((fail_if_success (apply a8;exact rfl));apply a6;exact rfl;exact rfl;exact rfl;all_goals intro hg))
     all_goals try (exfalso;omega)
     exact⟨(k + 1,lv2,rose2),⟨by dsimp only;omega,e2,e3.more (by omega)⟩,aj id ⟨rfl,rfl,rfl,rfl,rfl,rfl,rfl,trivial⟩ ⟨rfl,rfl,rfl,trivial⟩ rfl rfl rfl rfl rfl rfl,by show r.body.length - (k + 1) < r.body.length - k;omega⟩
    ·have hh:hangsB r.body[k]=true:=by
      have h12:r.body[k].kind=1∨r.body[k].kind=2:=by omega
      unfold hangsB
      rcases h12 with h|h <;> simp [h]
     obtain⟨q1,q2⟩:=kp hh
     have hA:=e3.2.2.2 (lv2[r.body[k].pred.toNat]'(by omega)) (List.getElem_mem _)
     have hlit:=lvLit_if (f:=r.fold) (pr:=r.pred) (lv:=lv2) hkind (by omega) (by omega)
     have hset:=fun v=>e3.set (i:=r.pred.toNat) (v:=v) (by omega)
     have hNf:liftN r.fold r.body[k]=if r.body[k].kind=2∨r.fold≠0 then 1 else 0:=rfl
     have hfold:=hrk.fold
     repeat' (first|refine z0 ?_|refine z12 ?_|apply ag|(apply ds_stP;exact rfl;exact rfl;(apply hv_get;(omega));exact rfl;exact rfl;(exact hv_set rfl);exact rfl;exact rfl;exact rfl;exact rfl;exact rfl;exact rfl)|apply ae|refine z16 ?_|apply ah|apply ai|apply aq|refine z18 ?_|apply aa|apply ap|apply aw|refine z17 ?_|refine z1 ?_|refine z3 ?_|(refine z23 ?_ ?_ <;> intro hg)|((fail_if_success (apply a8;exact rfl));apply a6;exact rfl;exact rfl;exact rfl;all_goals intro hg))
     all_goals try (exfalso;omega)
     all_goals first
      | (have hL:liftN r.fold r.body[k]=1:=by rw [hNf,if_pos (by omega)]
         rw [hlit,hL,if_pos (by omega)] at e2
         exact⟨(k + 1,_,true),⟨by dsimp only;omega,e2,(hset _ (by omega) (by omega)).more (by omega)⟩,aj id ⟨rfl,rfl,rfl,rfl,rfl,rfl,rfl,trivial⟩ ⟨rfl,rfl,rfl,trivial⟩ rfl rfl rfl rfl rfl rfl,by show r.body.length - (k + 1) < r.body.length - k;omega⟩)
      | (have hL:liftN r.fold r.body[k]=1:=by rw [hNf,if_pos (by omega)]
         rw [hlit,hL,if_neg (by omega)] at e2
         exact⟨(k + 1,lv2,rose2),⟨by dsimp only;omega,e2,e3.more (by omega)⟩,aj id ⟨rfl,rfl,rfl,rfl,rfl,rfl,rfl,trivial⟩ ⟨rfl,rfl,rfl,trivial⟩ rfl rfl rfl rfl rfl rfl,by show r.body.length - (k + 1) < r.body.length - k;omega⟩)
      | (have hL:liftN r.fold r.body[k]=0:=by rw [hNf,if_neg (by omega)]
         rw [hlit,hL,Int.add_zero,if_pos (by omega)] at e2
         exact⟨(k + 1,_,true),⟨by dsimp only;omega,e2,(hset _ (by omega) (by omega)).more (by omega)⟩,aj id ⟨rfl,rfl,rfl,rfl,rfl,rfl,rfl,trivial⟩ ⟨rfl,rfl,rfl,trivial⟩ rfl rfl rfl rfl rfl rfl,by show r.body.length - (k + 1) < r.body.length - k;omega⟩)
      | (have hL:liftN r.fold r.body[k]=0:=by rw [hNf,if_neg (by omega)]
         rw [hlit,hL,Int.add_zero,if_neg (by omega)] at e2
         exact⟨(k + 1,lv2,rose2),⟨by dsimp only;omega,e2,e3.more (by omega)⟩,aj id ⟨rfl,rfl,rfl,rfl,rfl,rfl,rfl,trivial⟩ ⟨rfl,rfl,rfl,trivial⟩ rfl rfl rfl rfl rfl rfl,by show r.body.length - (k + 1) < r.body.length - k;omega⟩)
   ·rw [show r.body.drop k=[] from List.drop_of_length_le (by omega)] at e2
    repeat' (first|refine z0 ?_|refine z12 ?_|apply ag|(apply ds_stP;exact rfl;exact rfl;(apply hv_get;(omega));exact rfl;exact rfl;(exact hv_set rfl);exact rfl;exact rfl;exact rfl;exact rfl;exact rfl;exact rfl)|apply ae|refine z16 ?_|apply ah|apply ai|apply aq|refine z18 ?_|apply aa|apply ap|apply aw|refine z17 ?_|refine z1 ?_|refine z3 ?_|(refine z23 ?_ ?_ <;> intro hg)|((fail_if_success (apply a8;exact rfl));apply a6;exact rfl;exact rfl;exact rfl;all_goals intro hg))
    all_goals try (exfalso;omega)
    exact⟨(i + 1,lv2,rose2),⟨by dsimp only;omega,e2,e3.more (by omega)⟩,aj id ⟨rfl,rfl,rfl,rfl,rfl,trivial⟩ ⟨rfl,rfl,trivial⟩ rfl rfl rfl rfl rfl rfl,by show p.rules.length - (i + 1) < p.rules.length - i;omega⟩
  ·rw [List.drop_of_length_le (by omega)] at f2
   have f2:lvRound p.rules lv0=lv1:=f2
   repeat' (first|refine z0 ?_|apply ag|apply ae|refine z16 ?_|apply ah|apply ai|apply aq|apply aa|apply ap|apply aw|refine z17 ?_|refine z1 ?_|refine z3 ?_|(refine z23 ?_ ?_ <;> intro hg)|fail)
   all_goals try (exfalso;omega)
   have hsucc:=lvIter_succ p.rules n (zeros p.arity.length)
   rw [← g2,f2] at hsucc
   refine⟨(n + 1,lv1,rose1),⟨by dsimp only;omega,hsucc.symm,by dsimp only;rw [← f3.1.1];exact g3,fun v hv=>by have:=f3.2.2.2 v hv;dsimp only;omega,fun m hm=>?_⟩,aj id ⟨rfl,rfl,rfl,rfl,trivial⟩ ⟨rfl,rfl,trivial⟩ rfl rfl rfl rfl rfl rfl,by show p.arity.length + 1 - (n + 1) < p.arity.length + 1 - n;omega⟩
   cases hm
   dsimp only
   rw [hsucc,← g2]
   cases rose1 with
   | true=>rw [decide_eq_false (f3.2.2.1 rfl)];rfl
   | false=>rw [decide_eq_true (f3.2.1 rfl)];rfl
 ·have hne:n=p.arity.length + 1:=by omega
  subst hne
  have hro:=g5 _ rfl
  repeat' (first|refine z0 ?_|apply ag|apply ae|refine z16 ?_|apply ah|apply ai|apply aq|apply aa|apply ap|refine z17 ?_|(refine z23 ?_ ?_ <;> intro hg)|fail)
  all_goals try (exfalso;omega)
  refine bl (cg 2 rfl rfl rfl) ?_
  repeat' (apply ak)
  have hd:docOk p = !rose:=by
   rw [hro,Bool.not_not,lvIter_succ]
   rfl
  refine ret_2 rfl ⟨by rw [g2];rfl,by rw [hd]⟩
end Go.Proofs.YtapciiffpnociacGreat
