/- Several texts in one: RuL RelL GxRng GxItr RelV RuH. Condition: none. -/
import Derived.Test.YtapciiffpnociadGreatM16
import Derived.Test.YtapciiffpnociadGreatM10
import Derived.Test.YtapciiffpnociadGreatM12
import Derived.Test.YtapciiffpnociadGreatM15
set_option linter.all false
set_option maxHeartbeats 8000000
open Array renaming getD_eq_getD_getElem?→Dk
open Bool renaming and_eq_true→Ad
open Classical renaming byContradiction→A1
open List renaming append_nil→B0,exists_cons_of_ne_nil→Dw,filter_append→C3,foldl_cons→A2,getElem?_eq_getElem→Ab,getElem?_eq_none→Ba,getElem?_map→Bl,getElem?_of_mem→Ez,getElem?_set_ne→Cf,getElem?_set_self→By,getElem_mem→Ag,length_filter_le→Cj,length_map→Aa,map_append→Av,mem_append_left→A0,mem_append_right→B7,mem_cons_of_mem→Ah,mem_cons_self→Ae,mem_filterMap→Eo,mem_map_of_mem→Gs,mem_of_getElem?→B5,mem_singleton→A5
open Nat renaming le_refl→Af,le_trans→Ar,lt_of_lt_of_le→Aq,ne_of_beq_eq_false→Bj,zero_le→Ai
namespace Go.Proofs.YtapciiffpnociadGreat
section
open Go Go.RowKit
variable [Bnds]
def et (arity:List Int) (l:List Fct):Int:=if 60<l.length then 2 else b8 (kt arity) l
def vt (p:Prg) (n:Int) (l:List Fct):Int:=if dw dx p≠0 then dw dx p else if n<0∨(p.rules.length:Int)<=n then 5 else et p.arity l
attribute [local irreducible] DW DS DL DQ Ev FnOk FnP dp bh DT
theorem right1_fn (n:Int):Fn 127 [.d (.int .i64 n)] (λr=>r = .d (.bool (!numB n))):=by
 refine fqE Tryz.func127 ?_;intro O w0 E0 β0;repeat' (first|refine zr ?_|refine z21 ?_ (hc:=by apply qh)|fail)
 exact⟨.inl rfl,_,rfl,rfl,rfl⟩
theorem fright_fn (p:Prg) (x:Fct):Fn 70 [db p,c9 x] (λr=>r = .d (.int .i64 (kt p.arity x))):=by
 refine fqE Tryz.func70 ?_;intro O w0 E0 β0;have la:(p.arity.map ah).length=p.arity.length:=Aa _;have lx:(x.args.map ah).length=x.args.length:=Aa _;refine ew 0 0 rfl rfl λhk=>?_
 have w1:=containsFuncInt_fn (caps:=[]) (f:=127) (λn=>!numB n) x.args rfl (λn _=>right1_fn n);have w0:Fn 125 [.d (.int .i64 x.pred),.d (.int .i64 0),.d (.int .i64 (((p.arity.map ah).length:Int)-1))] (λr=>r = .d (.bool (inR x.pred 0 ((p.arity.length:Int)-1)))):=by rw [la];exact ez _ _ _
 unfold kt;cases h1:inR x.pred 0 ((p.arity.length:Int)-1) with
 | false =>
  rw [h1] at w0;rw [if_pos rfl];repeat' (first|refine zr ?_|refine z21 ?_ (hc:=by apply w0)|(exfalso;omega))
  exact⟨.inl rfl,_,rfl,rfl,rfl⟩
 | true =>
  rw [h1] at w0;rw [if_neg (by simp)];have hr:0<=x.pred/\x.pred<p.arity.length:=by unfold inR at h1;simp at h1;omega
  have hlt:x.pred.toNat<p.arity.length:=by omega
  have hg':p.arity.getD x.pred.toNat 0=p.arity[x.pred.toNat]:=by rw [List.getD,Ab hlt];rfl
  rw [hg'];by_cases h2:(x.args.length:Int)≠p.arity[x.pred.toNat]
  ·rw [if_pos h2];repeat' (first|refine zr ?_|refine z21 ?_ (hc:=by apply w0)|(refine zm ?_ ?_<;>intro hg)|(exfalso;omega))
   exact⟨.inl rfl,_,rfl,rfl,rfl⟩
  ·rw [if_neg h2];cases h3:x.args.any (λn=>!numB n) with
   | true =>
    rw [h3] at w1;repeat' (first|refine zr ?_|refine z21 ?_ (hc:=by apply w0)|refine z21 ?_ (hc:=by apply w1)|(refine zm ?_ ?_<;>intro hg)|(exfalso;omega))
    exact⟨.inl rfl,_,rfl,rfl,rfl⟩
   | false =>
    rw [h3] at w1;repeat' (first|refine zr ?_|refine z21 ?_ (hc:=by apply w0)|refine z21 ?_ (hc:=by apply w1)|(refine zm ?_ ?_<;>intro hg)|(exfalso;omega))
    exact⟨.inl rfl,_,rfl,rfl,rfl⟩
theorem ready_fn (p:Prg) (n:Int) (l:List Fct):Fn 59 [db p,.d (.int .i64 n),.d (.slice 2 (l.map aa))] (λr=>r = .d (.int .i64 (vt p n l))):=by
 refine fqE Tryz.func59 ?_;intro O w0 E0 β0;have w1:=scheck_fn p;have lr:(p.rules.map a6).length=p.rules.length:=Aa _;have ll:(l.map aa).length=l.length:=Aa _;refine ew 0 2 rfl rfl λhk=>?_
 unfold vt et;by_cases h0:dw dx p≠0
 ·rw [if_pos h0];repeat' (first|refine zr ?_|refine z21 ?_ (hc:=by apply w1)|(refine zm ?_ ?_<;>intro hg)|(exfalso;omega))
  exact⟨.inl rfl,_,rfl,rfl,rfl⟩
 ·rw [if_neg h0];by_cases h1:n<0∨(p.rules.length:Int)<=n
  ·rw [if_pos h1];repeat' (first|refine zr ?_|refine z21 ?_ (hc:=by apply w1)|(refine zm ?_ ?_<;>intro hg)|(exfalso;omega))
   all_goals exact⟨.inl rfl,_,rfl,rfl,rfl⟩
  ·rw [if_neg h1];by_cases h2:60<l.length
   ·rw [if_pos h2];repeat' (first|refine zr ?_|refine z21 ?_ (hc:=by apply w1)|(refine zm ?_ ?_<;>intro hg)|(exfalso;omega))
    all_goals exact⟨.inl rfl,_,rfl,rfl,rfl⟩
   ·rw [if_neg h2];repeat' (first|refine zr ?_|refine z21 ?_ (hc:=by apply w1)|(refine zm ?_ ?_<;>intro hg)|(exfalso;omega))
    refine ak (ι:=Nat) (λi=>⟨1,[(3,.loc 0 0),(30,.d (.slice 2 (l.map aa))),(31,.d (.int .i64 l.length)),(32,.d (.int .i64 i))],[(0,.blk 26 [.d (.slice 1 (p.arity.map ah)),.d (.slice 1 (p.names.map dl)),.d (.slice 5 (p.rules.map a6))])]⟩)
     (λi=>i<=l.length/\b8 (kt p.arity) l=b8 (kt p.arity) (l.drop i)) (λi=>l.length-i) 0 ⟨Ai _,rfl⟩ (ag id ⟨rfl,rfl,by rw [<- ll];rfl,rfl,trivial⟩ ⟨rfl,trivial⟩ rfl rfl rfl rfl rfl rfl) ?_
    rintro i ⟨g1,g2⟩;dsimp only at g1 g2 ⊢;by_cases hi:i<l.length
    ·rw [gz hi] at g2;have w2:=fright_fn p l[i];by_cases h3:kt p.arity l[i]≠0
     ·rw [if_pos h3] at g2;rw [g2];repeat' (first|refine zr ?_|refine z21 ?_ (hc:=by apply w2)|(refine zm ?_ ?_<;>intro hg)|(exfalso;omega))
      all_goals exact⟨.inl rfl,_,rfl,rfl,rfl⟩
     ·rw [if_neg h3] at g2;repeat' (first|refine zr ?_|refine z21 ?_ (hc:=by apply w2)|(refine zm ?_ ?_<;>intro hg)|(exfalso;omega))
      exact⟨i+1,⟨hi,g2⟩,er id,by omega⟩
    ·rw [jh (by omega)] at g2;rw [g2];repeat' (first|refine zr ?_|(refine zm ?_ ?_<;>intro hg)|(exfalso;omega))
     all_goals exact⟨.inl rfl,_,rfl,rfl,rfl⟩
theorem checkFact_fn (p:Prg) (x:Fct):Fn 147 [db p,c9 x] (λr=>r = .d (.int .i64 (kt p.arity x))):=by
 refine fqE Tryz.func147 ?_;intro O w0 E0 β0;have la:(p.arity.map ah).length=p.arity.length:=Aa _;have lx:(x.args.map ah).length=x.args.length:=Aa _;refine ew 0 0 rfl rfl λhk=>?_
 refine ew 1 1 rfl rfl λhk1=>?_
 have w0:Fn 87 [.d (.int .i64 x.pred),.d (.int .i64 0),.d (.int .i64 (((p.arity.map ah).length:Int)-1))] (λr=>r = .d (.bool (inR x.pred 0 ((p.arity.length:Int)-1)))):=by rw [la];exact rbetween_fn _ _ _
 unfold kt;cases h1:inR x.pred 0 ((p.arity.length:Int)-1) with
 | false =>
  rw [h1] at w0;rw [if_pos rfl];repeat' (first|refine zr ?_|refine z21 ?_ (hc:=by apply w0)|(exfalso;omega))
  exact⟨.inl rfl,_,rfl,rfl,rfl⟩
 | true =>
  rw [h1] at w0;rw [if_neg (by simp)];have hr:0<=x.pred/\x.pred<p.arity.length:=by unfold inR at h1;simp at h1;omega
  have hlt:x.pred.toNat<p.arity.length:=by omega
  have hg':p.arity.getD x.pred.toNat 0=p.arity[x.pred.toNat]:=by rw [List.getD,Ab hlt];rfl
  rw [hg'];by_cases h2:(x.args.length:Int)≠p.arity[x.pred.toNat]
  ·rw [if_pos h2];repeat' (first|refine zr ?_|refine z21 ?_ (hc:=by apply w0)|(refine zm ?_ ?_<;>intro hg)|(exfalso;omega))
   exact⟨.inl rfl,_,rfl,rfl,rfl⟩
  ·rw [if_neg h2];repeat' (first|refine zr ?_|refine z21 ?_ (hc:=by apply w0)|(refine zm ?_ ?_<;>intro hg)|(exfalso;omega))
   refine ak (ι:=Nat) (λi=>⟨2,[(3,.loc 1 0),(5,.d (.int .i64 i))],[(1,.blk 37 [.d (.int .i64 x.pred),.d (.slice 1 (x.args.map ah))])]⟩)
    (λi=>i<=x.args.length/\∀ j (_:j<x.args.length),j<i->numB x.args[j]=true) (λi=>x.args.length-i) 0 ⟨Ai _,λ_ _ h=>by omega⟩ (er id) ?_
   rintro i ⟨g1,g2⟩;dsimp only at g1 g2 ⊢;by_cases hi:i<x.args.length
   ·have w2:=kh x.args[i];cases hb:numB x.args[i] with
    | false =>
     rw [hb] at w2;rw [if_pos (List.any_eq_true.2 ⟨_,Ag hi,by rw [hb];rfl⟩)];repeat' (first|refine zr ?_|refine z21 ?_ (hc:=by apply w2)|(refine zm ?_ ?_<;>intro hg)|(exfalso;omega))
     all_goals exact⟨.inl rfl,_,rfl,rfl,rfl⟩
    | true =>
     rw [hb] at w2;repeat' (first|refine zr ?_|refine z21 ?_ (hc:=by apply w2)|(refine zm ?_ ?_<;>intro hg)|(exfalso;omega))
     exact⟨i+1,⟨hi,λj hj hji=>by
      by_cases hq:j=i
      ·subst hq;exact hb
      ·exact g2 j hj (by omega)⟩,er id,by omega⟩
   ·have hno:¬ x.args.any (λn=>!numB n)=true:=by
     rw [List.any_eq_true];rintro⟨n,hn,hb⟩;obtain⟨j,hj,rfl⟩:=List.mem_iff_getElem.1 hn;rw [g2 j hj (by omega)] at hb;cases hb
    rw [if_neg hno];repeat' (first|refine zr ?_|(refine zm ?_ ?_<;>intro hg)|(exfalso;omega))
    all_goals exact⟨.inl rfl,_,rfl,rfl,rfl⟩
theorem checkFacts_fn (p:Prg) (l:List Fct):Fn 112 [db p,.d (.slice 2 (l.map aa))] (λr=>r = .d (.int .i64 (et p.arity l))):=by
 refine fqE Tryz.func112 ?_;intro O w0 E0 β0;have ll:(l.map aa).length=l.length:=Aa _;unfold et;by_cases h2:60<l.length
 ·rw [if_pos h2];repeat' (first|refine zr ?_|(refine zm ?_ ?_<;>intro hg)|(exfalso;omega))
  all_goals exact⟨.inl rfl,_,rfl,rfl,rfl⟩
 ·rw [if_neg h2];repeat' (first|refine zr ?_|(refine zm ?_ ?_<;>intro hg)|(exfalso;omega))
  refine ak (ι:=Nat) (λi=>⟨1,[(1,.d (.slice 2 (l.map aa))),(2,.loc 0 0),(5,.d (.int .i64 i))],[(0,.blk 26 [.d (.slice 1 (p.arity.map ah)),.d (.slice 1 (p.names.map dl)),.d (.slice 5 (p.rules.map a6))])]⟩)
   (λi=>i<=l.length/\b8 (kt p.arity) l=b8 (kt p.arity) (l.drop i)) (λi=>l.length-i) 0 ⟨Ai _,rfl⟩ (er id) ?_
  rintro i ⟨g1,g2⟩;dsimp only at g1 g2 ⊢;by_cases hi:i<l.length
  ·rw [gz hi] at g2;have w2:=checkFact_fn p l[i];by_cases h3:kt p.arity l[i]≠0
   ·rw [if_pos h3] at g2;rw [g2];repeat' (first|refine zr ?_|refine z22 ?_ (hc:=by apply w2)|(refine zm ?_ ?_<;>intro hg)|(exfalso;omega))
    all_goals exact⟨.inl rfl,_,rfl,rfl,rfl⟩
   ·rw [if_neg h3] at g2;repeat' (first|refine zr ?_|refine z22 ?_ (hc:=by apply w2)|(refine zm ?_ ?_<;>intro hg)|(exfalso;omega))
    exact⟨i+1,⟨hi,g2⟩,er id,by omega⟩
  ·rw [jh (by omega)] at g2;rw [g2];repeat' (first|refine zr ?_|(refine zm ?_ ?_<;>intro hg)|(exfalso;omega))
   all_goals exact⟨.inl rfl,_,rfl,rfl,rfl⟩
variable [Bnds]
theorem keepO_fn (l:List Fct) (g:FuncId) (caps:List SV) (pr:Fct->Bool) (hlow:SV.lowL 0 caps=true) (hl:l.length<=4398046511104) (hargs:∀ x∈l,x.args.length<=17592186044416) (hg:∀ x∈l,Fn g ([c9 x]++caps) (λr=>r = .d (.bool (pr x)))) :
  Fn 73 [.d (.slice 2 (l.map aa)),.fn g caps] (λr=>∃ s:List Fct,s.Perm (l.filter pr)/\s.Pairwise (λa b=>cu b a ≥ 0)/\r = .d (.own Bnds.B (.slice 2 ((cmpF s).map aa)))):=by
 refine fqE Tryz.func73 ?_;intro O w0 E0 β0;have ll:(l.map aa).length=l.length:=Aa _;have hlows:∀ k,SV.lowL k caps=true:=λk=>SV.lowL_mono k caps hlow
 repeat' ((fail_if_success (apply dw_stop 0));(first|refine zs ?_|fail))
 refine au (dm (t:=5) 37 2 rfl) ?_;repeat' fail
 refine ak (ι:=Nat×List Fct) (λx=>⟨1,[(1,.fn g caps),(5,.row 0),(8,.d (.slice 2 (l.map aa))),(9,.d (.int .i64 l.length)),(10,.d (.int .i64 x.1))],[(0,.row 37 2 (x.2.map ip))]⟩)
  (λx=>x.1<=l.length/\x.2=(l.take x.1).filter pr) (λx=>l.length-x.1) (0,[]) ⟨Ai _,rfl⟩ (ag id ⟨(SV.ren_id _).symm,rfl,rfl,by rw [<- ll];rfl,rfl,trivial⟩ ⟨rfl,trivial⟩ (by simp [Sl.low,SV.low,hlows]) rfl rfl rfl rfl rfl) ?_
 rintro⟨i,o⟩ ⟨g1,g2⟩;dsimp only at g1 g2 ⊢;have lo:(o.map ip).length=o.length:=Aa _;have hol:o.length<=i:=by rw [g2];have:=Cj pr (l.take i);rw [List.length_take] at this;omega
 by_cases hi:i<l.length
 ·have hm:=Ag hi;have hx:=hg _ hm;have hw:=ownO_fn l[i] (hargs _ hm);have hll:SV.lowL 0 ([c9 l[i]]++caps)=true:=by simp [SV.lowL,SV.low,hlow]
  have hstep:(l.take (i+1)).filter pr=o++(if pr l[i] then [l[i]] else []):=by
   rw [List.take_succ_eq_append_getElem hi,C3,<- g2];congr 1;simp [List.filter_cons]
  cases hb:pr l[i] with
  | true =>
   rw [hb] at hx;rw [hb,if_pos rfl] at hstep;repeat' (first|refine zs ?_|(apply jp;exact rfl;exact rfl;exact rfl;exact rfl;apply hx;exact rfl;(assumption);exact rfl;rintro _ rfl)|refine z21 ?_ (hc:=by apply hw)|(refine zm ?_ ?_<;>intro hg)|(exfalso;omega))
   exact⟨(i+1,o++[l[i]]),⟨by dsimp only;omega,hstep.symm⟩,ag (λj=>match j with|0=>2|j=>j) ⟨(SV.ren_low0 _ (.fn g caps) hlow).symm,rfl,rfl,rfl,rfl,trivial⟩ ⟨by rw [Av];rfl,trivial⟩ (by simp [Sl.low,SV.low,hlows]) rfl rfl rfl rfl rfl,by show l.length-(i+1)<l.length-i;omega⟩
  | false =>
   rw [hb] at hx;rw [hb,if_neg (by simp),B0] at hstep;repeat' (first|refine zs ?_|(apply jp;exact rfl;exact rfl;exact rfl;exact rfl;apply hx;exact rfl;(assumption);exact rfl;rintro _ rfl)|(refine zm ?_ ?_<;>intro hg)|(exfalso;omega))
   exact⟨(i+1,o),⟨by dsimp only;omega,hstep.symm⟩,ag id ⟨(SV.ren_low0 _ (.fn g caps) hlow).symm,rfl,rfl,rfl,rfl,trivial⟩ ⟨rfl,trivial⟩ (by simp [Sl.low,SV.low,hlows]) rfl rfl rfl rfl rfl,by show l.length-(i+1)<l.length-i;omega⟩
 ·rw [List.take_of_length_le (by omega)] at g2;repeat' (first|refine zs ?_|(refine zm ?_ ?_<;>intro hg)|(exfalso;omega))
  refine ds_sort sortFactsO_c o (by kernel_rfl) rfl rfl rfl rfl rfl rfl (by omega) ?_;intro s hp hs;have hsl:s.length<=4398046511104:=by rw [hp.length_eq];omega
  refine jw (ag (k':=1) (L':=[(5,.row 0)]) (H':=[(0,.row 37 2 (s.map ip))]) id ⟨rfl,trivial⟩ ⟨rfl,trivial⟩ rfl rfl rfl rfl rfl rfl) ?_;repeat' (first|refine zs ?_|(exfalso;omega))
  (refine bk id (compactO_fn s hsl) rfl rfl rfl rfl ⟨rfl,trivial⟩ rfl rfl rfl rfl rfl rfl ?_ ?_)
  ·rintro k2 r H2 ⟨rfl,rfl⟩;exact⟨rfl,rfl⟩
  rintro k2 r H2 ⟨rfl,rfl⟩;change DS _ _ _ _ _ _ _ _;repeat' (first|refine zr ?_|fail)
  exact⟨.inl rfl,_,rfl,rfl,s,g2▸hp,hs,rfl⟩
end
section
open Go Go.RowKit
variable [Bnds]
def SeqD (P:Program) (gf:FuncId) (caps:List SV) (xs:List (List SV)):Prop :=
 d9 P gf=true /\
 ∀ (X:Nat->Prop) (e:Env) (W0:World) (lb:List Value) (l:Nat) (J:Nat->World->Prop) (Jx:World->Prop),
  (∀ b,X b->b<W0.heap.size)->Tabs P (λ_=>False) W0->RelL X e W0 caps lb->J 0 W0 ->
  (∀ i W,J i W->W0.heap.size<=W.heap.size/\∀ b,b<W0.heap.size->¬ X b->W.heap[b]?=W0.heap[b]?) ->
  (∀ i W W',J i W->Below W.heap.size W W'->J i W')->(∀ W W',Jx W->Below W.heap.size W W'->Jx W')->(∀ W,Jx W->W0.heap.size<=W.heap.size) ->
  (∀ (i:Nat) (h:i<xs.length) W1 W vs,J i W1->Below W1.heap.size W1 W->(∃ e',RelL (λb=>b<W1.heap.size/\(X b∨W0.heap.size<=b)) e' W (xs[i]) vs) ->
   ∃ r:Loop,W.heap[l]?=some (Obj.loop r)/\vs.toArray.size=r.params.size /\
    RoundIn Fence.wide 0 P l r.fn ((r.params.zip vs.toArray).foldl (λt (p,v)=>t.setIfInBounds p v) r.tmps) r.assign r.body W
     (λen W'=>(en = .returned (.bool true)/\J (i+1) W')∨(en = .returned (.bool false)/\Jx W'))) ->
  Calls P gf (#[.func (.yield l) #[] #[]]++lb.toArray) W0 (λen W'=>(∃ v,en = .returned v)/\(J xs.length W'∨Jx W'))
theorem Heap.rebase {Γ:Ctx} {k:Nat->Prop} {H:Hp} {e:Env} {w w2:World} (h:Heap Γ k H e w) (hs:w.heap.size<=w2.heap.size) (hk:KeepsCells w w2) {n J:Nat} {rd pan mk} (hJ:∀ j,j<J->k j) :
  Heap ⟨Γ.P,Γ.τ,Γ.τok,Γ.O,w2,λb=>b∈ae e H,n,J,e.an,rd,pan,mk,false⟩ k H e w2 where
 top:=h.top
 heap p hp:=⟨(h.heap p hp).1,HRel.turned hs hk p (h.heap p hp).2⟩
 ids:=h.ids
 nodup:=h.nodup
 mine b hb:=⟨.inl hb,(h.mine b hb).2⟩
 os:=rfl
 tape:=rfl
 output:=rfl
 drawn h:=nomatch h
 size:=Af _
 block _ _ _:=rfl
 obound b hb:=⟨Aq (h.obound b hb).1 (Ar h.size hs),λho=>(h.mine b ho).2 hb⟩
 tabs:=h.tabsAt.grow hs
 jle:=hJ
 anchor _ _:=rfl
theorem Heap.debase {Γ:Ctx} [NoDr Γ] {k k2:Nat->Prop} {H H2:Hp} {e e2:Env} {w wb w2:World} {E:Nat->Prop} {n J:Nat} {rd pan mk} (h:Heap Γ k H e w) (hs:w.heap.size<=wb.heap.size) (hos:wb.os=w.os) (ht:wb.tape=w.tape) (ho:wb.output=w.output)
  (hb:∀ b,b<Γ.w0.heap.size->¬ Γ.E0 b->wb.heap[b]?=w.heap[b]?)
  (h2:Heap ⟨Γ.P,Γ.τ,Γ.τok,Γ.O,wb,E,n,J,e.an,rd,pan,mk,false⟩ k2 H2 e2 w2) (hE:∀ b,E b->Γ.E0 b∨Γ.w0.heap.size<=b) (hJ:Γ.J<=J):Heap Γ k2 H2 e2 w2 where
 top:=h2.top
 heap:=h2.heap
 ids:=h2.ids
 nodup:=h2.nodup
 mine b hb2:=⟨(h2.mine b hb2).1.elim (hE b) λhx=>.inr (Ar h.size (Ar hs hx)),(h2.mine b hb2).2⟩
 os:=h2.os.trans (hos.trans h.os)
 tape:=h2.tape.trans (ht.trans h.tape)
 output:=h2.output.trans (ho.trans h.output)
 drawn:=NoDr.any
 size:=Ar h.size (Ar hs h2.size)
 block b h3 h4:=(h2.block b (Aq h3 (Ar h.size hs)) λhx=>(hE b hx).elim h4 λh5=>by omega).trans ((hb b h3 h4).trans (h.block b h3 h4))
 obound:=h.obound
 tabs:=h.tabs
 jle j hj:=h2.jle j (Aq hj hJ)
 anchor j hj:=(h2.anchor j (Aq hj hJ)).trans (h.anchor j hj)
mutual
def SV.stab:SV->Bool
 | .row _=>false
 | .prow _ _ _ _=>false
 | .rsl _ _ _ _=>false
 | .rg _ _ _=>true
 | .fn _ caps=>SV.stabL caps
 | .agg ss=>SV.stabL ss
 | .tup ss=>SV.stabL ss
 | .junk=>true
 | .d _=>true
 | .nils=>true
 | .pd _=>true
 | .loc _ _=>true
 | .mp _=>true
 | .md _ _=>true
 | .sl _ _ _ _=>true
 | .val _=>true
def SV.stabL:List SV->Bool
 | []=>true
 | s::ss=>SV.stab s && SV.stabL ss
end
mutual
theorem Rel.stab {X:Nat->Prop} {e e':Env} {w:World} (h:∀ i,e.dom i->e'.dom i/\e'.β i=e.β i):∀ (s:SV) (v:Value),s.stab=true->Rel X e w s v->Rel X e' w s v
 | .junk,_,_,_=>trivial
 | .d _,_,_,h=>h
 | .nils,_,_,h=>h
 | .pd _,_,_,h=>h
 | .loc i _,_,_,⟨h1,h2⟩=>⟨(h i h1).1,by rw [(h i h1).2];exact h2⟩
 | .mp i,_,_,⟨h1,h2⟩=>⟨(h i h1).1,by rw [(h i h1).2];exact h2⟩
 | .md _ _,_,_,h=>h
 | .sl i _ _ _,_,_,⟨h1,h2⟩=>⟨(h i h1).1,by rw [(h i h1).2];exact h2⟩
 | .row _,_,hb,_=>nomatch hb
 | .prow _ _ _ _,_,hb,_=>nomatch hb
 | .rsl _ _ _ _,_,hb,_=>nomatch hb
 | .rg _ _ _,_,_,h=>h
 | .fn _ caps,_,hb,⟨vs,h1,h2⟩=>⟨vs,h1,RelL.stab h caps vs hb h2⟩
 | .agg ss,_,hb,⟨vs,h1,h2⟩=>⟨vs,h1,RelL.stab h ss vs hb h2⟩
 | .tup ss,_,hb,⟨vs,h1,h2⟩=>⟨vs,h1,RelL.stab h ss vs hb h2⟩
 | .val _,_,_,h=>h
theorem RelL.stab {X:Nat->Prop} {e e':Env} {w:World} (h:∀ i,e.dom i->e'.dom i/\e'.β i=e.β i):∀ (ss:List SV) (vs:List Value),SV.stabL ss=true->RelL X e w ss vs->RelL X e' w ss vs
 | [],[],_,_=>trivial
 | [],_::_,_,h=>h.elim
 | _::_,[],_,h=>h.elim
 | s::ss,v::vs,hb,hr=>by
  simp only [SV.stabL,Ad] at hb
  exact⟨Rel.stab h s v hb.1 hr.1,RelL.stab h ss vs hb.2 hr.2⟩
end
def keptB (L:Sl):Sl->Bool
 | []=>true
 | (_,s)::r=>s.stab && keptB L r
def th (L:Sl):Sl->Prop
 | []=>True
 | (t,s)::r=>Sl.get L t=s/\th L r
theorem kept_get {L:Sl}:∀ (L':Sl),th L L'->keptB L L'=true->∀ t,L'.get t = .junk∨(L'.get t=L.get t/\(L.get t).stab=true)
 | [],_,_,_=>.inl rfl
 | (d,s)::r,⟨h1,h2⟩,hb,t=>by
  simp only [keptB,Ad] at hb
  rw [Sl.get_cons]
  split
  ·rename_i hd;subst hd;exact .inr ⟨h1.symm,h1.symm▸hb.1⟩
  ·exact kept_get r h2 hb.2 t
def params:List Nat->List SV->Sl->Sl
 | p::ps,s::ss,L=>params ps ss ((p,s)::L)
 | _,_,L=>L
theorem params_slot {X e w}:∀ (ps:List Nat) (ss:List SV) (vs:List Value) (L:Sl) (tmps:Array Value),ps.length=ss.length->(∀ p∈ps,p<tmps.size)->RelL X e w ss vs->(∀ t,Rel X e w (L.get t) (tmps.getD t undef)) ->
  ∀ t,Rel X e w ((params ps ss L).get t) (((ps.zip vs).foldl (λt (q:Nat×Value)=>t.setIfInBounds q.1 q.2) tmps).getD t undef)
 | [],[],[],L,tmps,_,_,_,h,t=>h t
 | [],_::_,_,_,_,hl,_,_,_,_=>by simp at hl
 | _::_,[],_,_,_,hl,_,_,_,_=>by simp at hl
 | _,[],_::_,_,_,_,_,hr,_,_=>hr.elim
 | _,_::_,[],_,_,_,_,hr,_,_=>hr.elim
 | p::ps,s::ss,v::vs,L,tmps,hl,hp,⟨h1,h2⟩,h,t=>by
  refine params_slot ps ss vs ((p,s)::L) (tmps.setIfInBounds p v) (by simpa using hl) (λq hq=>by rw [Array.size_setIfInBounds];exact hp q (Ah _ hq)) h2 (λt=>?_) t
  have:=hp p (Ae ..)
  rw [Sl.get_cons]
  simp only [Dk,Array.getElem?_setIfInBounds]
  split
  ·rename_i hd;subst hd;simp;exact h1
  ·have:=h t;rwa [Dk] at this
theorem foldl_size:∀ (l:List (Nat×Value)) (tmps:Array Value),(l.foldl (λt (q:Nat×Value)=>t.setIfInBounds q.1 q.2) tmps).size=tmps.size
 | [],_=>rfl
 | q::l,tmps=>by rw [A2,foldl_size l];simp
def roundD {ι:Type} (Γ:Ctx) (next:ι->Prop) (I:ι->Nat×Hp) (Ls:Sl) (Q:d6):d6:=λex k L H=>match ex with
 | .normal=>∃ y,next y/\Ent Γ k L H (I y).1 [] (I y).2
 | .ret=>∃ k2 H2,Ent Γ k L H k2 [] H2/\Q .ret k2 Ls H2
 | _=>False
theorem Heap.widen {Γ:Ctx} {k:Nat->Prop} {H:Hp} {e:Env} {w:World} {l:Nat} (h:Heap Γ k H e w) (hl:¬ Γ.O l) (hl2:Bnds.B<=l):Heap ⟨Γ.P,Γ.τ,Γ.τok,Γ.O,Γ.w0,λb=>Γ.E0 b∨b=l,Γ.n,Γ.J,Γ.β0,Γ.rd,Γ.pan,Γ.mks,Γ.dr⟩ k H e w where
 top:=h.top
 heap:=h.heap
 ids:=h.ids
 nodup:=h.nodup
 mine b hb:=⟨(h.mine b hb).1.imp .inl id,(h.mine b hb).2⟩
 os:=h.os
 tape:=h.tape
 output:=h.output
 drawn:=h.drawn
 size:=h.size
 block b h1 h2:=h.block b h1 λh=>h2 (.inl h)
 obound b hb:=⟨(h.obound b hb).1,λhx=>hx.elim (h.obound b hb).2 λhx=>hl (hx▸hb)⟩
 tabs:=⟨h.tabs.1,h.tabs.2.1,λb hb=>hb.elim (h.tabs.2.2 b) λhe=>he▸hl2⟩
 jle:=h.jle
 anchor:=h.anchor
theorem Heap.narrow {Γ:Ctx} {k:Nat->Prop} {H:Hp} {e:Env} {w:World} {l:Nat} (h:Heap ⟨Γ.P,Γ.τ,Γ.τok,Γ.O,Γ.w0,λb=>Γ.E0 b∨b=l,Γ.n,Γ.J,Γ.β0,Γ.rd,Γ.pan,Γ.mks,Γ.dr⟩ k H e w) (hl:l ∉ ae e H) (hb:w.heap[l]?=Γ.w0.heap[l]?):Heap Γ k H e w where
 top:=h.top
 heap:=h.heap
 ids:=h.ids
 nodup:=h.nodup
 mine b hm:=⟨(h.mine b hm).1.elim (λhx=>hx.elim .inl λhx=>absurd (hx▸hm) hl) .inr,(h.mine b hm).2⟩
 os:=h.os
 tape:=h.tape
 output:=h.output
 drawn:=h.drawn
 size:=h.size
 block b h1 h2:=by
  by_cases hbl:b=l
  ·subst hbl;exact hb
  ·exact h.block b h1 λh=>h.elim h2 hbl
 obound b hb:=⟨(h.obound b hb).1,λhx=>(h.obound b hb).2 (.inl hx)⟩
 tabs:=h.tabs.sub λ_ hx=>.inl hx
 jle:=h.jle
 anchor:=h.anchor
theorem Heap.owned_loop {Γ:Ctx} {k:Nat->Prop} {H:Hp} {e:Env} {w:World} (h:Heap Γ k H e w) {r:Nat} {o:Loop} (hr:w.heap[r]?=some (Obj.loop o)):r ∉ ae e H:=by
 intro hb;obtain⟨o,h1,h2⟩:=h.owned_cells hb;rw [hr] at h1;cases h1;cases h2
set_option maxHeartbeats 1000000 in
theorem dw_range {P:Program} {τ:List (Nat×TI)} {τok:dc P τ} {O:Nat->Prop} {w0:World} {E0:Nat->Prop} {N J:Nat} {β0:Nat->Nat×Value} {pan:Pan} {k:Nat} {L:Sl} {H:Hp} {Q:d6}
  {g:Operand} {ps:List Tmp} {assign body:Code} {gf:FuncId} {caps:List SV} (xs:List (List SV)) (hg:ai L g = .fn gf caps) (hgo:de g=true) (hseq:SeqD P gf caps xs)
  (hps:∀ x∈xs,ps.length=x.length/\SV.lowL 0 x=true) (hpN:∀ p∈ps,p<N) (Ls:Sl) (hL1:th L Ls) (hL2:keptB L Ls=true)
  {ι:Type} (I:Nat->ι->Nat×Hp) (pre:Nat->ι->Prop) (x0:ι) (p0:pre 0 x0) (hI0:I 0 x0=(k,H))
  (hbody:∀ (i:Nat) (hi:i<xs.length) x,pre i x->∀ O' w' E' β' l,DW ⟨P,τ,τok,O',w',E',N,k,β',some l,cy,false,false⟩ assign (λex k2 L2 H2=>ex = .normal/\∀ O' w' E' β',DW ⟨P,τ,τok,O',w',E',N,k,β',some l,cy,false,false⟩ body
   (roundD ⟨P,τ,τok,O',w',E',N,k,β',some l,cy,false,false⟩ (pre (i+1)) (I (i+1)) Ls Q) k2 L2 H2) (I i x).1 (params ps (xs[i]) Ls) (I i x).2)
  (hdone:∀ y,pre xs.length y->Q .normal (I xs.length y).1 Ls (I xs.length y).2) :
  DW ⟨P,τ,τok,O,w0,E0,N,J,β0,none,pan,true,false⟩ (.rangeFunc g ps.toArray assign body) Q k L H:=by
 intro e a W m;obtain⟨hcall,hseq⟩:=hseq;have hgr:=m.op g (b7 hgo);rw [hg] at hgr;obtain⟨lb,hgv,hlb⟩:=hgr;show (Code.rangeFunc g ps.toArray assign body).wpIn Fence.wide 0 P _ a W;refine wpIn_rangeFunc ?_;intro fn _;obtain⟨rec,hrec⟩:∃ rec:LoopState->Option Code->Loop,rec=λst pe=>{ state:=st,pending:=pe,fn,tmps:=a.tmps,params:=ps.toArray,assign,body,defers:=W.heap.size }:=⟨_,rfl⟩
 obtain⟨W1,hW1⟩:∃ W1,(W.alloc (.deferred (some []))).alloc (.loop (rec .ready none))=W1:=⟨_,rfl⟩;have hD1:W1.heap[W.heap.size]?=some (Obj.deferred (some [])):=by
  rw [<- hW1];exact (Below.heap_alloc _ _ _ (by simp)).trans (World.alloc_heap_new W _)
 obtain⟨l,hl⟩:∃ l,l=W.heap.size+1:=⟨_,rfl⟩;have hL1':W1.heap[l]?=some (Obj.loop (rec .ready none)):=by
  rw [<- hW1,hl];have:=World.alloc_heap_new (W.alloc (.deferred (some []))) (.loop (rec .ready none));rwa [World.size_alloc] at this
 have hb1:Below W.heap.size W W1:=by
  rw [<- hW1];exact ((Below.refl _ W).alloc (Af _) _).alloc (by simp) _
 have hsz1:W1.heap.size=W.heap.size+2:=by rw [<- hW1];simp
 have hk1:KeepsCells W W1:=λb o _ hb=>(hb1.block b (co hb)).trans hb
 refine⟨W.heap.size+1,[{ target:=.collected W.heap.size,args:=#[] }],W1,{ target:=.fn (.func gf) lb.toArray,args:=#[.func (.yield (W.heap.size+1)) #[] #[]] },W1,gf,
  #[.func (.yield (W.heap.size+1)) #[] #[]]++lb.toArray,W1,?_,?_,λ_ _=>trivial,?_,kf (ro:=none),?_⟩
 ·rw [<- hW1,hrec];exact run_enterLoop_outer _ _ _ _ _
 ·simp only [resolve,hgv];simp [go_sem]
 ·simp [invoke,go_sem,wx hcall]
 rw [<- hl];refine callsIn_wide.2 ?_;let Γ1:Ctx:=⟨P,τ,τok,O,W1,λb=>b∈ae e H,N,k,e.an,none,pan,true,false⟩
 have hH1:Heap Γ1 k H e W1:=m.toHeap.rebase hb1.size hk1 (λj hj=>hj);have hlne:Bnds.B<=l:=by have:=m.toHeap.tabsAt.1;omega
 have hlO:¬ O l:=λhO=>by have h1:=(m.obound l hO).1;have h2:=m.size;simp only at h1 h2;omega
 let Γx:Ctx:=⟨P,τ,τok,O,W1,λb=>b∈ae e H∨b=l,N,k,e.an,none,pan,true,false⟩
 let X:Nat->Prop:=λb=>O b∨b∈ae e H
 have hXlt:∀ b,X b->b<W.heap.size:=λb hb=>hb.elim (λh=>Aq (m.obound b h).1 m.size) (m.lt b)
 have hlown:l ∉ ae e H:=λh=>by have:=m.lt l h;omega
 have hslots:∀ (k':Nat) (H':Hp) (e':Env) (W':World),Heap Γx k' H' e' W'->∀ t,Rel (Ctx.X Γx e' H') e' W' (Ls.get t) (a.tmps.getD t undef):=by
  intro k' H' e' W' h t;rcases kept_get Ls hL1 hL2 t with h1|⟨h1,h2⟩
  ·rw [h1];trivial
  ·rw [h1];have hdom:∀ i,e.dom i->e'.dom i/\e'.β i=e.β i:=λi hi=>⟨(h.top i).2 (h.jle i ((m.top i).1 hi)),Env.an_β (h.anchor i ((m.top i).1 hi))⟩
   refine Rel.keep (X:=X) (w:=W) (Ar hb1.size h.size) (λb hb hx=>?_) (λb hb hx=>?_) _ _ (Rel.stab hdom _ _ h2 (m.slot t))
   ·have hb':b<W1.heap.size:=by omega
    exact (h.block b hb' λhE=>hE.elim (λhE=>hx (.inr hE)) λhE=>by omega).trans (hb1.block b hb)
   ·rcases hx with hx|hx
    ·exact .inl hx
    ·rcases (h.mine b hx).1 with h3|h3
     ·exact h3.elim .inr λh3=>by omega
     ·have h3:W1.heap.size<=b:=h3;omega
 have hnarrow:∀ (k':Nat) (H':Hp) (e':Env) (W':World),Heap Γx k' H' e' W'->W'.heap[l]?=some (Obj.loop (rec .ready none))->Heap Γ1 k' H' e' W':=λk' H' e' W' h hlw =>
  Heap.narrow (Γ:=Γ1) (l:=l) h (h.owned_loop hlw) (hlw.trans hL1'.symm)
 have hlive:∀ (k':Nat) (H':Hp) (e':Env) (W':World),Heap Γ1 k' H' e' W'->W'.heap[l]?=some (Obj.loop (rec .ready none)):=λk' H' e' W' h =>
  (h.block l (by show l<W1.heap.size;omega) hlown).trans hL1'
 have hend:∀ (ex:Exit) (k':Nat) (H':Hp) (e':Env) (W':World) (o o':Loop),Heap Γx k' H' e' W'->W'.heap[l]?=some (Obj.loop o)->Q ex k' Ls H' ->
   lift ⟨P,τ,τok,O,w0,E0,N,J,β0,none,pan,true,false⟩ Q ex { a with defers:=[{ target:=.collected W.heap.size,args:=#[] }]++a.defers } (W'.putObj l (.loop o')):=by
  intro ex k' H' e' W' o o' h hlw hq;have hk:KeepsCells W' (W'.putObj l (.loop o')):=nh hlw rfl;have hx:Heap Γx k' H' e' (W'.putObj l (.loop o')):=h.turned (by simp) hk rfl rfl rfl rfl λb _ hE=>World.putObj_heap_other λhbl=>hE (.inr hbl)
  refine .inl ⟨k',Ls,H',e',⟨?_,?_,m.len,hslots _ _ _ _ hx⟩,hq⟩
  ·refine m.toHeap.debase hb1.size hb1.os hb1.tape hb1.output (λb hb _=>hb1.block b (Aq hb m.size)) (show Heap ⟨P,τ,τok,O,W1,λb=>b∈ae e H∨b=l,N,k,e.an,none,pan,true,false⟩ k' H' e' (W'.putObj l (.loop o')) from hx) (λb hb=>?_) ?_
   ·rcases hb with hb|hb
    ·exact (m.mine b hb).1
    ·exact .inr (by have:=m.size;simp only at this ⊢;omega)
   ·rcases Nat.eq_zero_or_pos J with hJ|hJ
    ·simp only;omega
    ·have:=m.jle (J-1) (by simp only;omega)
     have h3:J-1<k:=this;simp only;omega
  ·obtain⟨rs,h1,_,h2,h3⟩:=m.defers;have hold:∀ r,r<W.heap.size->r ∉ ae e H->(W'.putObj l (.loop o')).heap[r]?=W.heap[r]?:=λr hr hn =>
    (hx.block r (by show r<W1.heap.size;omega) λhE=>hE.elim hn λhE=>by omega).trans (hb1.block r hr)
   refine⟨W.heap.size::rs,?_,λh=>(nomatch h),?_,?_⟩
   ·show [_]++a.defers=_;rw [h1];rfl
   ·refine List.nodup_cons.2 ⟨λhm=>?_,h2⟩;have:=co (h3 _ hm).2
    omega
   ·intro r hr;rcases List.mem_cons.1 hr with rfl|hr
    ·refine⟨m.size,?_⟩
     exact (hx.block _ (by show _<W1.heap.size;omega) λhE=>hE.elim (λhE=>by have:=m.lt _ hE;omega) λhE=>by omega).trans hD1
    ·refine⟨(h3 r hr).1,(hold r (co (h3 r hr).2) λho=>m.owned_mark (h3 r hr).2 ho).trans (h3 r hr).2⟩
 have hb0:=hseq X e W1 lb l (λi W'=>∃ x,pre i x/\∃ e',Heap Γ1 (I i x).1 (I i x).2 e' W')
  (λW'=>W'.heap[l]?=some (Obj.loop (rec .done (some .ret)))/\∃ k2 H2 e',Heap Γx (lo k2) H2 e' W'/\Q .ret k2 Ls H2)
  (λb hb=>by have:=hXlt b hb;omega) (hH1.tabs.sub λ_ h=>h.elim)
  (RelL.keep hb1.size (λb hb _=>hb1.block b hb) (λb hb hx=>hx) _ _ hlb)
  ⟨x0,p0,e,by rw [hI0];exact hH1⟩
  (λi W' ⟨x,_,e',h⟩=>⟨h.size,λb hb hx=>h.block b hb λhE=>hx (.inr hE)⟩)
  (λi W' W'' ⟨x,hp,e',h⟩ hb=>⟨x,hp,e',h.below (Beld.no hb)⟩)
  (λW' W'' ⟨h1,k2,H2,e',h2,h3⟩ hb=>⟨(hb.block l (co h1)).trans h1,k2,H2,e',h2.below (Beld.no hb),h3⟩)
  (λW' ⟨_,_,_,_,h,_⟩=>h.size)
  ?_
 ·refine hb0.mono ?_;rintro en W2 ⟨⟨v,rfl⟩,⟨x,hp,e',h⟩|⟨h1,k2,H2,e',h2,h3⟩⟩
  ·have hlw:=hlive _ _ _ _ h;refine⟨none,W2.putObj l (.loop (rec .exhausted none)),?_,?_⟩
   ·have:=run_endLoop (P:=P) hlw (by rw [hrec];simp)
    rw [hrec] at this ⊢;exact this
   ·exact hend .normal _ _ _ _ _ _ (Heap.widen (Γ:=Γ1) (l:=l) h hlO hlne) hlw (hdone x hp)
  ·refine⟨some .ret,W2.putObj l (.loop (rec .exhausted (some .ret))),?_,?_⟩
   ·have:=run_endLoop (P:=P) h1 (by rw [hrec];simp)
    rw [hrec] at this ⊢;exact this
   ·exact wpIn_ret (hend .ret _ _ _ _ _ _ h2 h1 h3)
 ·rintro i hi Wa Wb vs ⟨x,hp,e1,hh1⟩ hbl ⟨e',hvs⟩;have hhb:Heap Γ1 (lo (I i x).1) (I i x).2 e1 Wb:=hh1.below (Beld.no hbl);have hlw:=hlive _ _ _ _ hhb;have hvl:=RelL.length _ _ hvs;obtain⟨hpl,hxl⟩:=hps _ (Ag hi);refine⟨rec .ready none,hlw,by rw [hrec];simp;omega,?_⟩
  rw [hrec];refine roundIn_of_wpIn trivial ?_;show Code.wpIn (jm (some l)) 0 P assign _ _ _;have hdomb:∀ j,j<k->(lo (I i x).1) j:=λj hj=>hhb.jle j hj
  have hA:Heap ⟨P,τ,τok,O,Wb,λb=>b∈ae e1 (I i x).2,N,k,e1.an,some l,cy,false,false⟩ (lo (I i x).1) (I i x).2 e1 Wb:=hhb.rebase (Af _) (λ_ _ _ h=>h) hdomb;have hhx:Heap Γx (lo (I i x).1) (I i x).2 e1 Wb:=Heap.widen (Γ:=Γ1) (l:=l) hhb hlO hlne;have mA:Models ⟨P,τ,τok,O,Wb,λb=>b∈ae e1 (I i x).2,N,k,e1.an,some l,cy,false,false⟩ (lo (I i x).1) (params ps (xs[i]) Ls) (I i x).2 e1
    { tmps:=((ps.toArray.zip vs.toArray).foldl (λt (p,v)=>t.setIfInBounds p v) a.tmps),defers:=[] } Wb:=by
   have hz:(ps.toArray.zip vs.toArray).foldl (λt (p,v)=>t.setIfInBounds p v) a.tmps=(ps.zip vs).foldl (λt (q:Nat×Value)=>t.setIfInBounds q.1 q.2) a.tmps:=by
    rw [List.zip_toArray,List.foldl_toArray]
   refine⟨hA,Marks.nil,?_,?_⟩
   ·show Array.size _=N;rw [hz,foldl_size];exact m.len
   ·intro t;show Rel _ e1 Wb _ (Array.getD _ t undef);rw [hz];refine params_slot ps (xs[i]) vs Ls a.tmps hpl (λp hp=>by rw [m.len];exact hpN p hp) ?_ (hslots _ _ _ _ hhx) t;refine RelL.keep (Af _) (λ_ _ _=>rfl) (λb _ hx=>?_) _ _ (RelL.env _ _ hxl hvs);rcases hx with hx|hx
    ·have h1:=(m.obound b hx).1;have h2:=m.size;have h3:=hh1.size;simp only at h1 h2;have h3:W1.heap.size<=Wa.heap.size:=h3;exact⟨by omega,.inl (.inl hx)⟩
    ·have h1:=hh1.lt b hx;refine⟨h1,?_⟩
     rcases (hh1.mine b hx).1 with h2|h2
     ·exact .inl (.inr h2)
     ·exact .inr h2
  refine wpIn_mono (hbody i hi x hp O Wb _ e1.an l e1 _ Wb mA) ?_;rintro ex a1 w1 (⟨k2,L2,H2,e2,m2,rfl,hB⟩|⟨_,_,_,_,_,_,hE,_⟩);rotate_left
  ·exact hE.elim
  have hlw1:w1.heap[l]?=some (Obj.loop (rec .ready none)):=(m2.block l (co hlw) (hhb.owned_loop hlw)).trans hlw;have hx1:Heap Γx (lo k2) H2 e2 w1:=hhx.debase (wb:=Wb) (Af _) rfl rfl rfl (λ_ _ _=>rfl) (show Heap ⟨P,τ,τok,O,Wb,λb=>b∈ae e1 (I i x).2,N,k,e1.an,some l,cy,false,false⟩ (lo k2) H2 e2 w1 from m2.toHeap) (λb hb=>(hhx.mine b hb).1) (Af _);refine⟨w1.putObj l (.loop { rec .ready none with state:=.busy }),run_beginRound hlw1 (by rw [hrec]),?_⟩
  have hk2:KeepsCells w1 (w1.putObj l (.loop { rec .ready none with state:=.busy })):=nh hlw1 rfl;have hx2:Heap Γx (lo k2) H2 e2 (w1.putObj l (.loop { rec .ready none with state:=.busy })):=hx1.turned (by simp) hk2 rfl rfl rfl rfl λb _ hE=>World.putObj_heap_other λhbl=>hE (.inr hbl)
  generalize hw2:w1.putObj l (.loop { rec .ready none with state:=.busy })=w2 at hk2 hx2 ⊢;have hs12:w1.heap.size<=w2.heap.size:=by rw [<- hw2];simp
  have hlw2:w2.heap[l]?=some (Obj.loop { rec .ready none with state:=.busy }):=by rw [<- hw2];exact World.putObj_heap_same (co hlw1)
  have hB2:Heap ⟨P,τ,τok,O,w2,λb=>b∈ae e2 H2,N,k,e2.an,some l,cy,false,false⟩ (lo k2) H2 e2 w2:=m2.toHeap.rebase hs12 hk2 (λj hj=>m2.jle j hj);have mB:Models ⟨P,τ,τok,O,w2,λb=>b∈ae e2 H2,N,k,e2.an,some l,cy,false,false⟩ (lo k2) L2 H2 e2 a1 w2:=by
   refine⟨hB2,?_,m2.len,λt=>Rel.turned hs12 hk2 _ _ (m2.slot t)⟩
   obtain⟨rs,h1,h0,_,_⟩:=m2.defers;rw [h1,h0 rfl];exact Marks.nil
  show Code.wpIn (jm (some l)) 0 P body _ _ _;refine wpIn_mono (hB _ _ _ _ e2 a1 w2 mB) ?_;have fin:∀ (k3:Nat) (H3:Hp) (e3:Env) (w3:World) (jump:Option Code),Heap ⟨P,τ,τok,O,w2,λb=>b∈ae e2 H2,N,k,e2.an,some l,cy,false,false⟩ k3 H3 e3 w3 ->
    (Instr.endRound l jump).run P w3 = .ok (.bool jump.isNone) (w3.putObj l (.loop (rec (if jump.isNone then .ready else .done) jump)))/\Heap Γx k3 H3 e3 (w3.putObj l (.loop (rec (if jump.isNone then .ready else .done) jump))) /\
    (w3.putObj l (.loop (rec (if jump.isNone then .ready else .done) jump))).heap[l]?=some (Obj.loop (rec (if jump.isNone then .ready else .done) jump)):=by
   intro k3 H3 e3 w3 jump h3;have hlw3:w3.heap[l]?=some (Obj.loop { rec .ready none with state:=.busy }):=(h3.block l (co hlw2) (hx2.owned_loop hlw2)).trans hlw2;refine⟨?_,?_,World.putObj_heap_same (co hlw3)⟩
   ·have:=run_endRound (P:=P) jump hlw3
    rw [hrec] at this ⊢;exact this
   ·have hx3:Heap Γx (lo k3) H3 e3 w3:=hx2.debase (wb:=w2) (Af _) rfl rfl rfl (λ_ _ _=>rfl) (show Heap ⟨P,τ,τok,O,w2,λb=>b∈ae e2 H2,N,k,e2.an,some l,cy,false,false⟩ (lo k3) H3 e3 w3 from h3) (λb hb=>(hx2.mine b hb).1) (Af _);exact hx3.turned (by simp) (nh hlw3 rfl) rfl rfl rfl rfl λb _ hE=>World.putObj_heap_other λhbl=>hE (.inr hbl)
  rintro ex a3 w3 (⟨k3,L3,H3,e3,m3,hq⟩|⟨_,_,_,_,_,_,hE,_⟩);rotate_left
  ·exact hE.elim
  cases ex with
  | normal =>
   obtain⟨y,hy,hent⟩:=hq;obtain⟨e4,m4⟩:=hent _ _ _ m3;obtain⟨f1,f2,f3⟩:=fin _ _ _ _ none m4.toHeap;exact⟨_,_,f1,.inl ⟨rfl,y,hy,e4,hnarrow _ _ _ _ f2 f3⟩⟩
  | ret =>
   obtain⟨k4,H4,hent,hq⟩:=hq;obtain⟨e4,m4⟩:=hent _ _ _ m3;obtain⟨f1,f2,f3⟩:=fin _ _ _ _ (some .ret) m4.toHeap;exact⟨_,_,f1,.inr ⟨rfl,(by rw [show (if (some Code.ret).isNone=true then LoopState.ready else LoopState.done)=LoopState.done from rfl] at f3 ⊢;rw [hrec] at f3 ⊢;exact f3),k4,H4,e4,f2,hq⟩⟩
  | exit id=>exact hq.elim
  | goto t=>exact hq.elim
  | panic ch=>exact hq.elim
  | outgrown=>exact hq.elim
end
section
open Go Go.RowKit
variable [Bnds]
def SV.flat:SV->Bool
 | .val _=>true
 | .junk=>true
 | .d (.int _ _)=>true
 | .d (.bool _)=>true
 | _=>false
theorem Rel.flat {X e w X' e' w'}:∀ (s:SV) (v:Value),s.flat=true->Rel X e w s v->Rel X' e' w' s v
 | .val _,_,_,h=>h
 | .junk,_,_,_=>trivial
 | .d (.int _ _),_,_,h=>by
  have h':RepC _ _ _ _:=h
  cases h' with
  | int g=>exact RepC.int g
 | .d (.bool _),_,_,h=>by
  have h:RepC _ _ _ _:=h
  cases h
  exact RepC.bool
 | .d (.str _),_,h,_=>nomatch h
 | .d (.slice _ _),_,h,_=>nomatch h
 | .nils,_,h,_=>nomatch h
 | .pd _,_,h,_=>nomatch h
 | .loc _ _,_,h,_=>nomatch h
 | .row _,_,h,_=>nomatch h
 | .mp _,_,h,_=>nomatch h
 | .md _ _,_,h,_=>nomatch h
 | .prow _ _ _ _,_,h,_=>nomatch h
 | .sl _ _ _ _,_,h,_=>nomatch h
 | .rsl _ _ _ _,_,h,_=>nomatch h
 | .rg _ _ _,_,h,_=>nomatch h
 | .fn _ _,_,h,_=>nomatch h
 | .agg _,_,h,_=>nomatch h
 | .tup _,_,h,_=>nomatch h
def flatB:Sl->Bool
 | []=>true
 | (_,s)::r=>s.flat && flatB r
theorem flat_get:∀ {L:Sl},flatB L=true->∀ t,(L.get t).flat=true
 | [],_,_=>rfl
 | (d,s)::r,h,t=>by
  simp only [flatB,Ad] at h
  rw [Sl.get_cons]
  split
  ·exact h.1
  ·exact flat_get h.2 t
theorem kepts_get {L:Sl}:∀ {L':Sl},th L L'->∀ t,L'.get t = .junk∨L'.get t=L.get t
 | [],_,_=>.inl rfl
 | (d,s)::r,h,t=>by
  rw [Sl.get_cons]
  split
  ·rename_i hd;subst hd;exact .inr h.1.symm
  ·exact kepts_get h.2 t
structure Flat (N:Nat) (L:Sl) (a:Act):Prop where
 len:a.tmps.size=N
 defers:a.defers=[]
 slot:∀ t X e w,Rel X e w (L.get t) (a.tmps.getD t undef)
abbrev Γit (P:Program) (τ:List (Nat×TI)) (τok:dc P τ) (O:Nat->Prop) (W:World) (N:Nat):Ctx:=⟨P,τ,τok,O,W,λ_=>False,N,0,λ_=>(0,undef),none,cy,false,false⟩
section
variable {P : Program} {τ : List (Nat×TI)} {τok : dc P τ} {O : Nat -> Prop} {N : Nat} {L : Sl}
theorem Flat.models {a:Act} (h:Flat N L a) (W:World) (hO:∀ b,O b->b<W.heap.size) (hn:Tabs P (λ_=>False) W):Models (Γit P τ τok O W N) (lo 0) L [] ⟨λ_=>0,λ_=>undef,lo 0⟩ a W where
 top _:=Iff.rfl
 heap _ hp:=nomatch hp
 ids:=.nil
 nodup:=.nil
 mine _ hb:=nomatch hb
 os:=rfl
 tape:=rfl
 output:=rfl
 drawn h:=nomatch h
 size:=Af _
 block _ _ _:=rfl
 obound b hb:=⟨hO b hb,id⟩
 tabs:=hn
 jle _ hj:=nomatch hj
 anchor _ hj:=nomatch hj
 defers:=by rw [h.defers];exact Marks.nil
 len:=h.len
 slot t:=h.slot t _ _ _
theorem Models.flatten {W:World} {k:Nat->Prop} {H:Hp} {e:Env} {a:Act} {w:World} (m:Models (Γit P τ τok O W N) k L H e a w) {Ls:Sl} (hK:th L Ls) (hf:flatB Ls=true):Flat N Ls a where
 len:=m.len
 defers:=by
  obtain⟨rs,h1,h0,_⟩:=m.defers;rw [h1,h0 rfl];rfl
 slot t X e' w':=by
  have hg:=flat_get hf t;rcases kepts_get hK t with h|h
  ·rw [h];trivial
  ·rw [h] at hg ⊢;exact Rel.flat _ _ hg (m.slot t)
theorem Heap.it_below {W:World} {k:Nat->Prop} {H:Hp} {e:Env} {w:World} (h:Heap (Γit P τ τok O W N) k H e w):Below W.heap.size W w:=⟨h.os,h.tape,h.output,h.size,λb hb=>h.block b hb id⟩
end
section
variable {Γ : Ctx} {k : Nat} {L : Sl} {H : Hp} {K : ca} {ops : List Oper} {rest : List Oper} {x y : Operand} {t ty : TypeId}
theorem ev_val {op:Op} {s:SV} (L2:Sl) (hm:∀ e a w,Models Γ (lo k) L H e a w->Models Γ (lo k) L2 H e a w) (h:Ev Γ (lo k) L2 H op ty s):Ev Γ (lo k) L H op ty s:=λe a w m=>h e a w (hm e a w m)
theorem Models.val_as {e:Env} {a:Act} {w:World} {k:Nat->Prop} (m:Models Γ k L H e a w) (t:Nat) {v:Value} {s:SV} (hv:L.get t = .val v) (hr:Rel (Γ.X e H) e w s v):Models Γ k ((t,s)::L) H e a w where
 toHeap:=m.toHeap
 defers:=m.defers
 len:=m.len
 slot t':=by
  rw [Sl.get_cons];split
  ·rename_i h;subst h;have h1:=m.slot t;rw [hv] at h1;have h1:a.tmps.getD t undef=v:=h1;rw [h1];exact hr
  ·exact m.slot t'
theorem ev_fa_val {s:TypeId} {f off fty sz b o:Nat} {l} (hs:Γ.sh s = .struct l) (hf:l[f]?=some (off,fty,sz)) (hz:Nat.beq sz 0=false) (t:Nat) (hx:L.get t = .val (.pointer (some ⟨b,o,none⟩))) :
  Ev Γ (lo k) L H (.fieldAddr s (.tmp t) f) ty (.val (.pointer (some ⟨b,o+off,none⟩))):=by
 obtain⟨fs,hu,hl⟩:=Ctx.struct hs;subst hl;rw [Bl] at hf;cases hff:fs.toList[f]? with
 | none=>rw [hff] at hf;cases hf
 | some fd =>
  rw [hff] at hf;simp only [Option.map_some,Option.some.injEq,Prod.mk.injEq] at hf;obtain⟨h1,h2,h3⟩:=hf;have hfa:fs[f]?=some fd:=by rw [<- Array.getElem?_toList];exact hff
  have hinf:∃ inf,Γ.P.info? fd.type=some inf/\inf.size≠0:=by
   cases hi:Γ.P.info? fd.type with
   | none=>rw [hi] at h3;exact absurd h3.symm (Bj hz)
   | some inf=>rw [hi] at h3;exact⟨inf,rfl,λh=>Bj hz (by rw [<- h3,<- h];rfl)⟩
  obtain⟨inf,hi,hne⟩:=hinf;intro e A w m;have hA:A.eval (.tmp t) = .pointer (some ⟨b,o,none⟩):=by
   have h1:=m.slot t;rw [hx] at h1;exact h1
  refine⟨_,λdst pos after guard w' _=>?_,rfl⟩
  simp [execOp,Instr.fieldAt,hA,run_underlying hu,hfa,Instr.sureAddr,fieldPlace,cw hi,hne,h1,Addr.add_at]
theorem ev_ld_val {b o:Nat} {u:Value} (t2:Nat) (hkn:(Γ.sh t).known=true) (hg:(Γ.sh t).isAgg=false) (hx:L.get t2 = .val (.pointer (some ⟨b,o,none⟩))) (hc:Γ.w0.cell? ⟨b,o,none⟩=some u) (hE:∀ b,¬ Γ.E0 b) :
  Ev Γ (lo k) L H (.load t (.tmp t2)) ty (.val u):=by
 intro e a w m;have ho:=Sh.known_ne hkn;have hv:a.eval (.tmp t2) = .pointer (some ⟨b,o,none⟩):=by
  have h1:=m.slot t2;rw [hx] at h1;exact h1
 have hb:b<Γ.w0.heap.size:=by
  unfold World.cell? at hc;split at hc
  ·rename_i hh;exact co hh
  ·cases hc
 have hcw:w.cell? ⟨b,o,none⟩=some u:=(World.cell?_of_block (w:=Γ.w0) (m.block b hb (hE b))).trans hc;exact⟨u,λ_ _ _ _ w' hw=>sc ho hg hv (f9 hw hcw) _ _ _ _,rfl⟩
theorem ev_len_val {t':TypeId} {ao:Option Addr} {n:Nat} {cap:Nat} (t2:Nat) (ht:Γ.sh t = .slice t') (hx:L.get t2 = .val (.slice ao n cap)) (hn:n<=maxLen):Ev Γ (lo k) L H (.call { callee:=.builtin .len,args:=#[.tmp t2],argTypes:=#[t] }) ty (.d (.int .i64 n)):=by
 intro e a w m;have hv:a.eval (.tmp t2) = .slice ao n cap:=by
  have h1:=m.slot t2;rw [hx] at h1;exact h1
 refine⟨.int .i64 n,λ_ _ _ _ w' _=>?_,.int (WalkArith.wf_i64 (by unfold maxLen at hn;omega))⟩
 simp [execOp,resolve,invoke,builtin,hv,Builtin.len_,goInt,run_underlying (Ctx.slice ht)]
end
theorem Oper.wp_in2 {ro:Option Nat} {P:Program} {o:Oper} {a:Act} {w:World} {K K':Act->World->Prop} {Q Q':Exit->Act->World->Prop} (hd:∀ c,o.op≠.defer c) (hK:∀ a w,K a w->K' a w)
  (hQ:∀ c a w,Q (.panic c) a w->Q' (.panic c) a w) (hL:¬ LetsOut Q) (h:o.wp P a w K Q):o.wpIn (jm ro) 0 P a w K' Q':=by
 refine⟨λ_ _=>trivial,?_⟩
 rw [Oper.semAt_eq _ _ _ hd];unfold Oper.wp at h;generalize (execOp a.eval o).run P w=r at h;cases r with
 | ok x w' =>
  cases x<;>simp only [Oper.upon,Oper.uponIn] at h ⊢<;>first
   | exact hK _ _ h
   | exact h.elim
   | exact⟨kf,callsIn_wideR (h.mono λe w'' he=>by cases e<;>first|exact hK _ _ he|exact hQ _ _ _ he|exact absurd he hL)⟩
   | exact⟨kf,λc cs _=>let ⟨v,w'',r,s⟩:=h c cs;⟨v,w'',hK _ _ r,stepsIn_wide.2 s⟩⟩
 | halt x w'=>cases x<;>simp only [Oper.upon,Oper.uponIn] at h ⊢<;>first|exact hQ _ _ _ h|exact h
theorem qe {ro:Option Nat} {P:Program} {ops:Array Oper} {Q Q':Exit->Act->World->Prop} (hQ:∀ c a w,Q (.panic c) a w->Q' (.panic c) a w) (hL:¬ LetsOut Q) (post:List Oper)
  (hn:∀ a w,Q .normal a w->wpListIn (jm ro) 0 P ops Q' post a w):∀ (l:List Oper),dd l=true->∀ a w,wpList P ops Q l a w->wpListIn (jm ro) 0 P ops Q' (l++post) a w
 | [],_,a,w,h=>hn a w h
 | o::l,hd,a,w,h=>by
  have hd1:=nc hd o (Ae ..);have hd2:dd l=true:=by simp only [dd,Ad] at hd;exact hd.2
  unfold wpList at h;show wpListIn (jm ro) 0 P ops Q' (o::(l++post)) a w;unfold wpListIn;split at h
  ·rename_i hw;rw [if_pos hw];rcases h with h|h
   ·exact Oper.wp_in2 hd1 (λa w=>qe hQ hL post hn l hd2 a w) hQ hL h
   ·exact absurd h.2 hL
  ·rename_i hw;rw [if_neg hw];exact⟨λ_ _=>trivial,qe hQ hL post hn l hd2 _ _ h⟩
def DWr (Γ:Ctx) (c:Code) (R:Exit->Act->World->Prop) (k:Nat) (L:Sl) (H:Hp):Prop:=∀ e a w,Models Γ (lo k) L H e a w->c.wpIn (jm Γ.rd) 0 Γ.P R a w
def rawQ (Γ:Ctx) (R:Exit->Act->World->Prop):d6:=λex k L H=>∀ e a w,Models Γ (lo k) L H e a w->R ex a w
section
variable {Γ : Ctx} {k : Nat} {L : Sl} {H : Hp} {R : Exit -> Act -> World -> Prop}
theorem dwr_of {c:Code} (hp:Γ.pan=cy) (h:DW Γ c (rawQ Γ R) k L H):DWr Γ c R k L H:=λe a w m=>wpIn_mono (h e a w m) (by
 rintro ex a' w' (⟨k',L',H',e',m',hq⟩|⟨v,_,_,_,_,_,hv,_⟩)
 ·exact hq _ _ _ m'
 ·rw [hp] at hv;exact hv.elim)
theorem rt {x y:Code} (hp:Γ.pan=cy) (h:DW Γ x (dp (DWr Γ y R) (rawQ Γ R)) k L H):DWr Γ (.seq x y) R k L H:=λe a w m=>by
 refine wpIn_seq (wpIn_mono (h e a w m) ?_)
 rintro ex a' w' (⟨k',L',H',e',m',hq⟩|⟨v,_,_,_,_,_,hv,_⟩)
 ·cases ex with
  | normal=>exact hq _ _ _ m'
  | _=>exact hq _ _ _ m'
 ·rw [hp] at hv;exact hv.elim
theorem dwr_run {c:Code} {e:Env} {a:Act} {w:World} (m:Models Γ (lo k) L H e a w) (h:DWr Γ c R k L H):c.wpIn (jm Γ.rd) 0 Γ.P R a w:=h e a w m
theorem dw_run {Q:d6} {c:Code} {e:Env} {a:Act} {w:World} (m:Models Γ (lo k) L H e a w) (h:DW Γ c Q k L H):c.wpIn (jm Γ.rd) 0 Γ.P (lift Γ Q) a w:=h e a w m
end
section
variable {Γ : Ctx} {k : Nat} {L : Sl} {H : Hp} {R : Exit -> Act -> World -> Prop}
theorem dwr_seqR {x y:Code} (h:DWr Γ x (Exit.then (y.wpIn (jm Γ.rd) 0 Γ.P R) R) k L H):DWr Γ (.seq x y) R k L H:=λe a w m=>wpIn_seq (h e a w m)
theorem dwr_block {id:Nat} {c:Code} (h:DWr Γ c (Exit.inBlock id R) k L H):DWr Γ (.block id c) R k L H:=λe a w m=>wpIn_block (h e a w m)
end
abbrev Oit (X:Nat->Prop) (W0 W:World):Nat->Prop:=λb=>b<W.heap.size/\(X b∨W0.heap.size<=b)
theorem it_rel {P:Program} {τ:List (Nat×TI)} {τok:dc P τ} {N:Nat} {X:Nat->Prop} {W0 W:World} (hs:W0.heap.size<=W.heap.size) (hfr:∀ b,b<W0.heap.size->¬ X b->W.heap[b]?=W0.heap[b]?)
  {s:SV} {v:Value} {e0:Env} (hlow:s.low 0=true) (h:Rel X e0 W0 s v) {k:Nat->Prop} {H:Hp} {e:Env} {w:World} (hh:Heap (Γit P τ τok (Oit X W0 W) W N) k H e w):Rel (Ctx.X (Γit P τ τok (Oit X W0 W) W N) e H) e w s v:=by
 have hb:=hh.it_below;refine Rel.keep (Ar hs hb.size) (λb hb1 hx=>(hb.block b (Aq hb1 hs)).trans (hfr b hb1 hx)) (λb hb1 hx=>?_) _ _ (Rel.env _ _ hlow h);rcases hx with hx|hx
 ·rcases hx.2 with h1|h1
  ·exact h1
  ·omega
 ·rcases (hh.mine b hx).1 with h1|h1
  ·exact h1.elim
  ·have h1:W.heap.size<=b:=h1;omega
theorem ent_freeze {Γ:Ctx} {k:Nat} {L:Sl} {H:Hp} (t i:Nat) {f:FuncId} {ty:TypeId} {ds:List D} (hL:L.get t = .fn f [.loc i 0]) (hH:Hp.get H i=some (.blk ty (ds.map .d))):Ent Γ k L H k ((t,.fn f [.pd ds])::L) (Hp.del H i):=by
 intro e a w m;obtain⟨m2,hX⟩:=m.del i;have hmem:=Hp.mem_of hH;refine⟨e,m2.toHeap,m2.defers,m2.len,λt'=>?_⟩
 rw [Sl.get_cons];split
 ·rename_i ht;subst ht;have hs:=m.slot t;rw [hL] at hs;obtain⟨vs,h1,h2⟩:=hs;refine⟨vs,h1,?_⟩
  match vs,h2 with
  | [v],⟨⟨_,hv⟩,_⟩ =>
   refine⟨?_,trivial⟩
   obtain⟨us,g1,g2,_⟩:=(m.heap _ hmem).2;have hown:HB.owned e (i,.blk ty (ds.map .d))=some (e.β i):=rfl;refine⟨e.β i,0,hv,co g1,λhx=>?_,λj hj=>?_⟩
   ·rcases hx with hx|hx
    ·exact (m.mine _ (List.mem_filterMap.2 ⟨_,hmem,hown⟩)).2 hx
    ·obtain⟨p,hp,hpg⟩:=List.mem_filterMap.1 hx;have hd:=Hp.del_mem (i:=i) H m.ids p hp;exact m.owned_ne hd.1 hmem hd.2 hpg hown
   ·obtain⟨u,g3,g4⟩:=RelL.get _ _ g2 j (.d ds[j]) (by rw [Bl,Ab hj];rfl);refine⟨u,?_,RepC.keep (Af _) (λ_ _ _=>rfl) (λb _ h=>hX b h) g4⟩
    rw [cell_of_row w _ _ _ ty (0,0) g1,Nat.zero_add];simpa using g3
 ·exact m2.slot t'
theorem dwr_yield {P:Program} {τ:List (Nat×TI)} {τok:dc P τ} {O:Nat->Prop} {W:World} {N:Nat} {k:Nat} {L:Sl} {H:Hp} {R:Exit->Act->World->Prop}
  {id l d:Nat} {xs:List Operand} {ts:Array TypeId} {ty:TypeId} {pos:String} {af:Array Edge} {pre post:List Oper} {fy:Nat} (hn:dd pre=true) (hnp:dd post=true) (hdN:d<N) (Lf:Sl) (hf:flatB Lf=true) (Lp:Bool->Sl)
  (J' Jx:World->Prop)
  (hpre:DL (Γit P τ τok O W N) (pre++⟨some d,.call { callee:=.value (.tmp fy),args:=xs.toArray,argTypes:=ts },ty,pos,af,none⟩::post) pre (λ_ L' _=>L'.get fy = .val (.func (.yield l) #[] #[])/\dy xs=true/\th L' Lf /\
   ∀ e W' vs,Below W.heap.size W W'->RelL O e W' (mz L' xs) vs->∃ r:Loop,W'.heap[l]?=some (Obj.loop r)/\vs.toArray.size=r.params.size /\
    RoundIn Fence.wide 0 P l r.fn ((r.params.zip vs.toArray).foldl (λt (p,v)=>t.setIfInBounds p v) r.tmps) r.assign r.body W'
     (λen W''=>(en = .returned (.bool true)/\J' W'')∨(en = .returned (.bool false)/\Jx W''))) k L H)
  (hpost:∀ (b:Bool) (W':World),DL (Γit P τ τok (λ_=>False) W' N) (pre++⟨some d,.call { callee:=.value (.tmp fy),args:=xs.toArray,argTypes:=ts },ty,pos,af,none⟩::post) post (λ_ L' H'=>H'=[]/\th L' (Lp b)/\flatB (Lp b)=true) 0 ((d,.d (.bool b))::Lf) [])
  (hR:∀ (b:Bool) a' W',Flat N (Lp b) a'->(∃ W1,Below W1.heap.size W1 W'/\((b=true/\J' W1)∨(b=false/\Jx W1)))->R .normal a' W') (hng:∀ W1,J' W1∨Jx W1->Tabs P (λ_=>False) W1) :
  DWr (Γit P τ τok O W N) (.region id (pre++⟨some d,.call { callee:=.value (.tmp fy),args:=xs.toArray,argTypes:=ts },ty,pos,af,none⟩::post).toArray false) R k L H:=by
 intro e a w m;refine wpIn_region_lit ?_;refine qe (Q:=lift (Γit P τ τok O W N) (fx _)) ?_ jg _ ?_ pre hn a w (hpre e a w m)
 ·rintro c a' w' (⟨_,_,_,_,_,hx,_⟩|⟨_,_,_,_,_,_,hv,_⟩)
  ·cases hx
  ·exact hv.elim
 rintro a' w' (⟨k',L',H',e',m',_,hy,hok,hkf,hround⟩|⟨_,_,_,_,_,hx,_⟩);rotate_left
 ·cases hx
 have hfl:=m'.flatten hkf hf;unfold wpListIn;rw [if_pos (by rfl)];refine⟨λ_ _=>trivial,?_⟩
 rw [Oper.semAt_eq _ _ _ (by intro c h;cases h)];have hyv:a'.eval (.tmp fy) = .func (.yield l) #[] #[]:=by
  have h1:=m'.slot fy;rw [hy] at h1;exact h1
 have hb:=m'.toHeap.it_below;obtain⟨r,h1,h2,h3⟩:=hround e' w' (xs.map a'.eval) hb (RelL.keep (Af _) (λ_ _ _=>rfl) (λb _ hx=>.inl hx) _ _ (e7 m' xs hok));have hrun:(execOp a'.eval ⟨some d,.call { callee:=.value (.tmp fy),args:=xs.toArray,argTypes:=ts },ty,pos,af,none⟩).run P w' =
   .ok (.round l r.fn ((r.params.zip (xs.map a'.eval).toArray).foldl (λt (p,v)=>t.setIfInBounds p v) r.tmps) r.assign r.body) w':=by
  simp only [execOp,resolve];simp only [hyv];have:=run_yield (P:=P) (w:=w') h1 h2
  simp [Deferred.ofValue,invoke,this]
 rw [hrun];rw [Oper.uponIn_round];refine⟨kf,h3.mono ?_⟩
 have fin:∀ (b:Bool) W1,((b=true/\J' W1)∨(b=false/\Jx W1))->wpListIn (jm none) 0 P (pre++⟨some d,.call { callee:=.value (.tmp fy),args:=xs.toArray,argTypes:=ts },ty,pos,af,none⟩::post).toArray R post (a'.put (some d) (.bool b)) W1:=by
  intro b W1 hj;have m2:Models (Γit P τ τok (λ_=>False) W1 N) (lo 0) ((d,.d (.bool b))::Lf) [] ⟨λ_=>0,λ_=>undef,lo 0⟩ (a'.put (some d) (.bool b)) W1 :=
   (hfl.models W1 (λ_ h=>h.elim) (hng W1 (hj.imp And.right And.right))).put (s:=.d (.bool b)) hdN RepC.bool
  have:=qe (ro:=none) (Q:=lift (Γit P τ τok (λ_=>False) W1 N) (fx _)) (Q':=R) ?_ jg [] ?_ post hnp _ _ (hpost b W1 _ _ _ m2)
  ·rw [B0] at this;exact this
  ·rintro c a' w' (⟨_,_,_,_,_,hx,_⟩|⟨_,_,_,_,_,_,hv,_⟩)
   ·cases hx
   ·exact hv.elim
  ·rintro a3 w3 (⟨k3,L3,H3,e3,m3,_,rfl,hk3,hf3⟩|⟨_,_,_,_,_,hx,_⟩)
   ·exact hR b a3 w3 (m3.flatten hk3 hf3) ⟨W1,m3.toHeap.it_below,hj⟩
   ·cases hx
 rintro en W1 (⟨rfl,hj⟩|⟨rfl,hj⟩)
 ·exact fin true W1 (.inl ⟨rfl,hj⟩)
 ·exact fin false W1 (.inr ⟨rfl,hj⟩)
theorem dwr_yieldL {P:Program} {τ:List (Nat×TI)} {τok:dc P τ} {O:Nat->Prop} {W:World} {N:Nat} {k:Nat} {L:Sl} {H:Hp} {R:Exit->Act->World->Prop}
  {id l d:Nat} {xs:List Operand} {ts:Array TypeId} {ty:TypeId} {pos:String} {af:Array Edge} {ops pre post:List Oper} {fy:Nat} (hl:ops=pre++⟨some d,.call { callee:=.value (.tmp fy),args:=xs.toArray,argTypes:=ts },ty,pos,af,none⟩::post)
  (hn:dd pre=true) (hnp:dd post=true) (hdN:Nat.blt d N=true) (Lf:Sl) (hf:flatB Lf=true) (Lp:Bool->Sl)
  (J' Jx:World->Prop)
  (hpre:DS false (Γit P τ τok O W N) ops pre (λ_ L' _=>L'.get fy = .val (.func (.yield l) #[] #[])/\dy xs=true/\th L' Lf /\
   ∀ e W' vs,Below W.heap.size W W'->RelL O e W' (mz L' xs) vs->∃ r:Loop,W'.heap[l]?=some (Obj.loop r)/\vs.toArray.size=r.params.size /\
    RoundIn Fence.wide 0 P l r.fn ((r.params.zip vs.toArray).foldl (λt (p,v)=>t.setIfInBounds p v) r.tmps) r.assign r.body W'
     (λen W''=>(en = .returned (.bool true)/\J' W'')∨(en = .returned (.bool false)/\Jx W''))) k L H)
  (hpost:∀ (b:Bool) (W':World),DS false (Γit P τ τok (λ_=>False) W' N) ops post (λ_ L' H'=>H'=[]/\th L' (Lp b)/\flatB (Lp b)=true) 0 ((d,.d (.bool b))::Lf) [])
  (hR:∀ (b:Bool) a' W',Flat N (Lp b) a'->(∃ W1,Below W1.heap.size W1 W'/\((b=true/\J' W1)∨(b=false/\Jx W1)))->R .normal a' W') (hng:∀ W1,J' W1∨Jx W1->Tabs P (λ_=>False) W1) :
  DWr (Γit P τ τok O W N) (.region id ops.toArray false) R k L H:=by
 subst hl;exact dwr_yield hn hnp (Nat.le_of_ble_eq_true hdN) Lf hf Lp J' Jx hpre hpost hR hng
variable [Bnds]
theorem FnP.imp {dr:Bool} {P:Program} {τ:List (Nat×TI)} {τok:dc P τ} {f:FuncId} {args:List SV} {R R':SV->Prop} (h:FnP dr P τ τok f args R) (g:∀ r,R r->R' r):FnP dr P τ τok f args R' :=
 ⟨h.1,λO e w vs hH hr=>(h.2 O e w vs hH hr).mono λ_ _ ⟨k',r,H',e',v,⟨a,b,c⟩,d⟩=>⟨k',r,H',e',v,⟨a,b,g r c⟩,d⟩⟩
attribute [local irreducible] DW DS DL DQ Ev FnOk FnP dp bh DT
theorem keepSO_fn (l:List Fct) (g:FuncId) (caps:List SV) (pr:Fct->Bool) (hlow:SV.lowL 0 caps=true) (hl:l.length<=4398046511104) (hargs:∀ x∈l,x.args.length<=17592186044416) (hg:∀ x∈l,Fn g ([c9 x]++caps) (λr=>r = .d (.bool (pr x)))) :
  Fn 73 [.d (.slice 2 (l.map aa)),.fn g caps] (λr=>r = .d (.own Bnds.B (.slice 2 ((av (l.filter pr)).map aa)))) :=
 FnP.imp (keepO_fn l g caps pr hlow hl hargs hg) λr ⟨s,h1,h2,h3⟩=>by rw [h3,keep_set h1 h2]
theorem yn (l:List Fct) (hl:l.length<=4398046511104) (hargs:∀ x∈l,x.args.length<=17592186044416):Fn 26 [.d (.slice 2 (l.map aa))] (λr=>r = .d (.own Bnds.B (.slice 2 ((av l).map aa)))):=by
 refine fqE Tryz.func26 ?_;intro O w0 E0 β0;have hk:=keepSO_fn l 74 [] (λ_=>true) rfl hl hargs (λx _=>setAny_fn x);rw [show l.filter (λ_=>true)=l from List.filter_eq_self.2 λ_ _=>rfl] at hk;repeat' (first|refine zr ?_|refine z21 ?_ (hc:=by apply hk)|fail)
 exact⟨.inl rfl,_,rfl,rfl,rfl⟩
theorem set_fn (l:List Fct) (hl:l.length<=4398046511104) (hargs:∀ x∈l,x.args.length<=17592186044416):Fn 26 [.d (.slice 2 (l.map aa))] (λr=>r = .d (.slice 2 ((av l).map aa))):=(yn l hl hargs).unown
theorem has1_fn (x f:Fct):Fn 107 [c9 x,.pd (aa f)] (λr=>r = .d (.bool (decide (cu x f=0)))):=by
 refine fqE Tryz.func107 ?_;intro O w0 E0 β0;have hs:=rsame_fn x f;repeat' (first|refine zr ?_|refine z21 ?_ (hc:=by apply hs)|fail)
 exact⟨.inl rfl,_,rfl,rfl,rfl⟩
theorem has_fn (l:List Fct) (f:Fct):Fn 53 [.d (.slice 2 (l.map aa)),c9 f] (λr=>r = .d (.bool (hasF l f))):=by
 refine fqE Tryz.func53 ?_;intro O w0 E0 β0;have hc:=containsFuncFct_fn (f:=107) (caps:=[.pd (aa f)]) (λx=>decide (cu x f=0)) l rfl (λx _=>has1_fn x f);repeat' (first|refine zs ?_|fail)
 refine jw (ent_freeze (ds:=aa f) 6 0 rfl rfl) ?_;repeat' (first|refine zr ?_|refine z21 ?_ (hc:=by apply hc)|fail)
 exact⟨.inl rfl,_,rfl,rfl,rfl⟩
theorem minus1_fn (m:List Fct) (x:Fct) (hm:m.length<=4398046511104) (hs:Strict m):Fn 76 [c9 x,.pd [.slice 2 (m.map aa)]] (λr=>r = .d (.bool (!hasF m x))):=by
 refine fqE Tryz.func76 ?_;intro O w0 E0 β0;have hi:=in_fn m x hm hs;repeat' (first|refine zr ?_|refine z21 ?_ (hc:=by apply hi)|fail)
 exact⟨.inl rfl,_,rfl,rfl,rfl⟩
theorem sk (l m:List Fct) (hl:l.length<=4398046511104) (hm:m.length<=4398046511104) (ha:∀ x∈l,x.args.length<=17592186044416) (hb:∀ x∈m,x.args.length<=17592186044416) :
  Fn 28 [.d (.slice 2 (l.map aa)),.d (.slice 2 (m.map aa))] (λr=>r = .d (.own Bnds.B (.slice 2 ((av (l.filter λx=>!hasF (av m) x)).map aa)))):=by
 refine fqE Tryz.func28 ?_;intro O w0 E0 β0;have h1:=set_fn m hm hb;have hsl:(av m).length<=4398046511104:=by have:=sa m [];simp at this;unfold av;omega
 have hk:=keepSO_fn l 76 [.pd [.slice 2 ((av m).map aa)]] (λx=>!hasF (av m) x) rfl hl ha (λx _=>minus1_fn (av m) x hsl (a8 m).1);repeat' (first|refine zs ?_|refine z21 ?_ (hc:=by apply h1)|fail)
 refine jw (ent_freeze (ds:=[.slice 2 ((av m).map aa)]) 9 0 rfl rfl) ?_;repeat' (first|refine zr ?_|refine z21 ?_ (hc:=by apply hk)|fail)
 exact⟨.inl rfl,_,rfl,rfl,rfl⟩
theorem minus_fn (l m:List Fct) (hl:l.length<=4398046511104) (hm:m.length<=4398046511104) (ha:∀ x∈l,x.args.length<=17592186044416) (hb:∀ x∈m,x.args.length<=17592186044416) :
  Fn 28 [.d (.slice 2 (l.map aa)),.d (.slice 2 (m.map aa))] (λr=>r = .d (.slice 2 ((av (l.filter λx=>!hasF (av m) x)).map aa))):=(sk l m hl hm ha hb).unown
variable [Bnds]
def minI (n y:Int):Int:=if y<n then y else n
def maxI (n y:Int):Int:=if n<y then y else n
def minL:List Int->Int
 | []=>0
 | x::l=>l.foldl minI x
def maxL:List Int->Int
 | []=>0
 | x::l=>l.foldl maxI x
def di (fold:Int) (st:Int×Int) (x:Int):Int×Int :=
 (if fold=1 then st.2+1 else if fold=2 then st.1+x else if st.2+1=1∨(fold=3/\x<st.1)∨(fold=4/\st.1<x) then x else st.1,st.2+1)
def pp (fold:Int) (l:List Int):Int:=(l.foldl (di fold) (0,0)).1
def valP (fold:Int) (l:List Int):Int:=if fold=1 then l.length else if fold=3 then minL l else if fold=4 then maxL l else l.sum
def okP (fold:Int) (l:List Int):Bool:=if fold=1∨fold=3∨fold=4 then true else numB l.sum
theorem stepN_1:∀ (l:List Int) (n m:Int),l≠[]->(l.foldl (di 1) (n,m)).1=m+l.length
 | [x],n,m,_=>by simp [di]
 | x::y::l,n,m,_=>by
  rw [A2,show di 1 (n,m) x=(m+1,m+1) by simp [di],stepN_1 (y::l) _ _ (by simp)]
  simp only [List.length_cons];omega
theorem stepN_2:∀ (l:List Int) (n m:Int),(l.foldl (di 2) (n,m)).1=n+l.sum
 | [],n,m=>by simp
 | x::l,n,m=>by
  rw [A2,show di 2 (n,m) x=(n+x,m+1) by simp [di],stepN_2 l,List.sum_cons];omega
theorem stepN_3:∀ (l:List Int) (n m:Int),1<=m->(l.foldl (di 3) (n,m)).1=l.foldl minI n
 | [],n,m,_=>rfl
 | x::l,n,m,hm=>by
  have:di 3 (n,m) x=(minI n x,m+1):=by
   unfold di minI;have:¬ (m+1=1):=by omega
   simp [this]
  rw [A2,this,stepN_3 l _ _ (by omega),A2]
theorem stepN_4:∀ (l:List Int) (n m:Int),1<=m->(l.foldl (di 4) (n,m)).1=l.foldl maxI n
 | [],n,m,_=>rfl
 | x::l,n,m,hm=>by
  have:di 4 (n,m) x=(maxI n x,m+1):=by
   unfold di maxI;have:¬ (m+1=1):=by omega
   simp [this]
  rw [A2,this,stepN_4 l _ _ (by omega),A2]
theorem minI_in {P:Int->Prop}:∀ (l:List Int) (n:Int),P n->(∀ x∈l,P x)->P (l.foldl minI n)
 | [],_,h,_=>h
 | x::l,n,h,hl=>by
  rw [A2]
  refine minI_in l _ ?_ λy hy=>hl y (Ah _ hy)
  unfold minI;split
  ·exact hl x (Ae ..)
  ·exact h
theorem maxI_in {P:Int->Prop}:∀ (l:List Int) (n:Int),P n->(∀ x∈l,P x)->P (l.foldl maxI n)
 | [],_,h,_=>h
 | x::l,n,h,hl=>by
  rw [A2]
  refine maxI_in l _ ?_ λy hy=>hl y (Ah _ hy)
  unfold maxI;split
  ·exact hl x (Ae ..)
  ·exact h
theorem numB_of {n:Int} (h:-1000000<=n/\n<=1000000):numB n=true:=by unfold numB inR;simp;omega
theorem fold_same {fold:Int} {l:List Int} (hf:fold=1∨fold=2∨fold=3∨fold=4) (hl:l≠[]) (hn:∀ x∈l,-1000000<=x/\x<=1000000) (hlen:l.length<=1000000) :
  pp fold l=valP fold l/\numB (pp fold l)=okP fold l:=by
 have key:pp fold l=valP fold l:=by
  unfold pp valP;rcases hf with rfl|rfl|rfl|rfl
  ·rw [stepN_1 l _ _ hl];simp
  ·rw [stepN_2];simp
  ·obtain⟨x,l,rfl⟩:=Dw hl;rw [A2,show di 3 (0,0) x=(x,1) by simp [di],stepN_3 _ _ _ (by omega)];simp [minL]
  ·obtain⟨x,l,rfl⟩:=Dw hl;rw [A2,show di 4 (0,0) x=(x,1) by simp [di],stepN_4 _ _ _ (by omega)];simp [maxL]
 refine⟨key,?_⟩
 rw [key];unfold valP okP;rcases hf with rfl|rfl|rfl|rfl
 ·simp only [if_true,true_or];exact numB_of (by omega)
 ·simp
 ·obtain⟨x,l,rfl⟩:=Dw hl;simp only [show ¬ ((3:Int)=1) by omega,if_false,if_true,true_or,or_true];exact numB_of (minI_in (P:=λz=>-1000000<=z/\z<=1000000) l x (hn x (Ae ..)) λy hy=>hn y (Ah _ hy))
 ·obtain⟨x,l,rfl⟩:=Dw hl;simp only [show ¬ ((4:Int)=1) by omega,show ¬ ((4:Int)=3) by omega,if_false,if_true,or_true];exact numB_of (maxI_in (P:=λz=>-1000000<=z/\z<=1000000) l x (hn x (Ae ..)) λy hy=>hn y (Ah _ hy))
abbrev Gr:=List Int×List Int
def k6 (ws:List (List Int×Int)) (p:List Int):List Int:=(ws.filter λw=>decide (w.1=p)).map (·.2)
def addG (gs:List Gr) (w:List Int×Int):List Gr:=match gs[gs.findIdx λg=>decide (g.1=w.1)]? with
 | some g=>gs.set (gs.findIdx λg=>decide (g.1=w.1)) (g.1,g.2++[w.2])
 | none=>gs++[(w.1,[w.2])]
def uo (ws:List (List Int×Int)):List Gr:=ws.foldl addG []
structure InvG (gs:List Gr) (ws:List (List Int×Int)):Prop where
 uniq:∀ (j k:Nat) (g h:Gr),gs[j]?=some g->gs[k]?=some h->g.1=h.1->j=k
 vals:∀ g∈gs,g.2=k6 ws g.1
 here:∀ g∈gs,∃ w∈ws,w.1=g.1
 all:∀ w∈ws,∃ g∈gs,g.1=w.1
theorem grpL_snoc (ws:List (List Int×Int)) (w:List Int×Int) (p:List Int):k6 (ws++[w]) p=k6 ws p++if w.1=p then [w.2] else []:=by
 unfold k6;rw [C3,Av];congr 1;by_cases h:w.1=p
 ·simp [h]
 ·simp [h]
theorem grpL_none {ws:List (List Int×Int)} {p:List Int} (h:∀ w∈ws,w.1≠p):k6 ws p=[]:=by
 unfold k6;rw [List.filter_eq_nil_iff.2 λw hw=>by simpa using h w hw];rfl
theorem addG_inv {gs:List Gr} {ws:List (List Int×Int)} {w:List Int×Int} (h:InvG gs ws):InvG (addG gs w) (ws++[w]):=by
 unfold addG;cases hx:gs[gs.findIdx λg=>decide (g.1=w.1)]? with
 | none =>
  have hn:∀ g∈gs,g.1≠w.1:=by
   intro g hg he;have:=List.findIdx_lt_length_of_exists (xs:=gs) (p:=λg=>decide (g.1=w.1)) ⟨g,hg,decide_eq_true he⟩
   rw [Ab this] at hx;cases hx
  refine⟨λj k g g' hj hk he=>?_,λg hg=>?_,λg hg=>?_,λx hx=>?_⟩
  ·rw [List.getElem?_append] at hj hk;by_cases h1:j<gs.length<;>by_cases h2:k<gs.length
   ·rw [if_pos h1] at hj;rw [if_pos h2] at hk;exact h.uniq j k g g' hj hk he
   ·rw [if_pos h1] at hj;rw [if_neg h2] at hk;have hg':g'=(w.1,[w.2]):=by
     by_cases h3:k-gs.length=0
     ·rw [h3] at hk;simpa using hk.symm
     ·rw [Ba (by simp;omega)] at hk;cases hk
    rw [hg'] at he;exact absurd he (hn g (B5 hj))
   ·rw [if_neg h1] at hj;rw [if_pos h2] at hk;have hg':g=(w.1,[w.2]):=by
     by_cases h3:j-gs.length=0
     ·rw [h3] at hj;simpa using hj.symm
     ·rw [Ba (by simp;omega)] at hj;cases hj
    rw [hg'] at he;exact absurd he.symm (hn g' (B5 hk))
   ·rw [if_neg h1] at hj;rw [if_neg h2] at hk;have h3:j-gs.length=0:=by
     apply A1;intro h3;rw [Ba (by simp;omega)] at hj;cases hj
    have h4:k-gs.length=0:=by
     apply A1;intro h4;rw [Ba (by simp;omega)] at hk;cases hk
    omega
  ·rw [grpL_snoc];rcases List.mem_append.1 hg with hg|hg
   ·rw [if_neg (Ne.symm (hn g hg)),B0];exact h.vals g hg
   ·rw [A5] at hg;subst hg;rw [if_pos rfl,grpL_none λx hx he=>?_];· rfl
    obtain⟨g,hg,hge⟩:=h.all x hx;exact hn g hg (hge.trans he)
  ·rcases List.mem_append.1 hg with hg|hg
   ·obtain⟨x,h1,h2⟩:=h.here g hg;exact⟨x,A0 _ h1,h2⟩
   ·rw [A5] at hg;subst hg;exact⟨w,B7 _ (by simp),rfl⟩
  ·rcases List.mem_append.1 hx with hx|hx
   ·obtain⟨g,h1,h2⟩:=h.all x hx;exact⟨g,A0 _ h1,h2⟩
   ·rw [A5] at hx;subst hx;exact⟨_,B7 _ (List.mem_singleton.2 rfl),rfl⟩
 | some g0 =>
  obtain⟨hi,hg0⟩:=List.getElem?_eq_some_iff.1 hx;have hk0:g0.1=w.1:=by
   have:=List.findIdx_getElem (xs:=gs) (p:=λg=>decide (g.1=w.1)) (w:=hi)
   rw [hg0] at this;exact of_decide_eq_true this
  simp only;generalize gs.findIdx (λg=>decide (g.1=w.1))=i at hx hi hg0;have hget:∀ (j:Nat) (g:Gr),(gs.set i (g0.1,g0.2++[w.2]))[j]?=some g->∃ g',gs[j]?=some g'/\g.1=g'.1/\((j=i/\g=(g0.1,g0.2++[w.2]))∨(j≠i/\g=g')):=by
   intro j g hj;by_cases hq:i=j
   ·subst hq;rw [By hi] at hj;cases hj;exact⟨g0,hx,rfl,.inl ⟨rfl,rfl⟩⟩
   ·rw [Cf hq] at hj;exact⟨g,hj,rfl,.inr ⟨Ne.symm hq,rfl⟩⟩
  refine⟨λj k g g' hj hk he=>?_,λg hg=>?_,λg hg=>?_,λx hx'=>?_⟩
  ·obtain⟨a,a1,a2,_⟩:=hget j g hj;obtain⟨b,b1,b2,_⟩:=hget k g' hk;exact h.uniq j k a b a1 b1 (a2.symm.trans (he.trans b2))
  ·obtain⟨j,hj⟩:=Ez hg;obtain⟨a,a1,a2,a3⟩:=hget j g hj;rw [grpL_snoc];rcases a3 with ⟨rfl,rfl⟩|⟨a3,rfl⟩
   ·rw [if_pos hk0.symm];simp only;rw [h.vals g0 (B5 hx)]
   ·rw [if_neg λhe=>a3 (h.uniq j i g g0 a1 hx (he.symm.trans hk0.symm)),B0];exact h.vals g (B5 a1)
  ·obtain⟨j,hj⟩:=Ez hg;obtain⟨a,a1,a2,_⟩:=hget j g hj;obtain⟨x,h1,h2⟩:=h.here a (B5 a1);exact⟨x,A0 _ h1,h2.trans a2.symm⟩
  ·have hmem:∀ a∈gs,∃ g∈gs.set i (g0.1,g0.2++[w.2]),g.1=a.1:=by
    intro a ha;obtain⟨j,hj⟩:=Ez ha;by_cases hq:i=j
    ·subst hq;rw [hx] at hj;cases hj;exact⟨_,B5 (By hi),rfl⟩
    ·exact⟨a,B5 ((Cf hq).trans hj),rfl⟩
   rcases List.mem_append.1 hx' with hx'|hx'
   ·obtain⟨a,h1,h2⟩:=h.all x hx';obtain⟨g,k1,k2⟩:=hmem a h1;exact⟨g,k1,k2.trans h2⟩
   ·rw [A5] at hx';subst hx';obtain⟨g,k1,k2⟩:=hmem g0 (B5 hx);exact⟨g,k1,k2.trans hk0⟩
theorem groups_inv':∀ (ws vs:List (List Int×Int)) (gs:List Gr),InvG gs vs->InvG (ws.foldl addG gs) (vs++ws)
 | [],vs,gs,h=>by rw [B0];exact h
 | w::ws,vs,gs,h=>by
  have:=groups_inv' ws (vs++[w]) (addG gs w) (addG_inv h)
  rw [List.append_assoc] at this
  exact this
theorem groups_inv (ws:List (List Int×Int)):InvG (uo ws) ws:=by
 have:=groups_inv' ws [] [] ⟨λ_ _ _ _ h=>by simp at h,λ_ h=>by simp at h,λ_ h=>by simp at h,λ_ h=>by simp at h⟩
 rw [List.nil_append] at this;exact this
def aW (r:Rul) (w:List Int):List Int:=r.terms.map (vA w)
def pW (r:Rul) (w:List Int):List Int×Int:=((aW r w).take (r.terms.length-1),(aW r w).getD (r.terms.length-1) 0)
def ep (r:Rul) (ways:List (List Int)):List Fct:=if r.fold=0 then ways.map λw=>⟨r.pred,aW r w⟩
 else ways.filterMap λw=>if numB (pp r.fold (k6 (ways.map (pW r)) (pW r w).1)) then some ⟨r.pred,(pW r w).1++[pp r.fold (k6 (ways.map (pW r)) (pW r w).1)]⟩ else none
def headsP (r:Rul) (ways:List (List Int)):List Fct:=if r.fold=0 then ways.map λw=>⟨r.pred,aW r w⟩
 else (uo (ways.map (pW r))).filterMap λg=>if okP r.fold g.2 then some ⟨r.pred,g.1++[valP r.fold g.2]⟩ else none
theorem heads_mem {r:Rul} {ways:List (List Int)} (hf:0<=r.fold/\r.fold<=4) (hn:∀ w∈ways,-1000000<=(pW r w).2/\(pW r w).2<=1000000) (hlen:ways.length<=1000000):∀ x,x∈headsP r ways↔x∈ep r ways:=by
 intro x;unfold headsP ep;by_cases h0:r.fold=0
 ·rw [if_pos h0,if_pos h0]
 ·rw [if_neg h0,if_neg h0];have hI:=groups_inv (ways.map (pW r));have hfs:∀ p,(∃ w∈ways.map (pW r),w.1=p)->pp r.fold (k6 (ways.map (pW r)) p)=valP r.fold (k6 (ways.map (pW r)) p)/\numB (pp r.fold (k6 (ways.map (pW r)) p))=okP r.fold (k6 (ways.map (pW r)) p):=by
   rintro p ⟨w,hw,rfl⟩;refine fold_same (by omega) ?_ ?_ ?_
   ·unfold k6;intro hc;have:w.2∈((ways.map (pW r)).filter λz=>decide (z.1=w.1)).map (·.2):=List.mem_map.2 ⟨w,List.mem_filter.2 ⟨hw,by simp⟩,rfl⟩
    rw [hc] at this;simp at this
   ·intro y hy;obtain⟨z,hz,rfl⟩:=List.mem_map.1 hy;obtain⟨u,hu,rfl⟩:=List.mem_map.1 (List.mem_filter.1 hz).1;exact hn u hu
   ·unfold k6;rw [Aa];refine Ar (Cj _ _) ?_;rw [Aa];exact hlen
  rw [Eo,Eo];constructor
  ·rintro⟨g,hg,hx⟩;obtain⟨w,hw,hwg⟩:=hI.here g hg;obtain⟨u,hu,rfl⟩:=List.mem_map.1 hw;obtain⟨f1,f2⟩:=hfs g.1 ⟨_,hw,hwg⟩;refine⟨u,hu,?_⟩
   rw [hwg,f2,f1,<- hI.vals g hg];exact hx
  ·rintro⟨u,hu,hx⟩;obtain⟨g,hg,hwg⟩:=hI.all (pW r u) (Gs hu);obtain⟨f1,f2⟩:=hfs g.1 ⟨_,Gs hu,hwg.symm⟩;refine⟨g,hg,?_⟩
   rw [hI.vals g hg,<- f1,<- f2,hwg];exact hx
theorem heads_set {r:Rul} {ways:List (List Int)} (hf:0<=r.fold/\r.fold<=4) (hn:∀ w∈ways,-1000000<=(pW r w).2/\(pW r w).2<=1000000) (hlen:ways.length<=1000000):av (headsP r ways)=av (ep r ways) :=
 j4 (a8 _).1 (a8 _).1 λx=>by rw [(a8 _).2,(a8 _).2,heads_mem hf hn hlen]
end
end Go.Proofs.YtapciiffpnociadGreat
