/- Several texts in one: RuK RuCo RuS RuT LstS RuV GxRR RelW. Condition: none. -/
import Derived.Test.YtapciiffpnociadGreatM14
import Derived.Test.YtapciiffpnociadGreatM07
import Derived.Test.YtapciiffpnociadGreatM10
import Derived.Test.YtapciiffpnociadGreatM13
import Derived.Test.YtapciiffpnociadGreatM09
import Derived.Test.YtapciiffpnociadGreatM12
set_option linter.all false
set_option maxHeartbeats 8000000
open Classical renaming byContradiction→A1
open List renaming drop_eq_getElem_cons→Ao,eq_nil_of_length_eq_zero→Bm,findIdx_getElem→D2,foldl_append→G5,getD→A9,getElem?_eq_getElem→Ab,getElem?_set_ne→Cf,getElem?_set_self→By,getElem_mem→Ag,length→B8,length_append→Ap,length_map→Aa,length_set→A3,map_append→Av,map_replicate→C2,map_set→Dc,mem_cons_of_mem→Ah,mem_cons_self→Ae,not_of_lt_findIdx→F7,replicate→An,sum_append→E5,take_of_length_le→Ak,take_succ_eq_append_getElem→Am
open Nat renaming blt→As,le_of_ble_eq_true→Ac,le_refl→Af,not_lt_zero→A6,zero_le→Ai
namespace Go.Proofs.YtapciiffpnociadGreat
section
variable [Bnds]
def kt (arity:List Int) (x:Fct):Int :=
 if inR x.pred 0 ((arity.length:Int)-1)=false then 5
 else if (x.args.length:Int)≠arity.getD x.pred.toNat 0 then 1
 else if x.args.any (λn=>!numB n) then 3
 else 0
structure FctOk (arity:List Int) (x:Fct):Prop where
 pred:0<=x.pred/\x.pred<arity.length
 len:(x.args.length:Int)=arity.getD x.pred.toNat 0
 nums:∀ n∈x.args,-1000000<=n/\n<=1000000
theorem numB_in {n:Int} (h:numB n=true):-1000000<=n/\n<=1000000:=by unfold numB inR at h;simpa using h
theorem factE_ok {arity:List Int} {x:Fct} (h:kt arity x=0):FctOk arity x:=by
 unfold kt at h;split at h;· cases h
 rename_i h1;split at h;· cases h
 rename_i h2;split at h;· cases h
 rename_i h3;refine⟨by unfold inR at h1;simp at h1;omega,by simpa using h2,λn hn=>?_⟩
 have h3':x.args.any (λn=>!numB n)=false:=by simpa using h3
 rw [List.any_eq_false] at h3';have:=h3' n hn
 exact numB_in (by simpa using this)
theorem ia {α:Type} {f:α->Int}:∀ {l:List α},b8 f l=0->∀ x∈l,f x=0
 | [],_,_,h=>by simp at h
 | y::l,h,x,hx=>by
  unfold b8 at h
  split at h
  ·rename_i h1;exact absurd h h1
  ·rename_i h1
   rcases List.mem_cons.1 hx with rfl|hx
   ·exact A1 h1
   ·exact ia h x hx
theorem firstI_all0 {f:Nat->Int}:∀ {k i:Nat},ij f i k=0->∀ j,i<=j->j<i+k->f j=0
 | 0,_,_,j,h1,h2=>by omega
 | k+1,i,h,j,h1,h2=>by
  unfold ij at h
  split at h
  ·rename_i h3;exact absurd h h3
  ·rename_i h3
   by_cases hj:j=i
   ·subst hj;exact A1 h3
   ·exact firstI_all0 h j (by omega) (by omega)
theorem termE_zero {vars:Int} {t:Trm} (h:vd vars t=0):t.var<vars/\-1<=t.var/\(-1000000<=t.n/\t.n<=1000000):=by
 unfold vd at h;split at h;· cases h
 rename_i h1;split at h;· cases h
 rename_i h2;have h1':inR t.var (-1) (vars-1)=true:=by simpa using h1
 have h3:numB t.n=true:=by
  cases hn:numB t.n with
  | true=>rfl
  | false=>exact absurd (.inl hn) h2
 unfold inR at h1';simp at h1';exact⟨by omega,by omega,numB_in h3⟩
structure RulR (arity:List Int) (r:Rul):Prop where
 pred:0<=r.pred/\r.pred<arity.length
 tlen:(r.terms.length:Int)=arity.getD r.pred.toNat 0
 vars:0<=r.vars/\r.vars<=8
 terms:∀ t∈r.terms,t.var<r.vars/\-1<=t.var/\(-1000000<=t.n/\t.n<=1000000)
 fold:0<=r.fold/\r.fold<=4
 folded:r.fold≠0->0<r.terms.length/\0<r.body.length
 body:r.body.length<=4
 lits:∀ l∈r.body,j7 arity r.vars l=0
 safe:ri r=true
theorem ruleE_right {arity:List Int} {r:Rul} (h:mg arity r=0):RulR arity r:=by
 unfold mg at h;split at h;· cases h
 rename_i h1;split at h;· cases h
 rename_i h2;split at h;· cases h
 rename_i h3;split at h
 ·rename_i h4;exact absurd h h4
 rename_i h4;split at h;· cases h
 rename_i h5;split at h;· cases h
 rename_i h6;split at h;· cases h
 rename_i h7;split at h
 ·rename_i h8;exact absurd h h8
 rename_i h8;split at h;· cases h
 rename_i h9;have h1':inR r.pred 0 ((arity.length:Int)-1)=true:=by simpa using h1
 have h3':inR r.vars 0 8=true:=by simpa using h3
 have h5':inR r.fold 0 4=true:=by simpa using h5
 unfold inR at h1' h3' h5';simp at h1' h3' h5';refine⟨by omega,by simpa using h2,by omega,λt ht=>?_,by omega,λhf=>?_,by omega,λl hl=>?_,by simpa using h9⟩
 ·have:b8 (vd r.vars) r.terms=0:=by unfold nw at h4;simpa using h4
  exact termE_zero (ia this t ht)
 ·have:¬ (r.terms.length=0∨r.body.length=0):=λhc=>h6 ⟨hf,hc⟩
  omega
 ·have:b8 (j7 arity r.vars) r.body=0:=by simpa using h8
  exact ia this l hl
theorem progE_rule {nameB:ByteArray->Bool} {p:Prg} (h:dw nameB p=0):(∀ r∈p.rules,RulR p.arity r)/\(∀ i,0<=p.arity.getD i 0/\p.arity.getD i 0<=3)/\p.arity.length<=10/\p.rules.length<=12:=by
 unfold dw at h;split at h;· cases h
 rename_i h1;split at h;· cases h
 rename_i h2;split at h
 ·rename_i h3;exact absurd h h3
 rename_i h3;refine⟨λr hr=>ruleE_right (ia h r hr),λi=>?_,by omega,by omega⟩
 by_cases hi:i<p.names.length
 ·have h3':ij (o6 nameB p) 0 p.names.length=0:=by simpa using h3
  have:=firstI_all0 h3' i (Ai _) (by omega)
  unfold o6 at this;split at this;· cases this
  rename_i h4;have h4':inR (p.arity.getD i 0) 0 3=true:=by simpa using h4
  unfold inR at h4';simp only [Bool.and_eq_true,decide_eq_true_eq] at h4';exact h4'
 ·rw [A9,List.getElem?_eq_none (by omega)];exact⟨by simp,by simp⟩
theorem ul {arity:List Int} {vars:Int} {l:Ltl} (h:j7 arity vars l=0):(1<=l.kind/\l.kind<=4)/\opB l.kind l.op=true/\((l.kind=1∨l.kind=2)->(0<=l.pred/\l.pred<arity.length)/\(l.terms.length:Int)=arity.getD l.pred.toNat 0)/\(¬ (l.kind=1∨l.kind=2)->l.pred=0/\(l.terms.length:Int)=l.kind-1)/\∀ t∈l.terms,t.var<vars/\-1<=t.var/\(-1000000<=t.n/\t.n<=1000000):=by
 unfold j7 at h;split at h;· cases h
 rename_i h1;split at h;· cases h
 rename_i h2;have h1':inR l.kind 1 4=true:=by simpa using h1
 unfold inR at h1';simp at h1';have h2':opB l.kind l.op=true:=by simpa using h2
 split at h
 ·rename_i hk;split at h;· cases h
  rename_i h3;split at h;· cases h
  rename_i h4;have h3':inR l.pred 0 ((arity.length:Int)-1)=true:=by simpa using h3
  unfold inR at h3';simp at h3';exact⟨by omega,h2',λ_=>⟨by omega,by simpa using h4⟩,λhn=>absurd hk hn,λt ht=>termE_zero (ia h t ht)⟩
 ·rename_i hk;split at h;· cases h
  rename_i h3;refine⟨by omega,h2',λhc=>absurd hc hk,λ_=>?_,λt ht=>termE_zero (ia h t ht)⟩
  exact⟨A1 λhc=>h3 (.inl hc),A1 λhc=>h3 (.inr hc)⟩
theorem lit_okL {arity:List Int} {vars:Int} {l:Ltl} {S:List Fct} (h:j7 arity vars l=0) (hv:0<=vars) (hS:∀ x∈S,FctOk arity x):okL S vars.toNat l:=by
 obtain⟨h1,h2,h3,h4,h5⟩:=ul h;refine⟨h1,λt ht=>?_,λhk=>?_,λhk=>?_,λhk x hx hp=>?_⟩
 ·have:=h5 t ht;unfold okT;omega
 ·have:=h4 (by omega);omega
 ·have:=h4 (by omega);omega
 ·have g1:=(h3 (.inl hk)).2;have g2:=(hS x hx).len;rw [hp] at g2;omega
theorem setT_into {bs cs:List Bool} {t:Trm} (h:leB bs cs) (ht:isT cs t=true):leB (jb bs t) cs:=by
 refine⟨(wq bs t).trans h.1,λi hi=>?_⟩
 unfold jb at hi;split at hi
 ·exact h.2 i hi
 ·rename_i hv;by_cases hq:t.var.toNat=i
  ·subst hq;unfold isT at ht;rw [decide_eq_false hv,Bool.false_or] at ht;exact ht
  ·rw [A9,Cf hq,<- A9] at hi;exact h.2 i hi
theorem setTs_into {cs:List Bool}:∀ {l:List Trm} {bs:List Bool},leB bs cs->(∀ t∈l,isT cs t=true)->leB (l.foldl jb bs) cs
 | [],_,h,_=>h
 | t::l,_,h,ht=>setTs_into (l:=l) (setT_into h (ht t (Ae ..))) λx hx=>ht x (Ah _ hx)
theorem bLit_into {body:List Ltl} {bs cs:List Bool} {l:Ltl} (hl:l∈body) (h:leB bs cs) (hc:zi body cs):leB (k9 bs l) cs:=by
 unfold k9;split
 ·rename_i hf;exact setTs_into h (hc l hl (uv h hf))
 ·exact h
theorem bRound_into {body:List Ltl} {cs:List Bool} (hc:zi body cs):∀ (ls:List Ltl) {bs:List Bool},(∀ l∈ls,l∈body)->leB bs cs->leB (ik ls bs) cs
 | [],_,_,h=>h
 | l::ls,_,hs,h=>bRound_into hc ls (λx hx=>hs x (Ah _ hx)) (bLit_into (hs l (Ae ..)) h hc)
theorem bIter_into {body:List Ltl} {cs:List Bool} (hc:zi body cs):∀ (n:Nat) {bs:List Bool},leB bs cs->leB (e9 body n bs) cs
 | 0,_,h=>h
 | n+1,_,h=>bIter_into hc n (bRound_into hc body (λ_ hl=>hl) h)
theorem safe_Bd {r:Rul} (h:ri r=true):Bd r.body (An r.vars.toNat false):=by
 intro cs h1 h2 v hv;refine (bIter_into h2 (r.body.length+1) h1).2 v ?_;unfold ri u7 at h;rw [List.all_eq_true] at h;have hl:v<(e9 r.body (r.body.length+1) (An r.vars.toNat false)).length:=by rw [tf,h1.1];exact hv
 rw [A9,Ab hl];exact h _ (Ag hl)
abbrev e0 (v:Nat):RE:=An v none
theorem hasE_e0 (v:Nat):bm (e0 v)=An v false:=by unfold bm e0;rw [C2];rfl
theorem outE_e0 (v:Nat):bl (e0 v)=An v 0:=by unfold bl e0;rw [C2];rfl
def jl (body:List Ltl):List Ltl:=body.filter λl=>decide (l.kind=1)
theorem jq {S:List Fct} {v:Nat} {body:List Ltl} (hS:S.Nodup) (hok:∀ l∈body,okL S v l) (hB:Bd body (An v false)) :
  (im S body.length body (e0 v)).Perm (dt S body (jl body) (e0 v))/\(dt S body (jl body) (e0 v)).Nodup/\(∀ a,a∈dt S body (jl body) (e0 v)↔a.length=v/\∀ l∈body,holdE S l a=true):=by
 have hl:(e0 v).length=v:=List.length_replicate;have hok':∀ l∈body,okL S (e0 v).length l:=λl h=>by rw [hl];exact hok l h
 have hB':Bd body (bm (e0 v)):=by rw [hasE_e0];exact hB
 obtain⟨g1,g2⟩:=fromE_spec S hS body (jl body) (e0 v) (λl h=>⟨(List.mem_filter.1 h).1,of_decide_eq_true (List.mem_filter.1 h).2⟩) hok' hB' (λl h h1=>.inl (List.mem_filter.2 ⟨h,decide_eq_true h1⟩));have g3:=findE_mem S body.length body (e0 v) (Af _) hok' hB';have g4:=findE_nodup S hS body.length body (e0 v) (Af _) hok' hB';refine⟨tt g4 g2 λa=>(g3 a).trans (g1 a).symm,g2,λa=>(g1 a).trans (and_congr_left λ_=>?_)⟩
 unfold kb;rw [hl];refine⟨λh=>h.1,λh=>⟨h,λu x hx=>?_⟩⟩
 unfold e0 at hx;rw [List.getElem?_replicate] at hx;split at hx<;>simp at hx
def pn (S:List Fct) (v:Nat) (body:List Ltl):List (List Int):=(dt S body (jl body) (e0 v)).mergeSort λa b=>decide (dj a b<=0)
theorem fk (S:List Fct) (v:Nat) (body:List Ltl):(pn S v body).Perm (dt S body (jl body) (e0 v)):=List.mergeSort_perm _ _
theorem waysL_sort (S:List Fct) (v:Nat) (body:List Ltl):SortW (pn S v body):=by
 have:=List.pairwise_mergeSort (le:=λa b=>decide (dj a b<=0)) (λa b c h g=>decide_eq_true (ry (of_decide_eq_true h) (of_decide_eq_true g))) (λa b=>by
  rw [Bool.or_eq_true,decide_eq_true_eq,decide_eq_true_eq,kl b a];omega) (dt S body (jl body) (e0 v))
 exact this.imp λh=>of_decide_eq_true h
theorem r7 {S:List Fct} {v:Nat} {body:List Ltl} {o:List (List Int)} (h:SortW o) (hp:o.Perm (dt S body (jl body) (e0 v))):o=pn S v body :=
 sortW_unique h (waysL_sort S v body) (hp.trans (fk S v body).symm)
open Go Go.RowKit
variable [Bnds]
def encWO (a:List Int):List D:=[.own Bnds.B (.slice 1 (a.map ah))]
theorem owns_way (a:List Int):OwnsL (encWO a) (cx a):=⟨.inl rfl,trivial⟩
variable [Bnds]
abbrev pfB (r:Rul) (S:List Fct) (o:Nat):HB:=.blk 168 [.d (.int .i64 r.pred),.d (.slice 2 (r.terms.map aw)),.d (.int .i64 r.fold),.d (.slice 4 (r.body.map ay)),.d (.int .i64 r.vars),.d (.slice 2 (S.map aa)),.row 1,.row 2,.d (.int .i64 2000),.row o]
abbrev pfH (r:Rul) (S:List Fct) (e:RE) (out:List (List Int)):Hp:=[(0,pfB r S 3),(1,.row 3 1 ((bl e).map ah)),(2,.row 4 1 ((bm e).map bz)),(3,.row 22 1 (out.map encWO))]
attribute [local irreducible] DW DS DL DQ Ev FnOk FnP dp bh DT
theorem value_fn (r:Rul) (S:List Fct) (out:List (List Int)) (e:RE) (t:Trm) (ho:okT e.length t) :
  FnOk false Tryz.prog tab bp 222 [.loc 0 0,elTrm t] 4 4 (pfH r S e out) (λ_ res H=>res = .tup [.d (.int .i64 (vA (bl e) t)),.d (.bool (vOf e t).isSome)]/\H=pfH r S e out):=by
 refine frE Tryz.func222 ?_;intro O w0 E0 β0;have lo:((bl e).map ah).length=e.length:=by rw [Aa,dn]
 have lh:((bm e).map bz).length=e.length:=by rw [Aa,cg]
 unfold okT at ho;by_cases hv:t.var<0
 ·have h1:vA (bl e) t=t.n:=by unfold vA;rw [if_pos hv]
  have h2:(vOf e t).isSome=true:=by unfold vOf;rw [if_pos hv];rfl
  rw [h1,h2];repeat' (first|refine zr ?_|(refine zm ?_ ?_<;>intro hg)|(exfalso;omega))
  exact⟨.inl rfl,_,rfl,kp id 4 _ (pfH r S e out) ⟨rfl,rfl⟩⟩
 ·have hlt:t.var.toNat<e.length:=by omega
  have h1:vA (bl e) t=(bl e)[t.var.toNat]'(by rw [dn];exact hlt):=by unfold vA;rw [if_neg hv,A9,Ab (by rw [dn];exact hlt)];rfl
  have h2:(vOf e t).isSome=(bm e)[t.var.toNat]'(by rw [cg];exact hlt):=by
   unfold vOf bm;rw [if_neg hv,A9,Ab hlt,List.getElem_map];rfl
  rw [h1,h2];repeat' (first|refine zr ?_|(refine zm ?_ ?_<;>intro hg)|(exfalso;omega))
  exact⟨.inl rfl,_,rfl,kp id 4 _ (pfH r S e out) ⟨rfl,rfl⟩⟩
theorem values_fn (r:Rul) (S:List Fct) (out:List (List Int)) (e:RE) (l:List Trm) (ho:∀ t∈l,okT e.length t) (hl:l.length<=4398046511104) :
  FnOk false Tryz.prog tab bp 167 [.loc 0 0,.d (.slice 2 (l.map aw))] 4 4 (pfH r S e out)
   (λ_ res H=>res=(if l.all (λt=>(vOf e t).isSome) then .tup [.d (.slice 1 ((l.map (vA (bl e))).map ah)),.d (.bool true)] else .tup [.d (.slice 1 []),.d (.bool false)])/\H=pfH r S e out):=by
 refine frE Tryz.func167 ?_;intro O w0 E0 β0;have ll:(l.map aw).length=l.length:=Aa _;repeat' ((fail_if_success (apply iz 2));(first|refine zs ?_|fail))
 refine au (dm (t:=6) 3 1 rfl) ?_;repeat' (first|refine zs ?_|fail)
 refine ak (ι:=Nat) (λi=>⟨5,[(0,.loc 0 0),(1,.d (.slice 2 (l.map aw))),(6,.row 4),(11,.d (.slice 2 (l.map aw))),(12,.d (.int .i64 l.length)),(13,.d (.int .i64 i))],(4,.row 3 1 (((l.take i).map (vA (bl e))).map ah))::pfH r S e out⟩)
  (λi=>i<=l.length/\(l.take i).all (λt=>(vOf e t).isSome)=true) (λi=>l.length-i) 0 ⟨Ai _,rfl⟩ (ag id ⟨rfl,rfl,rfl,rfl,by rw [<- ll];rfl,rfl,trivial⟩ ⟨rfl,rfl,rfl,rfl,rfl,trivial⟩ rfl rfl rfl rfl rfl rfl) ?_
 rintro i ⟨g1,g2⟩;dsimp only at g1 g2 ⊢;by_cases hi:i<l.length
 ·have w:=value_fn r S out e l[i] (ho _ (Ag hi));have ht:l.take (i+1)=l.take i++[l[i]]:=Am hi;repeat' (first|refine zr ?_|(refine zm ?_ ?_<;>intro hg)|(exfalso;omega))
  (refine bk id (w) rfl rfl rfl rfl ⟨rfl,rfl,rfl,rfl,trivial⟩ rfl rfl rfl rfl rfl rfl ?_ ?_)
  ·rintro k2 res H2 ⟨rfl,rfl⟩;exact⟨rfl,rfl⟩
  rintro k2 res H2 ⟨rfl,rfl⟩;change DS _ _ _ _ _ _ _ _;cases hs:(vOf e l[i]).isSome with
  | false =>
   have hall:l.all (λt=>(vOf e t).isSome)=false:=by rw [List.all_eq_false];exact⟨_,Ag hi,by rw [hs];simp⟩
   rw [hall];simp only [Bool.false_eq_true,if_false];repeat' (first|refine zs ?_|(exfalso;omega))
   refine au (dz 4 1 rfl) ?_;repeat' (first|refine zr ?_|fail)
   exact⟨.inl rfl,_,rfl,kp id 4 _ (pfH r S e out) ⟨rfl,rfl⟩⟩
  | true =>
   repeat' (first|refine zs ?_|(exfalso;omega))
   exact⟨i+1,⟨hi,by rw [ht,List.all_append,g2];simp [hs]⟩,ag (λj=>match j with|4=>6|j=>j) ⟨rfl,rfl,rfl,rfl,rfl,rfl,trivial⟩ ⟨by rw [ht,Av,Av];rfl,rfl,rfl,rfl,rfl,trivial⟩ rfl rfl rfl rfl rfl rfl,by omega⟩
 ·rw [Ak (by omega)] at g2 ⊢;rw [g2,if_pos rfl];repeat' (first|refine zs ?_|(refine zm ?_ ?_<;>intro hg)|(exfalso;omega))
  refine au (cr 4 rfl rfl rfl) ?_;repeat' (apply dv)
  exact⟨.inl rfl,_,rfl,kp id 4 _ (pfH r S e out) ⟨rfl,rfl⟩⟩
theorem calc_fn (op a b:Int) (ha:-1000000<=a/\a<=1000000) (hb:-1000000<=b/\b<=1000000):Fn 168 [.d (.int .i64 op),.d (.int .i64 a),.d (.int .i64 b)] (λr=>r = .d (.int .i64 (mu op a b))):=by
 refine fqE Tryz.func168 ?_;intro O w0 E0 β0;have hm:-1000000000000<=a*b/\a*b<=1000000000000:=by
  have h1:a.natAbs<=1000000:=by omega
  have h2:b.natAbs<=1000000:=by omega
  have h3:(a*b).natAbs<=1000000*1000000:=by rw [Int.natAbs_mul];exact Nat.mul_le_mul h1 h2
  omega
 unfold mu;by_cases h5:op=5
 ·rw [if_pos h5];repeat' (first|refine zr ?_|(refine zm ?_ ?_<;>intro hg)|(exfalso;omega))
  all_goals exact⟨.inl rfl,_,rfl,rfl,rfl⟩
 ·rw [if_neg h5];by_cases h6:op=6
  ·rw [if_pos h6];repeat' (first|refine zr ?_|(refine zm ?_ ?_<;>intro hg)|(exfalso;omega))
   all_goals exact⟨.inl rfl,_,rfl,rfl,rfl⟩
  ·rw [if_neg h6];repeat' (first|refine zr ?_|(refine zm ?_ ?_<;>intro hg)|(exfalso;omega))
   exact⟨.inl rfl,_,rfl,rfl,rfl⟩
theorem test_fn (op a b:Int):Fn 169 [.d (.int .i64 op),.d (.int .i64 a),.d (.int .i64 b)] (λr=>r = .d (.bool (zu op a b))):=by
 refine fqE Tryz.func169 ?_;intro O w0 E0 β0;unfold zu;by_cases h1:op=1
 ·rw [if_pos h1];repeat' (first|refine zr ?_|(refine zm ?_ ?_<;>intro hg)|(exfalso;omega))
  all_goals exact⟨.inl rfl,_,rfl,rfl,rfl⟩
 ·rw [if_neg h1];by_cases h2:op=2
  ·rw [if_pos h2];repeat' (first|refine zr ?_|(refine zm ?_ ?_<;>intro hg)|(exfalso;omega))
   all_goals exact⟨.inl rfl,_,rfl,rfl,rfl⟩
  ·rw [if_neg h2];by_cases h3:op=3
   ·rw [if_pos h3];repeat' (first|refine zr ?_|(refine zm ?_ ?_<;>intro hg)|(exfalso;omega))
    all_goals exact⟨.inl rfl,_,rfl,rfl,rfl⟩
   ·rw [if_neg h3];repeat' (first|refine zr ?_|(refine zm ?_ ?_<;>intro hg)|(exfalso;omega))
    exact⟨.inl rfl,_,rfl,rfl,rfl⟩
variable [Bnds]
def gh (e:RE) (vs:List Int):RE:=vs.foldl (λe v=>e.set v.toNat none) e
theorem unset_len:∀ (vs:List Int) (e:RE),(gh e vs).length=e.length
 | [],_=>rfl
 | v::vs,e=>by
  show (gh (e.set v.toNat none) vs).length=_
  rw [unset_len vs,A3]
theorem unset_set:∀ (vs:List Int) (e:RE) (v:Nat) (y:Option Int),(∀ u∈vs,u.toNat≠v)->gh (e.set v y) vs=(gh e vs).set v y
 | [],_,_,_,_=>rfl
 | u::vs,e,v,y,h=>by
  show gh ((e.set v y).set u.toNat none) vs=(gh (e.set u.toNat none) vs).set v y
  rw [List.set_comm _ _ (Ne.symm (h u (Ae ..)) ),unset_set vs _ v y λx hx=>h x (Ah _ hx)]
theorem unset_get:∀ (vs:List Int) (e:RE) (v:Nat),(∀ u∈vs,u.toNat≠v)->(gh e vs)[v]?=e[v]?
 | [],_,_,_=>rfl
 | u::vs,e,v,h=>by
  show (gh (e.set u.toNat none) vs)[v]?=_
  rw [unset_get vs _ v λx hx=>h x (Ah _ hx),Cf (h u (Ae ..))]
theorem unset_snoc {e:RE} {vs:List Int} {v:Int} {y:Option Int} (hv:e[v.toNat]?=some none) (h:∀ u∈vs,u.toNat≠v.toNat):gh (e.set v.toNat y) (vs++[v])=gh e vs:=by
 have:gh (e.set v.toNat y) (vs++[v])=(gh (e.set v.toNat y) vs).set v.toNat none:=by unfold gh;rw [G5];rfl
 rw [this,unset_set vs e _ _ h,List.set_set];have hg:=unset_get vs e v.toNat h;rw [hv] at hg;apply List.ext_getElem?;intro j;by_cases hj:v.toNat=j
 ·subst hj;rw [hg,By (List.getElem?_eq_some_iff.1 hg).1]
 ·rw [Cf hj]
theorem unset_take {e:RE} {vs:List Int} {k:Nat} (hk:k<vs.length):gh e (vs.take (k+1))=(gh e (vs.take k)).set vs[k].toNat none:=by
 unfold gh;rw [Am hk,G5];rfl
theorem outE_unset (e:RE) (v:Nat):bl (e.set v none)=(bl e).set v 0:=by unfold bl;rw [Dc];rfl
theorem hasE_unset (e:RE) (v:Nat):bm (e.set v none)=(bm e).set v false:=by unfold bm;rw [Dc];rfl
theorem outE_set' (e:RE) (v:Nat) (x:Int):bl (e.set v (some x))=(bl e).set v x:=by unfold bl;rw [Dc];rfl
theorem hasE_set' (e:RE) (v:Nat) (x:Int):bm (e.set v (some x))=(bm e).set v true:=by unfold bm;rw [Dc];rfl
abbrev goH (r:Rul) (S:List Fct) (rest:List Ltl) (e:RE) (out:List (List Int)):Hp:=[(0,pfB r S 5),(1,.row 3 1 ((bl e).map ah)),(2,.row 4 1 ((bm e).map bz)),(3,.blk 166 [.loc 0 0]),(4,.blk 62 [.d (.slice 4 (rest.map ay))]),(5,.row 22 1 (out.map encWO))]
def na (w out:List (List Int)):List (List Int):=(out++w).take 2001
def qy (w out:List (List Int)):Bool:=decide (out.length+w.length<=2000)
theorem si {out:List (List Int)} (h:out.length<=2000):na [] out=out:=by unfold na;rw [List.append_nil,Ak (by omega)]
theorem sy {out:List (List Int)} (h:out.length<=2000):qy [] out=true:=by unfold qy;simp;omega
def matW (W:RE->List (List Int)) (o:Option RE):List (List Int):=match o with|some e'=>W e'|none=>[]
theorem rowOk {α:Type} {f:α->List D} {l:List α} {i:Nat} (h:i<l.length) (hf:∀ x,(f x).length=1):i<(l.map f).length/\∀ y∈l.map f,y.length=1:=⟨by rw [Aa];exact h,λy hy=>by obtain⟨z,_,rfl⟩:=List.mem_map.1 hy;exact hf z⟩
theorem match_fnR (r:Rul) (S:List Fct) (rest:List Ltl) (out:List (List Int)) (e:RE) (l:List Trm) (ns:List Int) (W:RE->List (List Int)) (hl:l.length=ns.length) (hl3:l.length<=1000) (ho:∀ t∈l,okT e.length t) (hout:out.length<=2000)
  (hthen:∀ e',ce e l ns=some e'->FnOk false Tryz.prog tab bp 165 [.loc 3 0,.loc 4 0] 5 6 (goH r S rest e' out) (λk2 res H=>k2=6/\res = .d (.bool (qy (W e') out))/\H=goH r S rest e' (na (W e') out))) :
  FnOk false Tryz.prog tab bp 166 [.loc 0 0,.d (.slice 2 (l.map aw)),.d (.slice 1 (ns.map ah)),.fn 165 [.loc 3 0,.loc 4 0]] 5 6 (goH r S rest e out)
   (λk2 res H=>k2=6/\res = .d (.bool (qy (matW W (ce e l ns)) out))/\H=goH r S rest e (na (matW W (ce e l ns)) out)):=by
 refine frE Tryz.func166 ?_;intro O w0 E0 β0;have ll:(l.map aw).length=l.length:=Aa _;have ln:(ns.map ah).length=ns.length:=Aa _;repeat' ((fail_if_success (apply iz 3));(first|refine zs ?_|fail))
 refine au (dm (t:=9) 3 1 rfl) ?_;refine dw_cut (ι:=RE×List Int×Bool) (λx=>⟨7,[(0,.loc 0 0),(3,.fn 165 [.loc 3 0,.loc 4 0]),(9,.row 6),(10,.d (.bool x.2.2))],(6,.row 3 1 (x.2.1.map ah))::goH r S rest x.1 out⟩)
  (λx=>x.1.length=e.length/\gh x.1 x.2.1=e/\(∀ u∈x.2.1,0<=u/\∃ y,x.1[u.toNat]?=some (some y))/\(x.2.2=true->ce e l ns=some x.1)/\(x.2.2=false->ce e l ns=none)/\x.2.1.length<=l.length) ?_ ?_
 ·repeat' (first|refine zs ?_|fail)
  refine ak (ι:=Nat×RE×List Int) (λx=>⟨7,[(0,.loc 0 0),(1,.d (.slice 2 (l.map aw))),(2,.d (.slice 1 (ns.map ah))),(3,.fn 165 [.loc 3 0,.loc 4 0]),(9,.row 6),(10,.d (.bool true)),(18,.d (.slice 2 (l.map aw))),(19,.d (.int .i64 l.length)),(20,.d (.int .i64 x.1))],(6,.row 3 1 (x.2.2.map ah))::goH r S rest x.2.1 out⟩)
   (λx=>x.1<=l.length/\x.2.1.length=e.length/\ce e l ns=ce x.2.1 (l.drop x.1) (ns.drop x.1)/\gh x.2.1 x.2.2=e/\(∀ u∈x.2.2,0<=u/\∃ y,x.2.1[u.toNat]?=some (some y))/\x.2.2.length<=x.1) (λx=>l.length-x.1) (0,e,[]) ⟨Ai _,rfl,rfl,rfl,λ_ h=>(by simp at h),Af _⟩
   (ag id ⟨rfl,rfl,rfl,rfl,rfl,rfl,rfl,by rw [<- ll];rfl,rfl,trivial⟩ ⟨rfl,rfl,rfl,rfl,rfl,rfl,rfl,trivial⟩ rfl rfl rfl rfl rfl rfl) ?_
  rintro⟨i,ei,vs⟩ ⟨g1,g2,g3,g4,g5,g6⟩;dsimp only at g1 g2 g3 g4 g5 g6 ⊢;clear hthen;by_cases hi:i<l.length
  ·have hoi:=ho _ (Ag hi);rw [<- g2] at hoi;have w:=value_fn r S out ei l[i] hoi;have hn:i<ns.length:=by omega
   rw [Ao hi,Ao hn,ce] at g3;repeat' (first|refine zs ?_|(refine zm ?_ ?_<;>intro hg)|(exfalso;omega))
   refine bk (λj=>match j with|3=>5|j=>j) w rfl rfl rfl rfl ⟨rfl,rfl,rfl,rfl,trivial⟩ rfl rfl rfl rfl rfl rfl ?_ ?_
   ·rintro k2 res H2 ⟨rfl,rfl⟩;exact⟨rfl,rfl⟩
   rintro k2 res H2 ⟨rfl,rfl⟩;change DS _ _ _ _ _ _ _ _;clear w;cases hv:vOf ei l[i] with
   | some x =>
    have hx:vA (bl ei) l[i]=x:=vOf_out hv;rw [hv] at g3;simp only at g3;rw [hx];by_cases hc:x=ns[i]
    ·rw [if_pos hc] at g3;repeat' (first|refine zs ?_|(apply inB_x;exact rfl)|(refine zm ?_ ?_<;>intro hg)|(exfalso;omega))
     exact⟨(i+1,ei,vs),⟨hi,g2,g3,g4,g5,by dsimp only;omega⟩,er id,by show l.length-(i+1)<l.length-i;omega⟩
    ·rw [if_neg hc] at g3;repeat' (first|refine zs ?_|(apply inB_x;exact rfl)|(refine zm ?_ ?_<;>intro hg)|(exfalso;omega))
     exact⟨(ei,vs,false),⟨g2,g4,g5,(λh=>(nomatch h)),λ_=>g3,by dsimp only;omega⟩,er id⟩
   | none =>
    rw [hv] at g3;simp only at g3;have hv0:¬ l[i].var<0:=λh=>by unfold vOf at hv;rw [if_pos h] at hv;cases hv
    unfold okT at hoi;have hlt:l[i].var.toNat<ei.length:=by omega
    have hev:ei[l[i].var.toNat]?=some none:=by
     unfold vOf at hv;rw [if_neg hv0,A9,Ab hlt] at hv;rw [Ab hlt];simpa using hv
    have lo:((bl ei).map ah).length=ei.length:=by rw [Aa,dn]
    have lh:((bm ei).map bz).length=ei.length:=by rw [Aa,cg]
    have hpm:l[i].var.toNat<((bl ei).map ah).length/\∀ y∈(bl ei).map ah,y.length=1:=rowOk (by rw [dn];exact hlt) λ_=>rfl
    have hpk:l[i].var.toNat<((bm ei).map bz).length/\∀ y∈(bm ei).map bz,y.length=1:=rowOk (by rw [cg];exact hlt) λ_=>rfl
    have hne:∀ u∈vs,u.toNat≠l[i].var.toNat:=λu hu he=>by
     obtain⟨_,y,hy⟩:=g5 u hu;rw [he,hev] at hy;cases hy
    repeat' (first|refine zs ?_|(exfalso;omega))
    have o1:=outE_set' ei l[i].var.toNat ns[i];have o2:=hasE_set' ei l[i].var.toNat ns[i];refine⟨(i+1,ei.set l[i].var.toNat (some ns[i]),vs++[l[i].var]),⟨hi,by dsimp only;rw [A3];exact g2,g3,(unset_snoc hev hne).trans g4,λu hu=>?_,by dsimp only;rw [Ap,List.length_singleton];omega⟩,
     ag (λj=>match j with|6=>8|j=>j) ⟨rfl,rfl,rfl,rfl,rfl,rfl,rfl,rfl,rfl,trivial⟩ ⟨by rw [Av];rfl,rfl,by rw [o1,Dc];rfl,by rw [o2,Dc];rfl,rfl,rfl,rfl,trivial⟩ rfl rfl rfl rfl rfl rfl,by show l.length-(i+1)<l.length-i;omega⟩
    rcases List.mem_append.1 hu with hu|hu
    ·obtain⟨q1,y,q2⟩:=g5 u hu;exact⟨q1,y,by dsimp only;rw [Cf (Ne.symm (hne u hu))];exact q2⟩
    ·rw [List.mem_singleton] at hu;subst hu;exact⟨by omega,ns[i],by dsimp only;rw [By hlt]⟩
  ·rw [List.drop_of_length_le (by omega)] at g3;have g3:ce e l ns=some ei:=g3;repeat' (first|refine zs ?_|(refine zm ?_ ?_<;>intro hg)|(exfalso;omega))
   exact⟨(ei,vs,true),⟨g2,g4,g5,λ_=>g3,(λh=>(nomatch h)),by dsimp only;omega⟩,er id⟩
 ·rintro⟨ei,vs,ok⟩ ⟨g2,g4,g5,g7,g8,g9⟩;dsimp only at g2 g4 g5 g7 g8 g9 ⊢;repeat' ((fail_if_success (apply cp 14));fail)
  refine dw_cut (ι:=Unit) (λ_=>⟨7,[(0,.loc 0 0),(9,.row 6),(15,.d (.bool (qy (matW W (ce e l ns)) out)))],(6,.row 3 1 (vs.map ah))::goH r S rest ei (na (matW W (ce e l ns)) out)⟩) (λ_=>True) ?_ ?_
  ·cases ok with
   | false =>
    have hm:=g8 rfl;rw [hm,show matW W none=[] from rfl,sy hout,si hout];repeat' (first|refine zs ?_|(exfalso;omega))
    exact⟨(),trivial,er id⟩
   | true =>
    have hm:=g7 rfl;have w:=hthen ei hm;rw [hm,show matW W (some ei)=W ei from rfl];repeat' (first|refine zs ?_|(exfalso;omega))
    (refine qa id (w) rfl rfl rfl rfl rfl rfl ⟨rfl,rfl,rfl,rfl,rfl,rfl,trivial⟩ rfl rfl rfl rfl rfl rfl ?_ ?_)
    ·rintro k2 res H2 ⟨rfl,rfl,rfl⟩;exact⟨rfl,rfl⟩
    rintro k2 res H2 ⟨rfl,rfl,rfl⟩;change DS _ _ _ _ _ _ _ _;repeat' (first|refine zs ?_|(exfalso;omega))
    exact⟨(),trivial,er (λj=>match j with|5=>12|j=>j)⟩
  ·clear hthen;rintro _ _;generalize qy (matW W (ce e l ns)) out=bb;generalize na (matW W (ce e l ns)) out=o2;have lv:(vs.map ah).length=vs.length:=Aa _;repeat' (first|refine zs ?_|(exfalso;omega))
   refine ak (ι:=Nat) (λi=>⟨7,[(0,.loc 0 0),(9,.row 6),(15,.d (.bool bb)),(76,.row 6),(77,.d (.int .i64 vs.length)),(78,.d (.int .i64 i))],(6,.row 3 1 (vs.map ah))::goH r S rest (gh ei (vs.take i)) o2⟩)
    (λi=>i<=vs.length) (λi=>vs.length-i) 0 (Ai _) (ag id ⟨rfl,rfl,rfl,rfl,by rw [<- lv];rfl,rfl,trivial⟩ ⟨rfl,rfl,rfl,rfl,rfl,rfl,rfl,trivial⟩ rfl rfl rfl rfl rfl rfl) ?_
   intro i g1;by_cases hi:i<vs.length
   ·obtain⟨h0,y,hy⟩:=g5 _ (Ag hi);have hlt:vs[i].toNat<(gh ei (vs.take i)).length:=by rw [unset_len];exact (List.getElem?_eq_some_iff.1 hy).1
    have ht:=unset_take (e:=ei) hi;have o1:=outE_unset (gh ei (vs.take i)) vs[i].toNat;have o2':=hasE_unset (gh ei (vs.take i)) vs[i].toNat;have lo:((bl (gh ei (vs.take i))).map ah).length=(gh ei (vs.take i)).length:=by rw [Aa,dn]
    have lh:((bm (gh ei (vs.take i))).map bz).length=(gh ei (vs.take i)).length:=by rw [Aa,cg]
    have hpm:vs[i].toNat<((bl (gh ei (vs.take i))).map ah).length/\∀ y∈(bl (gh ei (vs.take i))).map ah,y.length=1:=rowOk (by rw [dn];exact hlt) λ_=>rfl
    have hpk:vs[i].toNat<((bm (gh ei (vs.take i))).map bz).length/\∀ y∈(bm (gh ei (vs.take i))).map bz,y.length=1:=rowOk (by rw [cg];exact hlt) λ_=>rfl
    repeat' (first|refine zr ?_|(refine zm ?_ ?_<;>intro hg)|(exfalso;omega))
    exact⟨i+1,hi,ag id ⟨rfl,rfl,rfl,rfl,rfl,rfl,trivial⟩ ⟨rfl,rfl,by rw [ht,o1,Dc];rfl,by rw [ht,o2',Dc];rfl,rfl,rfl,rfl,trivial⟩ rfl rfl rfl rfl rfl rfl,by omega⟩
   ·rw [Ak (by omega),g4];repeat' (first|refine zr ?_|(refine zm ?_ ?_<;>intro hg)|(exfalso;omega))
    exact⟨.inl rfl,_,rfl,kp id 6 _ (goH r S rest e o2) ⟨rfl,rfl,rfl⟩⟩
variable [Bnds]
theorem sum_takeL {α:Type} {ls:List (List α)} {i:Nat} (hi:i<ls.length):((ls.take (i+1)).map B8).sum=((ls.take i).map B8).sum+ls[i].length:=by
 rw [Am hi,Av,E5];rfl
theorem sum_leL {α:Type} (ls:List (List α)) (i:Nat):((ls.take i).map B8).sum<=(ls.map B8).sum:=by
 have h:(ls.map B8).sum=((ls.take i).map B8).sum+((ls.drop i).map B8).sum:=by rw [<- E5,<- Av,List.take_append_drop]
 omega
variable [Bnds]
theorem growLtl_fn (n:Nat) (hn:n<=1000000):FnOk false Tryz.prog tab bp 221 [.nils,.d (.int .i64 n)] 0 0 [] (λ_ r H=>r = .row 0/\H=[(0,.row 68 4 [])]):=by
 refine frE Tryz.func221 ?_;intro O w0 E0 β0;by_cases h0:n=0
 ·subst h0;repeat' (first|refine zs ?_|(exfalso;omega))
  refine jo (ms rfl rfl) rfl rfl ?_;repeat' (first|refine zs ?_|(exfalso;omega))
  refine au (dm (t:=4) 68 4 rfl) ?_;repeat' (apply dv)
  exact⟨.inl rfl,_,rfl,kp id 1 (.row 0) ([(0,.row 68 4 [])]) ⟨rfl,rfl⟩⟩
 ·repeat' (first|refine zs ?_|(exfalso;omega))
  refine jo (ms rfl rfl) rfl rfl ?_;repeat' (first|refine zr ?_|(refine zm ?_ ?_<;>intro hg)|(exfalso;omega))
  refine jo (ms rfl rfl) rfl rfl ?_;repeat' refine z0 ?_
  all_goals try (exfalso;omega)
  refine ds_apmk (n:=n) (es:=4) (te:=68) [.int .i64 0,.int .i64 0,.int .i64 0,.slice 2 []] rfl rfl (by omega) rfl rfl rfl rfl ⟨.inl rfl,.inl rfl,.inl rfl,.inr ⟨rfl,2,rfl⟩,trivial⟩ rfl rfl (by omega) (by omega) ?_ (by unfold maxLen;omega) rfl rfl ?_
  ·show n*48<=_;omega
  repeat' (first|refine zs ?_|(exfalso;omega))
  refine au (ent_cut (n:=0) 4 rfl rfl (Ai _) rfl) ?_;repeat' (apply dv)
  exact⟨.inl rfl,_,rfl,kp (λj=>match j with|0=>1|j=>j) 1 (.row 0) ([(0,.row 68 4 [])]) ⟨rfl,rfl⟩⟩
theorem concatLtl_fn (ls:List (List (Ltl))) (h:(ls.map B8).sum<=1000000) (h2:ls.length<=1000000):Fn 164 [.d (.slice 1 (ls.map λl=>[.slice 4 (l.map ay)]))] (λr=>r = .d (.slice 4 (ls.flatten.map ay))):=by
 refine fqE Tryz.func164 ?_;intro O w0 E0 β0;have ll:(ls.map λl=>[D.slice 4 (l.map ay)]).length=ls.length:=Aa _;repeat' (first|refine zs ?_|fail)
 refine ak (ι:=Nat) (λi=>⟨0,[(0,.d (.slice 1 (ls.map λl=>[.slice 4 (l.map ay)]))),(3,.d (.int .i64 (((ls.take i).map B8).sum:Nat))),(9,.d (.slice 1 (ls.map λl=>[.slice 4 (l.map ay)]))),(10,.d (.int .i64 ls.length)),(11,.d (.int .i64 i))],[]⟩)
  (λi=>i<=ls.length) (λi=>ls.length-i) 0 (Ai _) (ag id ⟨rfl,rfl,rfl,by rw [<- ll];rfl,rfl,trivial⟩ trivial rfl rfl rfl rfl rfl rfl) ?_
 intro i g1;by_cases hi:i<ls.length
 ·have h3:=sum_takeL hi;have h4:=sum_leL ls (i+1);have h5:(ls[i].map ay).length=ls[i].length:=Aa _;repeat' (first|refine zs ?_|(refine zm ?_ ?_<;>intro hg)|(exfalso;omega))
  exact⟨i+1,by omega,ag id ⟨rfl,congrArg (λz=>SV.d (.int .i64 z)) (by rw [h3,h5];omega),rfl,rfl,rfl,trivial⟩ trivial rfl rfl rfl rfl rfl rfl,by omega⟩
 ·rw [Ak (by omega)];repeat' (first|refine zs ?_|(refine zm ?_ ?_<;>intro hg)|(exfalso;omega))
  refine bk id (growLtl_fn (ls.map B8).sum h) rfl rfl rfl rfl trivial rfl rfl rfl rfl rfl rfl ?_ ?_
  ·rintro k2 r H2 ⟨rfl,rfl⟩;exact⟨rfl,rfl⟩
  rintro k2 r H2 ⟨rfl,rfl⟩;change DS _ _ _ _ _ _ _ _;repeat' (first|refine zs ?_|fail)
  refine ak (ι:=Nat) (λi=>⟨1,[(6,.row 0),(25,.d (.slice 1 (ls.map λl=>[.slice 4 (l.map ay)]))),(26,.d (.int .i64 ls.length)),(27,.d (.int .i64 i))],[(0,.row 68 4 ((ls.take i).flatten.map ay))]⟩)
   (λi=>i<=ls.length) (λi=>ls.length-i) 0 (Ai _) (ag id ⟨rfl,rfl,by rw [<- ll];rfl,rfl,trivial⟩ ⟨rfl,trivial⟩ rfl rfl rfl rfl rfl rfl) ?_
  clear hi g1;intro i g1;by_cases hi:i<ls.length
  ·have h3:=sum_takeL hi;have h4:=sum_leL ls (i+1);have h5:(ls[i].map ay).length=ls[i].length:=Aa _;have h6:((ls.take i).flatten.map ay).length=((ls.take i).map B8).sum:=by rw [Aa,List.length_flatten]
   have h7:(ls.take (i+1)).flatten=(ls.take i).flatten++ls[i]:=by rw [Am hi,List.flatten_append];simp
   repeat' (first|refine zr ?_|(refine zm ?_ ?_<;>intro hg)|(exfalso;omega))
   exact⟨i+1,by omega,ag (λ_=>1) ⟨rfl,rfl,rfl,rfl,trivial⟩ ⟨by rw [h7,Av];rfl,trivial⟩ rfl rfl rfl rfl rfl rfl,by omega⟩
  ·rw [Ak (by omega)];repeat' (first|refine zs ?_|(refine zm ?_ ?_<;>intro hg)|(exfalso;omega))
   refine au (cr 2 rfl rfl rfl) ?_;repeat' (apply dv)
   exact⟨.inl rfl,_,rfl,rfl,rfl⟩
theorem indexLtl_fn {f:FuncId} {caps:List SV} (p:Ltl->Bool) (l:List (Ltl)) (hcap:SV.lowL 0 caps=true) (hp:∀ x∈l,Fn f (elLtl x::caps) (λr=>r = .d (.bool (p x)))):Fn 219 [.d (.slice 4 (l.map ay)),.fn f caps] (λr=>r = .d (.int .i64 (n9 p l))):=by
 refine fqE Tryz.func219 ?_;intro O w0 E0 β0;refine c8 (t:=0) rfl λhb=>?_
 repeat' (first|refine zs ?_|fail)
 refine ak (ι:=Nat) (λi=>⟨0,[(0,.d (.slice 4 (l.map ay))),(1,.fn f caps),(7,.d (.int .i64 l.length)),(8,.d (.int .i64 i))],[]⟩)
  (λi=>i<=l.length/\∀ j (hj:j<l.length),j<i->p l[j]=false) (λi=>l.length-i) 0 ⟨Ai _,λj _ h=>absurd h (A6 j)⟩
  (ag id ⟨rfl,congrArg (SV.fn f) (SV.renL_id caps).symm,by simp;rfl,rfl,trivial⟩ trivial (by simp [Sl.low,SV.low,hcap]) rfl rfl rfl rfl rfl) ?_
 rintro i ⟨h1,h2⟩;repeat' (first|refine zs ?_|fail)
 refine bi rfl (λh=>?_) (λh=>?_)
 ·have hi:i<l.length:=by omega
  have hpx:=hp l[i] (Ag hi);repeat' (first|refine zs ?_|(apply jp;exact rfl;exact rfl;exact rfl;exact rfl;apply hpx;exact rfl;(assumption);exact rfl;rintro _ rfl))
  refine ff rfl (λhb=>?_) (λhb=>?_)
  ·repeat' (first|refine zr ?_|fail)
   exact br rfl (j8 h2 hi hb).symm
  ·repeat' (first|refine zs ?_|fail)
   exact⟨i+1,⟨hi,jt h2 hi hb⟩,ag id ⟨rfl,congrArg (SV.fn f) (SV.renL_id caps).symm,rfl,rfl,trivial⟩ trivial (by simp [Sl.low,SV.low,hcap]) rfl rfl rfl rfl rfl,by omega⟩
 ·repeat' (first|refine zr ?_|fail)
  exact br rfl (iy λj hj=>h2 j hj (by omega)).symm
theorem next1_fn (l:Ltl):Fn 220 [elLtl l] (λr=>r = .d (.bool (decide (l.kind=1)))):=by
 refine fqE Tryz.func220 ?_;intro O w0 E0 β0;repeat' (first|refine zr ?_|fail)
 exact⟨.inl rfl,_,rfl,rfl,rfl⟩
theorem idxF_findIdx {α:Type} {p:α->Bool} {l:List α} (h:l.findIdx p<l.length):n9 p l=(l.findIdx p:Nat) :=
 j8 (λj _ hj=>by have:=F7 hj;simpa using this) h D2
theorem findIdx_at {α:Type} {p:α->Bool} {l:List α} {i:Nat} (hi:i<l.length) (h:∀ j (_:j<l.length),j<i->p l[j]=false) (hp:p l[i]=true):l.findIdx p=i:=by
 rcases Nat.lt_trichotomy (l.findIdx p) i with h1|h1|h1
 ·have h2:=h _ (by omega) h1;have h3:=D2 (xs:=l) (p:=p) (w:=by omega);rw [h2] at h3;cases h3
 ·exact h1
 ·have:=F7 h1;rw [hp] at this;simp at this
theorem findIdx_no {α:Type} {p:α->Bool} {l:List α} (h:∀ j (_:j<l.length),p l[j]=false):¬ l.findIdx p<l.length:=λh1=>by
 have h3:=D2 (xs:=l) (p:=p) (w:=h1)
 rw [h _ h1] at h3;cases h3
theorem needT_len (l:Ltl):(po l).length<=l.terms.length:=by
 unfold po;split
 ·rw [List.length_take];omega
 ·exact Af _
theorem next_fn (r:Rul) (S:List Fct) (out:List (List Int)) (e:RE) (left:List Ltl) (hok:∀ l∈left,okL S e.length l) (hl:left.length<=1000000) (hn:eo e left<left.length) (htl:∀ l∈left,l.terms.length<=3) :
  FnOk false Tryz.prog tab bp 163 [.loc 0 0,.d (.slice 4 (left.map ay))] 4 4 (pfH r S e out) (λ_ res H=>res = .d (.int .i64 (eo e left:Nat))/\H=pfH r S e out):=by
 refine frE Tryz.func163 ?_;intro O w0 E0 β0;have ll:(left.map ay).length=left.length:=Aa _;repeat' (first|refine zs ?_|fail)
 refine ak (ι:=Nat) (λi=>⟨4,[(0,.loc 0 0),(1,.d (.slice 4 (left.map ay))),(10,.d (.slice 4 (left.map ay))),(11,.d (.int .i64 left.length)),(12,.d (.int .i64 i))],pfH r S e out⟩)
  (λi=>i<=left.length/\∀ j (_:j<left.length),j<i->t6 e left[j]=false) (λi=>left.length-i) 0 ⟨Ai _,λ_ _ h=>by omega⟩ (ag id ⟨rfl,rfl,rfl,by rw [<- ll];rfl,rfl,trivial⟩ ⟨rfl,rfl,rfl,rfl,trivial⟩ rfl rfl rfl rfl rfl rfl) ?_
 rintro i ⟨g1,g2⟩;dsimp only at g1 g2 ⊢;by_cases hi:i<left.length
 ·have hm:=Ag hi;have ho:=hok _ hm;have h3:=htl _ hm;have w:=values_fn r S out e (po left[i]) (λt ht=>ho.terms t (by unfold po at ht;split at ht;exact List.mem_of_mem_take ht;exact ht)) (by have:=needT_len left[i];omega);have hr:t6 e left[i]=(po left[i]).all λt=>(vOf e t).isSome:=rfl
  by_cases h4:left[i].kind=4
  ·have hc3:=ho.calc3 h4;have lt:(left[i].terms.map aw).length=left[i].terms.length:=Aa _;have hnt:po left[i]=left[i].terms.take 2:=by unfold po;rw [if_pos h4]
   rw [hnt] at w hr;repeat' (first|(apply nr;exact rfl;exact rfl;exact rfl;exact rfl;exact rfl;exact rfl;(refine⟨?_,?_,?_⟩<;>(omega));((with_reducible apply ni);(exact bg _));exact rfl;exact rfl)|refine zs ?_|(refine zm ?_ ?_<;>intro hg)|(exfalso;omega))
   (refine bk id (w) rfl rfl rfl rfl ⟨rfl,rfl,rfl,rfl,trivial⟩ rfl rfl rfl rfl rfl rfl ?_ ?_)
   ·rintro k2 res H2 ⟨rfl,rfl⟩;split<;>exact⟨rfl,rfl⟩
   rintro k2 res H2 ⟨rfl,rfl⟩;clear w;cases hb:t6 e left[i] with
   | false =>
    rw [<- hr,hb,if_neg (by simp)];change DS _ _ _ _ _ _ _ _;repeat' (first|refine zs ?_|(exfalso;omega))
    exact⟨i+1,⟨hi,λj hj hji=>by
     by_cases hq:j=i
     ·subst hq;exact hb
     ·exact g2 j hj (by omega)⟩,er id,by omega⟩
   | true =>
    have hfi:left.findIdx (t6 e)=i:=findIdx_at hi g2 hb;have hne:eo e left=i:=by unfold eo;rw [hfi,if_pos hi]
    rw [<- hr,hb,if_pos rfl,hne];change DS _ _ _ _ _ _ _ _;repeat' (first|refine zr ?_|(exfalso;omega))
    exact⟨.inl rfl,_,rfl,kp id 4 _ (pfH r S e out) ⟨rfl,rfl⟩⟩
  ·have hnt:po left[i]=left[i].terms:=by unfold po;rw [if_neg h4]
   rw [hnt] at w hr;repeat' (first|(apply nr;exact rfl;exact rfl;exact rfl;exact rfl;exact rfl;exact rfl;(refine⟨?_,?_,?_⟩<;>(omega));((with_reducible apply ni);(exact bg _));exact rfl;exact rfl)|refine zs ?_|(refine zm ?_ ?_<;>intro hg)|(exfalso;omega))
   (refine bk id (w) rfl rfl rfl rfl ⟨rfl,rfl,rfl,rfl,trivial⟩ rfl rfl rfl rfl rfl rfl ?_ ?_)
   ·rintro k2 res H2 ⟨rfl,rfl⟩;split<;>exact⟨rfl,rfl⟩
   rintro k2 res H2 ⟨rfl,rfl⟩;clear w;cases hb:t6 e left[i] with
   | false =>
    rw [<- hr,hb,if_neg (by simp)];change DS _ _ _ _ _ _ _ _;repeat' (first|refine zs ?_|(exfalso;omega))
    exact⟨i+1,⟨hi,λj hj hji=>by
     by_cases hq:j=i
     ·subst hq;exact hb
     ·exact g2 j hj (by omega)⟩,er id,by omega⟩
   | true =>
    have hfi:left.findIdx (t6 e)=i:=findIdx_at hi g2 hb;have hne:eo e left=i:=by unfold eo;rw [hfi,if_pos hi]
    rw [<- hr,hb,if_pos rfl,hne];change DS _ _ _ _ _ _ _ _;repeat' (first|refine zr ?_|(exfalso;omega))
    exact⟨.inl rfl,_,rfl,kp id 4 _ (pfH r S e out) ⟨rfl,rfl⟩⟩
 ·have hno:¬ left.findIdx (t6 e)<left.length:=findIdx_no λj hj=>g2 j hj (by omega)
  have hne:eo e left=left.findIdx λl=>decide (l.kind=1):=by unfold eo;rw [if_neg hno]
  rw [hne] at hn ⊢;have w:=indexLtl_fn (caps:=[]) (f:=220) (λl=>decide (l.kind=1)) left rfl (λx _=>next1_fn x);rw [idxF_findIdx hn] at w;repeat' (first|(apply nr;exact rfl;exact rfl;exact rfl;exact rfl;exact rfl;exact rfl;(refine⟨?_,?_,?_⟩<;>(omega));((with_reducible apply ni);(exact bg _));exact rfl;exact rfl)|refine zr ?_|refine z21 ?_ (hc:=by apply w)|(refine zm ?_ ?_<;>intro hg)|(exfalso;omega))
  exact⟨.inl rfl,_,rfl,kp id 4 _ (pfH r S e out) ⟨rfl,rfl⟩⟩
end
section
open Go Go.RowKit
variable [Bnds]
section
variable {Γ : Ctx} {k : Nat -> Prop} {L : Sl} {H : Hp} {a : Act} {w : World} {e : Env} {t t' ty : TypeId} {x y : Operand}
theorem op_append_rowR [NoDr Γ] {d z:Nat} {te t2 tb:TypeId} {pos:String} {af:Array Edge} {g:Option (Nat×Bool)} {i j es:Nat} {xs ys:List (List D)}
  (hz':¬ k z) (ht:Γ.sh t = .slice te) (hkn:(Γ.sh te).known=true) (hes:Γ.cells te=es) (hpos:As 0 es=true) (hz:Nat.beq (aj Γ.τ te).zero.length (Γ.cells te)=true)
  (hx:ai L x = .row i) (hH:Hp.get H i=some (.row te es xs)) (hy:ai L y = .row j) (hHj:Hp.get H j=some (.row tb es ys)) (hd:As d Γ.n=true)
  (hroom:(xs.length+ys.length)*(aj Γ.τ te).bytes<=140737488355328) (h63:xs.length+ys.length<=maxLen) :
  OpOk Γ ⟨some d,.call { callee:=.builtin .append,args:=#[x,y],argTypes:=#[t,t] },t2,pos,af,g⟩ k L H (m5 k z) ((d,.row z)::L) ((z,.row te es (xs++ys))::Hp.del H i):=by
 intro e a w Q m;have hze:¬ e.dom z:=λh=>hz' ((m.top z).1 h)
 obtain⟨inf,zv,hi,hzz,hs,hb,hzc⟩:=Ctx.info (Sh.known_ne hkn);have hut:=Ctx.slice ht;obtain⟨_,hvx,_⟩:=evT m hx (pu · _);obtain⟨_,hvy,_⟩:=evT m hy (pu · _);obtain⟨vs,ho,hxe,hone,hrep⟩:=(m.heap _ (Hp.mem_of hH)).2;obtain⟨us,hoy,hye,hone2,hrep2⟩:=(m.heap _ (Hp.mem_of hHj)).2;have hsz:inf.size=es:=by rw [hs,hes]
 rw [<- hsz] at ho;have hcase:∃ v' w',(Builtin.append_ #[t,t] t2 #[e.η i,a.eval y]).run Γ.P w = .ok v' w'/\w'.ownsRow 0 te inf.size v' (xs.length+ys.length) (vs++us)/\w.grownBy w' (e.η i).ownBlock/\(∀ c,v'.ownBlock=some c->(e.η i).ownBlock=some c∨w.heap.size<=c):=by
  rcases hoy.2 with ⟨hv,hl0⟩|⟨gb,cap,cur,hv,_⟩
  ·have hys:ys=[]:=Bm hl0;have hu0:us=[]:=Bm (by rw [hoy.1,hl0,Nat.zero_mul]);rw [hvy,hv,hys,hu0];have hrun:=run_append_owned_none (P:=Γ.P) (w:=w) 0 t t2 te inf inf.size hut hi (e.η i) xs.length vs ho;exact⟨e.η i,w,hrun,by simpa using ho,⟨rfl,rfl,rfl,Af _,λ_ _ _=>rfl⟩,λc hc=>.inl hc⟩
  ·have hcells:∀ j u,us[j]?=some u->w.cell? ((⟨gb,0,none⟩:Addr).add j)=some u:=hoy.cells (g:=gb) (by rw [hv];rfl);rw [hvy,hv];exact append_own (P:=Γ.P) (ty:=t2) hut hi hzz (Ctx.zsize hzc hz hs) (by rw [hsz];exact Ac hpos) ho (c:=cap) (by rw [hoy.1,hsz]) hcells hone2 h63 (by rw [hb];exact hroom)
 obtain⟨v',w',hrun,hown',hgr,hblk⟩:=hcase;have hop:(execOp a.eval ⟨some d,.call { callee:=.builtin .append,args:=#[x,y],argTypes:=#[t,t] },t2,pos,af,g⟩).run Γ.P w = .ok (.value v') w':=by
  simp only [execOp,resolve,invoke,builtin,Sem.run_bind,Sem.run_pure,Result.andThen_ok,List.map_toArray,List.map_cons,List.map_nil,hvx,hrun]
 unfold Oper.wp;rw [hop];have hη:(e.bindRow z v').η z=v':=if_pos rfl;have hl:=ho.1;have m2:=m.trade (hb:=.row te es (xs++ys)) hH hz' (e':=e.bindRow z v') (w':=w') (λi=>or_congr (m.top i) Iff.rfl) (e.bindRow_ext _ _ hze) hgr.size hgr.os hgr.tape hgr.output NoDr.any
  (λc hc hne=>hgr.block c hc (λh=>hne (by simp [HB.owned,h]))) (λc hc=>by simp only [HB.owned,hη] at hc;exact hblk c hc) (λhX=>by
   have hkeep:∀ b,b<w.heap.size->¬ Γ.X e H b->w'.heap[b]?=w.heap[b]?:=λb hb hx=>hgr.block b hb (λh=>hx (.inr (List.mem_filterMap.2 ⟨_,Hp.mem_of hH,by simp [HB.owned,h]⟩)))
   obtain⟨q1,q2⟩:=rows_append hxe hye (by rw [hl,hsz]) hrep hrep2;refine⟨vs++us,?_,q1,λv hv=>?_,λi' hi' j hj=>?_⟩
   ·rw [hη,Ap,<- hsz];exact hown'
   ·rcases List.mem_append.1 hv with hv|hv
    ·exact hone v hv
    ·exact hone2 v hv
   ·obtain⟨v,p1,p2⟩:=q2 i' hi' j hj;exact⟨v,p1,RepC.keep hgr.size hkeep hX p2⟩)
 exact⟨_,m2.put (s:=.row z) (v:=v') (Ac hd) ⟨.inr rfl,hη.symm,ownsRow_one hown'⟩⟩
end
section
variable {Γ : Ctx} {k : Nat} {L : Sl} {H : Hp} {K : ca} {ops : List Oper} {rest : List Oper} {t t' ty : TypeId} {x y : Operand}
theorem ds_append_rowR [NoDr Γ] (j:Nat) {d:Nat} {te t2 tb:TypeId} {pos:String} {af:Array Edge} {g:Option (Nat×Bool)} {i es:Nat} {xs ys:List (List D)} {H':Hp}
  (ht:Γ.sh t = .slice te) (hkn:(Γ.sh te).known=true) (hes:Γ.cells te=es) (hpos:As 0 es=true) (hz:Nat.beq (aj Γ.τ te).zero.length (Γ.cells te)=true)
  (hx:ai L x = .row i) (hH:Hp.get H i=some (.row te es xs)) (hy:ai L y = .row j) (hHj:Hp.get H j=some (.row tb es ys)) (hw:aq ops L g=some true) (hd:As d Γ.n=true)
  (hroom:(xs.length+ys.length)*(aj Γ.τ te).bytes<=140737488355328) (h63:xs.length+ys.length<=maxLen) (hD:delF H i some=some H')
  (hk:DS false Γ ops rest K (k+1) ((d,.row k)::L) ((k,.row te es (xs++ys))::H')) :
  DS false Γ ops (⟨some d,.call { callee:=.builtin .append,args:=#[x,y],argTypes:=#[t,t] },t2,pos,af,g⟩::rest) K k L H:=by
 rw [pt] at hD;simp only [Option.some.injEq] at hD;subst hD;exact dl_op hw ((op_append_rowR (jf k) ht hkn hes hpos hz hx hH hy hHj hd hroom h63).cast (gv k)) hk
theorem ds_eqnilR {d i es:Nat} {te tb:TypeId} {pos:String} {af:Array Edge} {g:Option (Nat×Bool)} {xs:List (List D)} (hx:ai L x = .row i) (hH:Hp.get H i=some (.row tb es xs)) (hy:ai L y = .nils) (ht:(aj Γ.τ t).sh = .slice te) (hd:As d Γ.n=true) (hw:aq ops L g=some true)
  (h1:xs=[]->DS false Γ ops rest K k ((d,.d (.bool true))::L) H) (h2:DS false Γ ops rest K k ((d,.d (.bool false))::L) H):DS false Γ ops (⟨some d,.binOp .eql t x y t',ty,pos,af,g⟩::rest) K k L H:=by
 refine jk hw λe a w m=>?_
 obtain⟨_,hvx,_⟩:=evT m hx (pu · _);obtain⟨us,hown,_⟩:=(m.heap _ (Hp.mem_of hH)).2;have hvy:a.eval y = .slice none 0 0:=by
  have hok:opOk y:=by
   cases y with
   | const v=>simp only [ai] at hy;unfold cSV at hy;split at hy<;>simp_all [opOk,cOk]
   | _=>trivial
  have:=m.op y hok
  rw [hy] at this;exact this
 have hv:∃ ao n cap,e.η i = .slice ao n cap/\(ao=none->xs=[]):=by
  rcases hown.2 with ⟨hv,h0⟩|⟨gb,cap,cur,hv,_⟩
  ·exact⟨_,_,_,hv,λ_=>Bm h0⟩
  ·exact⟨_,_,_,hv,λh=>by cases h⟩
 obtain⟨ao,n,cap,hv,hnone⟩:=hv;have hrun:(execOp a.eval ⟨some d,.binOp .eql t x y t',ty,pos,af,g⟩).run Γ.P w = .ok (.value (.bool ao.isNone)) w:=by
  simp [execOp,hvx,hv,hvy,eqGuard,Lib.run_eql_slice_nil w t te ao n cap 0 0 (Ctx.slice ht)]
 unfold Oper.wp;rw [hrun];cases ao with
 | none=>exact⟨k,_,H,e,m.put (s:=.d (.bool true)) (v:=.bool true) (Ac hd) .bool,h1 (hnone rfl)⟩
 | some ad=>exact⟨k,_,H,e,m.put (s:=.d (.bool false)) (v:=.bool false) (Ac hd) .bool,h2⟩
end
variable [Bnds]
attribute [local irreducible] DW DS DL DQ Ev FnOk FnP dp bh DT
theorem half_u64 (i j:Nat) (h:i+j<=9223372036854775807):shrN .u64 (IntKind.u64.wrap ((i:Int)+j)) 1=(((i+j) / 2:Nat):Int):=by
 have hw:IntKind.u64.wrap ((i:Int)+j)=(i:Int)+j:=by simp [IntKind.wrap,IntKind.bits,IntKind.signed];omega
 rw [hw];unfold shrN;rw [show (2:Int) ^ min (1:Int).toNat IntKind.u64.bits=2 from by decide,Int.fdiv_eq_ediv_of_nonneg _ (by decide)];omega
theorem found_at {l:List Fct} {f:Fct} {i:Nat} (hs:Strict l) (h1:∀ p (hp:p<l.length),p<i->cu l[p] f<0) (h2:∀ p (hp:p<l.length),i<=p->0<=cu l[p] f):hasF l f=(if h:i<l.length then decide (cu l[i] f=0) else false):=by
 rw [Bool.eq_iff_iff,hasF_iff];have hpi:=List.pairwise_iff_getElem.1 hs;constructor
 ·intro hm;obtain⟨p,hp,rfl⟩:=List.mem_iff_getElem.1 hm;have hpi':¬ p<i:=λh=>lt_irrefl (h1 p hp h)
  rw [dif_pos (by omega)];by_cases he:p=i
  ·subst he;exact decide_eq_true (js _)
  ·have:=hpi i p (by omega) hp (by omega)
   have:=h2 i (by omega) (Af _)
   omega
 ·intro h;split at h
  ·rename_i hi;rw [<- qp (of_decide_eq_true h)];exact Ag hi
  ·cases h
theorem below_step {l:List Fct} {f:Fct} {h i:Nat} (hs:Strict l) (hml:h<l.length) (_:∀ p (hp:p<l.length),p<i->cu l[p] f<0) (hg:cu l[h] f<0):∀ p (hp:p<l.length),p<h+1->cu l[p] f<0:=by
 intro p hp hlt;by_cases he:p=h
 ·subst he;exact hg
 ·exact l8 (List.pairwise_iff_getElem.1 hs p h hp hml (by omega)) hg
theorem above_step {l:List Fct} {f:Fct} {h:Nat} (hs:Strict l) (hml:h<l.length) (hg:0<=cu l[h] f):∀ p (hp:p<l.length),h<=p->0<=cu l[p] f:=by
 intro p hp hlt;by_cases he:p=h
 ·subst he;exact hg
 ·have h1:=List.pairwise_iff_getElem.1 hs h p hml hp (by omega);have h2:=p6 l[p] l[h];exact ordF_le (by omega) hg
theorem bsearch_fn (l:List Fct) (f:Fct) (hl:l.length<=4398046511104) (hs:Strict l):Fn 129 [.d (.slice 2 (l.map aa)),c9 f,.fn 52 []] (λr=>∃ n:Int,r = .tup [.d (.int .i64 n),.d (.bool (hasF l f))]):=by
 refine fqE Tryz.func129 ?_;intro O w0 E0 β0;have ll:(l.map aa).length=l.length:=Aa _;repeat' (first|refine zs ?_|fail)
 refine ak (ι:=Nat×Nat) (λx=>⟨1,[(0,.d (.slice 2 (l.map aa))),(2,.fn 52 []),(4,.loc 0 0),(8,.d (.int .i64 l.length)),(9,.d (.int .i64 x.1)),(10,.d (.int .i64 x.2))],[(0,.blk 37 [.d (.int .i64 f.pred),.d (.slice 1 (f.args.map ah))])]⟩)
  (λx=>x.1<=x.2/\x.2<=l.length/\(∀ p (hp:p<l.length),p<x.1->cu l[p] f<0)/\(∀ p (hp:p<l.length),x.2<=p->0<=cu l[p] f)) (λx=>x.2-x.1)
  (0,l.length) ⟨Ai _,Af _,λp _ h=>absurd h (A6 p),λp hp h=>by omega⟩ (ag id ⟨rfl,rfl,rfl,by rw [<- ll];rfl,rfl,by rw [<- ll];rfl,trivial⟩ ⟨rfl,trivial⟩ rfl rfl rfl rfl rfl rfl) ?_
 rintro⟨i,j⟩ ⟨g1,g2,g3,g4⟩;dsimp only at g1 g2 g3 g4 ⊢;by_cases hij:i<j
 ·have he:=half_u64 i j (by omega);have hm1:i<=(i+j) / 2:=by omega
  have hm2:(i+j) / 2<j:=by omega
  have hml:(i+j) / 2<l.length:=by omega
  have hw:=jr (l[(i+j) / 2]'hml) f;repeat' ((fail_if_success (apply cp 5));(first|refine zr ?_|(refine zm ?_ ?_<;>intro hg)|fail))
  all_goals try (exfalso;omega)
  refine au (k':=1) (L':=[(11,.d (.int .i64 (((i+j) / 2:Nat):Int))),(0,.d (.slice 2 (l.map aa))),(2,.fn 52 []),(4,.loc 0 0),(8,.d (.int .i64 l.length)),(9,.d (.int .i64 i)),(10,.d (.int .i64 j))]) (H':=[(0,.blk 37 [.d (.int .i64 f.pred),.d (.slice 1 (f.args.map ah))])]) ?_ ?_
  ·rw [<- he];exact er id
  generalize (i+j) / 2=h at *;repeat' (first|refine zs ?_|(apply pb;exact rfl;exact rfl;exact rfl;exact rfl;apply hw;exact rfl;(exact rfl);exact rfl;exact rfl;exact⟨_,rfl⟩;rintro _ rfl)|(refine zm ?_ ?_<;>intro hg)|(exfalso;omega))
  all_goals first
   | exact⟨(h+1,j),⟨by dsimp only;omega,g2,below_step hs hml g3 hg,g4⟩,er id,by show j-(h+1)<j-i;omega⟩
   | exact⟨(i,h),⟨hm1,by dsimp only;omega,g3,above_step hs hml (Int.not_lt.1 hg)⟩,er id,by show h-i<j-i;omega⟩
 ·have hij':i=j:=by omega
  subst hij';have hf:=found_at hs g3 g4;by_cases hil:i<l.length
  ·rw [dif_pos hil] at hf;have hw:=jr l[i] f;rw [hf];repeat' (first|refine zr ?_|(apply pb;exact rfl;exact rfl;exact rfl;exact rfl;apply hw;exact rfl;(exact rfl);exact rfl;exact rfl;exact⟨_,rfl⟩;rintro _ rfl)|(refine zm ?_ ?_<;>intro hg)|(exfalso;omega))
   all_goals exact⟨.inl rfl,_,rfl,rfl,_,rfl⟩
  ·rw [dif_neg hil] at hf;rw [hf];repeat' (first|refine zr ?_|(refine zm ?_ ?_<;>intro hg)|(exfalso;omega))
   exact⟨.inl rfl,_,rfl,rfl,_,rfl⟩
theorem in_fn (l:List Fct) (f:Fct) (hl:l.length<=4398046511104) (hs:Strict l):Fn 71 [.d (.slice 2 (l.map aa)),c9 f] (λr=>r = .d (.bool (hasF l f))):=by
 refine fqE Tryz.func71 ?_;intro O w0 E0 β0;have hb:=bsearch_fn l f hl hs;repeat' (first|refine zs ?_|fail)
 refine ow rfl rfl hb rfl rfl rfl ?_;rintro r ⟨n,rfl⟩;repeat' (first|refine zr ?_|fail)
 exact⟨.inl rfl,_,rfl,rfl,rfl⟩
end
end Go.Proofs.YtapciiffpnociadGreat
