/- Several texts in one: RuE RuG RuK RuS RuT RuV GxRR. Condition: none. -/
import Derived.Test.YtapciiffpnociadGreatA18
import Derived.Test.YtapciiffpnociadGreatA10
import Derived.Test.YtapciiffpnociadGreatA01
import Derived.Test.YtapciiffpnociadGreatA09
namespace Go.Proofs.YtapciiffpnociadGreat
open Go Go.RowKit
theorem recP_num {S:List Fct}:∀ {body:List Ltl} {e e':RE},(∀ l∈body,okL S e.length l)→numE e→recP body e=some e'→numE e'
 | [],e,e',_,hn,h=>by simp only [recP,List.foldlM_nil] at h;cases h;exact hn
 | l::body,e,e',hok,hn,h=>by
  simp only [recP,List.foldlM_cons] at h
  cases h1:recL e l with
  | none=>rw [h1] at h;cases h
  | some e1 =>
   rw [h1] at h
   have g1:=(recL_some (hok l (List.mem_cons_self ..)) h1).1
   exact recP_num (body:=body) (e:=e1) (fun x hx=>by rw [g1];exact hok x (List.mem_cons_of_mem _ hx)) (recL_num (hok l (List.mem_cons_self ..)) hn h1) h
theorem recN_num' {S:List Fct} {body:List Ltl}:∀ {n:Nat} {e e':RE},(∀ l∈body,okL S e.length l)→numE e→recN body n e=some e'→numE e'
 | 0,e,e',_,hn,h=>by simp only [recN,Option.some.injEq] at h;subst h;exact hn
 | n + 1,e,e',hok,hn,h=>by
  rw [recN,Option.bind_eq_some_iff] at h
  obtain⟨e1,h1,h2⟩:=h
  have g1:=(recP_some hok h1).1
  exact recN_num' (fun x hx=>by rw [g1];exact hok x hx) (recP_num hok hn h1) h2
theorem recN_num {S:List Fct} {body:List Ltl} {n:Nat} {e e':RE} (hok:okB S e.length body) (hn:numE e) (h:recN body n e=some e'):numE e':=recN_num' hok.lit hn h
attribute [local irreducible] DW DS DL DQ Ev FnOk FnP ej cd DT
def SortW (l:List (List Int)):Prop:=l.Pairwise fun a b=>ef a b≤0
theorem ordL_le_trans {a b c:List Int} (h:ef a b≤0) (g:ef b c≤0):ef a c≤0:=by
 by_cases h1:ef a b=0
 ·rw [ordL_eq0 h1];exact g
 ·by_cases g1:ef b c=0
  ·rw [← ordL_eq0 g1];exact h
  ·have:=ordL_trans (l:=a) (m:=b) (n:=c) (by omega) (by omega)
   omega
theorem ordL_antisymm {a b:List Int} (h:ef a b≤0) (g:ef b a≤0):a=b:=by
 rw [ordL_anti] at g
 exact ordL_eq0 (by omega)
theorem sortW_unique:∀ {a b:List (List Int)},SortW a→SortW b→a.Perm b→a=b
 | [],b,_,_,h=>by rw [List.nil_perm.1 h]
 | x::a,b,ha,hb,h=>by
  match b,h,hb with
  | [],h,_=>simp at h
  | y::b,h,hb =>
   obtain⟨a1,a2⟩:=List.pairwise_cons.1 ha
   obtain⟨b1,b2⟩:=List.pairwise_cons.1 hb
   have hxy:x=y:=by
    rcases List.mem_cons.1 (h.mem_iff.1 List.mem_cons_self) with h1|h1
    ·exact h1
    ·rcases List.mem_cons.1 (h.mem_iff.2 (List.mem_cons_self (a:=y) (l:=b))) with h2|h2
     ·exact h2.symm
     ·exact ordL_antisymm (a1 y h2) (b1 x h1)
   subst hxy
   rw [sortW_unique a2 b2 (List.perm_cons x |>.1 h)]
theorem same_members {a b:List (List Int)} (ha:a.Nodup) (hb:b.Nodup) (h:∀ x,x∈a↔x∈b):a.Perm b:=(List.perm_ext_iff_of_nodup ha hb).2 h
def factE (arity:List Int) (x:Fct):Int :=
 if inR x.pred 0 ((arity.length:Int) - 1)=false then 5
 else if (x.args.length:Int)≠arity.getD x.pred.toNat 0 then 1
 else if x.args.any (fun n=>!numB n) then 3
 else 0
structure FctOk (arity:List Int) (x:Fct):Prop where
 pred:0≤x.pred∧x.pred < arity.length
 len:(x.args.length:Int)=arity.getD x.pred.toNat 0
 nums:∀ n∈x.args,-1000000≤n∧n≤1000000
theorem numB_in {n:Int} (h:numB n=true):-1000000≤n∧n≤1000000:=by unfold numB inR at h;simpa using h
theorem factE_ok {arity:List Int} {x:Fct} (h:factE arity x=0):FctOk arity x:=by
 unfold factE at h
 split at h;· cases h
 rename_i h1
 split at h;· cases h
 rename_i h2
 split at h;· cases h
 rename_i h3
 refine⟨by unfold inR at h1;simp at h1;omega,by simpa using h2,fun n hn=>?_⟩
 have h3':x.args.any (fun n=>!numB n)=false:=by simpa using h3
 rw [List.any_eq_false] at h3'
 have:=h3' n hn
 exact numB_in (by simpa using this)
theorem firstL_all0 {α:Type} {f:α→Int}:∀ {l:List α},cr f l=0→∀ x∈l,f x=0
 | [],_,_,h=>by simp at h
 | y::l,h,x,hx=>by
  unfold cr at h
  split at h
  ·rename_i h1;exact absurd h h1
  ·rename_i h1
   rcases List.mem_cons.1 hx with rfl|hx
   ·exact Classical.byContradiction h1
   ·exact firstL_all0 h x hx
theorem firstI_all0 {f:Nat→Int}:∀ {k i:Nat},firstI f i k=0→∀ j,i≤j→j < i + k→f j=0
 | 0,_,_,j,h1,h2=>by omega
 | k + 1,i,h,j,h1,h2=>by
  unfold firstI at h
  split at h
  ·rename_i h3;exact absurd h h3
  ·rename_i h3
   by_cases hj:j=i
   ·subst hj;exact Classical.byContradiction h3
   ·exact firstI_all0 h j (by omega) (by omega)
theorem termE_zero {vars:Int} {t:Trm} (h:termE vars t=0):t.var < vars∧-1≤t.var∧(-1000000≤t.n∧t.n≤1000000):=by
 unfold termE at h
 split at h;· cases h
 rename_i h1
 split at h;· cases h
 rename_i h2
 have h1':inR t.var (-1) (vars - 1)=true:=by simpa using h1
 have h3:numB t.n=true:=by
  cases hn:numB t.n with
  | true=>rfl
  | false=>exact absurd (.inl hn) h2
 unfold inR at h1'
 simp at h1'
 exact⟨by omega,by omega,numB_in h3⟩
structure RulR (arity:List Int) (r:Rul):Prop where
 pred:0≤r.pred∧r.pred < arity.length
 tlen:(r.terms.length:Int)=arity.getD r.pred.toNat 0
 vars:0≤r.vars∧r.vars≤8
 terms:∀ t∈r.terms,t.var < r.vars∧-1≤t.var∧(-1000000≤t.n∧t.n≤1000000)
 fold:0≤r.fold∧r.fold≤4
 folded:r.fold≠0→0 < r.terms.length∧0 < r.body.length
 body:r.body.length≤4
 lits:∀ l∈r.body,litE arity r.vars l=0
 safe:safeB r=true
theorem ruleE_right {arity:List Int} {r:Rul} (h:ruleE arity r=0):RulR arity r:=by
 unfold ruleE at h
 split at h;· cases h
 rename_i h1
 split at h;· cases h
 rename_i h2
 split at h;· cases h
 rename_i h3
 split at h
 ·rename_i h4;exact absurd h h4
 rename_i h4
 split at h;· cases h
 rename_i h5
 split at h;· cases h
 rename_i h6
 split at h;· cases h
 rename_i h7
 split at h
 ·rename_i h8;exact absurd h h8
 rename_i h8
 split at h;· cases h
 rename_i h9
 have h1':inR r.pred 0 ((arity.length:Int) - 1)=true:=by simpa using h1
 have h3':inR r.vars 0 8=true:=by simpa using h3
 have h5':inR r.fold 0 4=true:=by simpa using h5
 unfold inR at h1' h3' h5'
 simp at h1' h3' h5'
 refine⟨by omega,by simpa using h2,by omega,fun t ht=>?_,by omega,fun hf=>?_,by omega,fun l hl=>?_,by simpa using h9⟩
 ·have:cr (termE r.vars) r.terms=0:=by unfold termsE at h4;simpa using h4
  exact termE_zero (firstL_all0 this t ht)
 ·have:¬ (r.terms.length=0∨r.body.length=0):=fun hc=>h6 ⟨hf,hc⟩
  omega
 ·have:cr (litE arity r.vars) r.body=0:=by simpa using h8
  exact firstL_all0 this l hl
theorem progE_rule {nameB:ByteArray→Bool} {p:Prg} (h:dh nameB p=0):(∀ r∈p.rules,RulR p.arity r)∧(∀ i,0≤p.arity.getD i 0∧p.arity.getD i 0≤3)∧p.arity.length≤10∧p.rules.length≤12:=by
 unfold dh at h
 split at h;· cases h
 rename_i h1
 split at h;· cases h
 rename_i h2
 split at h
 ·rename_i h3;exact absurd h h3
 rename_i h3
 refine⟨fun r hr=>ruleE_right (firstL_all0 h r hr),fun i=>?_,by omega,by omega⟩
 by_cases hi:i < p.names.length
 ·have h3':firstI (nameE nameB p) 0 p.names.length=0:=by simpa using h3
  have:=firstI_all0 h3' i (Nat.zero_le _) (by omega)
  unfold nameE at this
  split at this;· cases this
  rename_i h4
  have h4':inR (p.arity.getD i 0) 0 3=true:=by simpa using h4
  unfold inR at h4'
  simp only [Bool.and_eq_true,decide_eq_true_eq] at h4'
  exact h4'
 ·rw [List.getD,List.getElem?_eq_none (by omega)]
  exact⟨by simp,by simp⟩
theorem litE_right {arity:List Int} {vars:Int} {l:Ltl} (h:litE arity vars l=0):(1≤l.kind∧l.kind≤4)∧opB l.kind l.op=true∧((l.kind=1∨l.kind=2)→(0≤l.pred∧l.pred < arity.length)∧(l.terms.length:Int)=arity.getD l.pred.toNat 0)∧(¬ (l.kind=1∨l.kind=2)→l.pred=0∧(l.terms.length:Int)=l.kind - 1)∧∀ t∈l.terms,t.var < vars∧-1≤t.var∧(-1000000≤t.n∧t.n≤1000000):=by
 unfold litE at h
 split at h;· cases h
 rename_i h1
 split at h;· cases h
 rename_i h2
 have h1':inR l.kind 1 4=true:=by simpa using h1
 unfold inR at h1'
 simp at h1'
 have h2':opB l.kind l.op=true:=by simpa using h2
 split at h
 ·rename_i hk
  split at h;· cases h
  rename_i h3
  split at h;· cases h
  rename_i h4
  have h3':inR l.pred 0 ((arity.length:Int) - 1)=true:=by simpa using h3
  unfold inR at h3'
  simp at h3'
  exact⟨by omega,h2',fun _=>⟨by omega,by simpa using h4⟩,fun hn=>absurd hk hn,fun t ht=>termE_zero (firstL_all0 h t ht)⟩
 ·rename_i hk
  split at h;· cases h
  rename_i h3
  refine⟨by omega,h2',fun hc=>absurd hc hk,fun _=>?_,fun t ht=>termE_zero (firstL_all0 h t ht)⟩
  exact⟨Classical.byContradiction fun hc=>h3 (.inl hc),Classical.byContradiction fun hc=>h3 (.inr hc)⟩
theorem lit_okL {arity:List Int} {vars:Int} {l:Ltl} {S:List Fct} (h:litE arity vars l=0) (hv:0≤vars) (hS:∀ x∈S,FctOk arity x):okL S vars.toNat l:=by
 obtain⟨h1,h2,h3,h4,h5⟩:=litE_right h
 refine⟨h1,fun t ht=>?_,fun hk=>?_,fun hk=>?_,fun hk x hx hp=>?_⟩
 ·have:=h5 t ht;unfold okT;omega
 ·have:=h4 (by omega);omega
 ·have:=h4 (by omega);omega
 ·have g1:=(h3 (.inl hk)).2
  have g2:=(hS x hx).len
  rw [hp] at g2;omega
theorem setT_into {bs cs:List Bool} {t:Trm} (h:leB bs cs) (ht:isT cs t=true):leB (setT bs t) cs:=by
 refine⟨(setT_len bs t).trans h.1,fun i hi=>?_⟩
 unfold setT at hi
 split at hi
 ·exact h.2 i hi
 ·rename_i hv
  by_cases hq:t.var.toNat=i
  ·subst hq
   unfold isT at ht
   rw [decide_eq_false hv,Bool.false_or] at ht
   exact ht
  ·rw [List.getD,List.getElem?_set_ne hq,← List.getD] at hi
   exact h.2 i hi
theorem setTs_into {cs:List Bool}:∀ {l:List Trm} {bs:List Bool},leB bs cs→(∀ t∈l,isT cs t=true)→leB (l.foldl setT bs) cs
 | [],_,h,_=>h
 | t::l,_,h,ht=>setTs_into (l:=l) (setT_into h (ht t (List.mem_cons_self ..))) fun x hx=>ht x (List.mem_cons_of_mem _ hx)
theorem bLit_into {body:List Ltl} {bs cs:List Bool} {l:Ltl} (hl:l∈body) (h:leB bs cs) (hc:closedB body cs):leB (bLit bs l) cs:=by
 unfold bLit
 split
 ·rename_i hf;exact setTs_into h (hc l hl (fires_mono h hf))
 ·exact h
theorem bRound_into {body:List Ltl} {cs:List Bool} (hc:closedB body cs):∀ (ls:List Ltl) {bs:List Bool},(∀ l∈ls,l∈body)→leB bs cs→leB (bRound ls bs) cs
 | [],_,_,h=>h
 | l::ls,_,hs,h=>bRound_into hc ls (fun x hx=>hs x (List.mem_cons_of_mem _ hx)) (bLit_into (hs l (List.mem_cons_self ..)) h hc)
theorem bIter_into {body:List Ltl} {cs:List Bool} (hc:closedB body cs):∀ (n:Nat) {bs:List Bool},leB bs cs→leB (bIter body n bs) cs
 | 0,_,h=>h
 | n + 1,_,h=>bIter_into hc n (bRound_into hc body (fun _ hl=>hl) h)
theorem safe_Bd {r:Rul} (h:safeB r=true):Bd r.body (List.replicate r.vars.toNat false):=by
 intro cs h1 h2 v hv
 refine (bIter_into h2 (r.body.length + 1) h1).2 v ?_
 unfold safeB boundL at h
 rw [List.all_eq_true] at h
 have hl:v < (bIter r.body (r.body.length + 1) (List.replicate r.vars.toNat false)).length:=by rw [bIter_len,h1.1];exact hv
 rw [List.getD,List.getElem?_eq_getElem hl]
 exact h _ (List.getElem_mem hl)
abbrev e0 (v:Nat):RE:=List.replicate v none
theorem hasE_e0 (v:Nat):c9 (e0 v)=List.replicate v false:=by unfold c9 e0;rw [List.map_replicate];rfl
theorem outE_e0 (v:Nat):cv (e0 v)=List.replicate v 0:=by unfold cv e0;rw [List.map_replicate];rfl
def yesOf (body:List Ltl):List Ltl:=body.filter fun l=>decide (l.kind=1)
theorem ways_perm {S:List Fct} {v:Nat} {body:List Ltl} (hS:S.Nodup) (hok:∀ l∈body,okL S v l) (hB:Bd body (List.replicate v false)) :
  (findE S body.length body (e0 v)).Perm (fromE S body (yesOf body) (e0 v))∧(fromE S body (yesOf body) (e0 v)).Nodup∧(∀ a,a∈fromE S body (yesOf body) (e0 v)↔a.length=v∧∀ l∈body,holdE S l a=true):=by
 have hl:(e0 v).length=v:=List.length_replicate
 have hok':∀ l∈body,okL S (e0 v).length l:=fun l h=>by rw [hl];exact hok l h
 have hB':Bd body (c9 (e0 v)):=by rw [hasE_e0];exact hB
 obtain⟨g1,g2⟩:=fromE_spec S hS body (yesOf body) (e0 v) (fun l h=>⟨(List.mem_filter.1 h).1,of_decide_eq_true (List.mem_filter.1 h).2⟩) hok' hB' (fun l h h1=>.inl (List.mem_filter.2 ⟨h,decide_eq_true h1⟩))
 have g3:=findE_mem S body.length body (e0 v) (Nat.le_refl _) hok' hB'
 have g4:=findE_nodup S hS body.length body (e0 v) (Nat.le_refl _) hok' hB'
 refine⟨same_members g4 g2 fun a=>(g3 a).trans (g1 a).symm,g2,fun a=>(g1 a).trans (and_congr_left fun _=>?_)⟩
 unfold extE
 rw [hl]
 refine⟨fun h=>h.1,fun h=>⟨h,fun u x hx=>?_⟩⟩
 unfold e0 at hx
 rw [List.getElem?_replicate] at hx
 split at hx <;> simp at hx
def waysL (S:List Fct) (v:Nat) (body:List Ltl):List (List Int):=(fromE S body (yesOf body) (e0 v)).mergeSort fun a b=>decide (ef a b≤0)
theorem waysL_perm (S:List Fct) (v:Nat) (body:List Ltl):(waysL S v body).Perm (fromE S body (yesOf body) (e0 v)):=List.mergeSort_perm _ _
theorem waysL_sort (S:List Fct) (v:Nat) (body:List Ltl):SortW (waysL S v body):=by
 have:=List.pairwise_mergeSort (le:=fun a b=>decide (ef a b≤0)) (fun a b c h g=>decide_eq_true (ordL_le_trans (of_decide_eq_true h) (of_decide_eq_true g))) (fun a b=>by
  rw [Bool.or_eq_true,decide_eq_true_eq,decide_eq_true_eq,ordL_anti b a];omega) (fromE S body (yesOf body) (e0 v))
 exact this.imp fun h=>of_decide_eq_true h
theorem waysL_eq {S:List Fct} {v:Nat} {body:List Ltl} {o:List (List Int)} (h:SortW o) (hp:o.Perm (fromE S body (yesOf body) (e0 v))):o=waysL S v body :=
 sortW_unique h (waysL_sort S v body) (hp.trans (waysL_perm S v body).symm)
abbrev pfB (r:Rul) (S:List Fct) (o:Nat):HB:=.blk 168 [.d (.int .i64 r.pred),.d (.slice 2 (r.terms.map br)),.d (.int .i64 r.fold),.d (.slice 4 (r.body.map bp)),.d (.int .i64 r.vars),.d (.slice 2 (S.map ba)),.row 1,.row 2,.d (.int .i64 2000),.row o]
abbrev pfH (r:Rul) (S:List Fct) (e:RE) (out:List (List Int)):Hp:=[(0,pfB r S 3),(1,.row 3 1 ((cv e).map bi)),(2,.row 4 1 ((c9 e).map encBl)),(3,.row 22 1 (out.map encW))]
set_option maxHeartbeats 8000000 in
theorem value_fn (r:Rul) (S:List Fct) (out:List (List Int)) (e:RE) (t:Trm) (ho:okT e.length t) :
  FnOk false Tryz.prog tab cn 222 [.loc 0 0,elTrm t] 4 4 (pfH r S e out) (fun _ res H=>res = .tup [.d (.int .i64 (vA (cv e) t)),.d (.bool (vOf e t).isSome)]∧H=pfH r S e out):=by
 refine co _ Tryz.func222 rfl rfl (by kernel_rfl) ?_
 intro O w0 E0 β0
 have lo:((cv e).map bi).length=e.length:=by rw [List.length_map,outE_len]
 have lh:((c9 e).map encBl).length=e.length:=by rw [List.length_map,em]
 unfold okT at ho
 by_cases hv:t.var < 0
 ·have h1:vA (cv e) t=t.n:=by unfold vA;rw [if_pos hv]
  have h2:(vOf e t).isSome=true:=by unfold vOf;rw [if_pos hv];rfl
  rw [h1,h2]
  repeat' (first|refine z0 ?_|apply ag|refine z5 ?_|refine z10 ?_|apply ae|refine z16 ?_|refine z20 ?_|apply ai|apply aj|apply aa|apply av|refine z1 ?_|(refine z23 ?_ ?_ <;> intro hg)|fail)
  all_goals try (exfalso;omega)
  exact⟨.inl rfl,_,rfl,id,4,_,pfH r S e out,rfl,⟨rfl,rfl,rfl,rfl,trivial⟩,rfl,rfl,rfl,rfl,rfl,rfl,rfl,rfl⟩
 ·have hlt:t.var.toNat < e.length:=by omega
  have h1:vA (cv e) t=(cv e)[t.var.toNat]'(by rw [outE_len];exact hlt):=by unfold vA;rw [if_neg hv,List.getD,List.getElem?_eq_getElem (by rw [outE_len];exact hlt)];rfl
  have h2:(vOf e t).isSome=(c9 e)[t.var.toNat]'(by rw [em];exact hlt):=by
   unfold vOf c9;rw [if_neg hv,List.getD,List.getElem?_eq_getElem hlt,List.getElem_map];rfl
  rw [h1,h2]
  repeat' (first|refine z0 ?_|apply ag|refine z5 ?_|refine z10 ?_|apply ae|refine z16 ?_|refine z20 ?_|apply ai|apply aj|apply aa|apply av|refine z1 ?_|(refine z23 ?_ ?_ <;> intro hg)|fail)
  all_goals try (exfalso;omega)
  exact⟨.inl rfl,_,rfl,id,4,_,pfH r S e out,rfl,⟨rfl,rfl,rfl,rfl,trivial⟩,rfl,rfl,rfl,rfl,rfl,rfl,rfl,rfl⟩
set_option maxHeartbeats 8000000 in
theorem values_fn (r:Rul) (S:List Fct) (out:List (List Int)) (e:RE) (l:List Trm) (ho:∀ t∈l,okT e.length t) (hl:l.length≤4398046511104) :
  FnOk false Tryz.prog tab cn 167 [.loc 0 0,.d (.slice 2 (l.map br))] 4 4 (pfH r S e out)
   (fun _ res H=>res=(if l.all (fun t=>(vOf e t).isSome) then .tup [.d (.slice 1 ((l.map (vA (cv e))).map bi)),.d (.bool true)] else .tup [.d (.slice 1 []),.d (.bool false)])∧H=pfH r S e out):=by
 refine co _ Tryz.func167 rfl rfl (by kernel_rfl) ?_
 intro O w0 E0 β0
 have ll:(l.map br).length=l.length:=List.length_map _
 repeat' ((fail_if_success (apply dw_stopR 2));(first|refine z0 ?_|apply ag|apply ae|refine z16 ?_|apply aa))
 refine bg (dv (t:=6) 3 1 rfl) ?_
 repeat' (first|refine z0 ?_|apply ag|apply ae|refine z16 ?_|apply ah|apply aa)
 refine bh (ι:=Nat) (fun i=>⟨5,[(0,.loc 0 0),(1,.d (.slice 2 (l.map br))),(6,.row 4),(11,.d (.slice 2 (l.map br))),(12,.d (.int .i64 l.length)),(13,.d (.int .i64 i))],(4,.row 3 1 (((l.take i).map (vA (cv e))).map bi))::pfH r S e out⟩)
  (fun i=>i≤l.length∧(l.take i).all (fun t=>(vOf e t).isSome)=true) (fun i=>l.length - i) 0 ⟨Nat.zero_le _,rfl⟩ (ap id ⟨rfl,rfl,rfl,rfl,by rw [← ll];rfl,rfl,trivial⟩ ⟨rfl,rfl,rfl,rfl,rfl,trivial⟩ rfl rfl rfl rfl rfl rfl) ?_
 rintro i ⟨g1,g2⟩
 dsimp only at g1 g2 ⊢
 by_cases hi:i < l.length
 ·have w:=value_fn r S out e l[i] (ho _ (List.getElem_mem hi))
  have ht:l.take (i + 1)=l.take i++[l[i]]:=List.take_succ_eq_append_getElem hi
  repeat' (first|refine z0 ?_|apply ag|apply ae|refine z16 ?_|apply ah|apply ai|apply au|apply aj|apply aa|apply aq|refine z17 ?_|refine z1 ?_|refine z3 ?_|(refine z23 ?_ ?_ <;> intro hg)|fail)
  all_goals try (exfalso;omega)
  (refine bx id (w) rfl rfl rfl rfl ⟨rfl,rfl,rfl,rfl,trivial⟩ rfl rfl rfl rfl rfl rfl ?_ ?_)
  ·rintro k2 res H2 ⟨rfl,rfl⟩;exact⟨rfl,rfl⟩
  rintro k2 res H2 ⟨rfl,rfl⟩
  change DS _ _ _ _ _ _ _ _
  cases hs:(vOf e l[i]).isSome with
  | false =>
   have hall:l.all (fun t=>(vOf e t).isSome)=false:=by rw [List.all_eq_false];exact⟨_,List.getElem_mem hi,by rw [hs];simp⟩
   rw [hall]
   simp only [Bool.false_eq_true,if_false]
   repeat' (first|refine z0 ?_|apply ag|apply ae|refine z16 ?_|refine z18 ?_|apply aa)
   all_goals try (exfalso;omega)
   refine bg (df 4 1 rfl) ?_
   repeat' (first|apply aj|apply av|apply bn)
   exact⟨.inl rfl,_,rfl,id,4,_,pfH r S e out,rfl,⟨rfl,rfl,rfl,rfl,trivial⟩,rfl,rfl,rfl,rfl,rfl,rfl,rfl,rfl⟩
  | true =>
   repeat' (first|refine z0 ?_|apply ag|apply ae|refine z16 ?_|apply ai|refine z19 ?_|apply aa|apply bf|refine z4 ?_|refine z2 ?_|fail)
   all_goals try (exfalso;omega)
   exact⟨i + 1,⟨hi,by rw [ht,List.all_append,g2];simp [hs]⟩,ap (fun j=>match j with|4=>6|j=>j) ⟨rfl,rfl,rfl,rfl,rfl,rfl,trivial⟩ ⟨by rw [ht,List.map_append,List.map_append];rfl,rfl,rfl,rfl,rfl,trivial⟩ rfl rfl rfl rfl rfl rfl,by omega⟩
 ·rw [List.take_of_length_le (by omega)] at g2 ⊢
  rw [g2,if_pos rfl]
  repeat' (first|refine z0 ?_|apply ag|apply ae|refine z16 ?_|apply ah|apply ai|apply au|apply aa|apply aq|refine z17 ?_|refine z1 ?_|refine z3 ?_|(refine z23 ?_ ?_ <;> intro hg)|fail)
  all_goals try (exfalso;omega)
  refine bg (di 4 rfl rfl rfl) ?_
  repeat' (apply aj)
  exact⟨.inl rfl,_,rfl,id,4,_,pfH r S e out,rfl,⟨rfl,rfl,rfl,rfl,trivial⟩,rfl,rfl,rfl,rfl,rfl,rfl,rfl,rfl⟩
set_option maxHeartbeats 8000000 in
theorem calc_fn (op a b:Int) (ha:-1000000≤a∧a≤1000000) (hb:-1000000≤b∧b≤1000000):Fn 168 [.d (.int .i64 op),.d (.int .i64 a),.d (.int .i64 b)] (fun r=>r = .d (.int .i64 (calcE op a b))):=by
 refine ak _ Tryz.func168 rfl rfl (by kernel_rfl) ?_
 intro O w0 E0 β0
 have hm:-1000000000000≤a * b∧a * b≤1000000000000:=by
  have h1:a.natAbs≤1000000:=by omega
  have h2:b.natAbs≤1000000:=by omega
  have h3:(a * b).natAbs≤1000000 * 1000000:=by rw [Int.natAbs_mul];exact Nat.mul_le_mul h1 h2
  omega
 unfold calcE
 by_cases h5:op=5
 ·rw [if_pos h5]
  repeat' (first|refine z0 ?_|apply ag|apply ae|refine z16 ?_|apply ah|apply ai|apply aj|apply aa|apply av|apply bf|apply bn|(refine z23 ?_ ?_ <;> intro hg)|fail)
  all_goals try (exfalso;omega)
  all_goals exact⟨.inl rfl,_,rfl,rfl,rfl⟩
 ·rw [if_neg h5]
  by_cases h6:op=6
  ·rw [if_pos h6]
   repeat' (first|refine z0 ?_|apply ag|apply ae|refine z16 ?_|apply ah|apply ai|apply aj|apply aa|apply av|apply bf|apply bn|(refine z23 ?_ ?_ <;> intro hg)|fail)
   all_goals try (exfalso;omega)
   all_goals exact⟨.inl rfl,_,rfl,rfl,rfl⟩
  ·rw [if_neg h6]
   repeat' (first|refine z0 ?_|apply ag|apply ae|refine z16 ?_|apply ah|apply ai|apply aj|apply aa|apply av|apply bf|apply bn|(refine z23 ?_ ?_ <;> intro hg)|fail)
   all_goals try (exfalso;omega)
   exact⟨.inl rfl,_,rfl,rfl,rfl⟩
set_option maxHeartbeats 8000000 in
theorem test_fn (op a b:Int):Fn 169 [.d (.int .i64 op),.d (.int .i64 a),.d (.int .i64 b)] (fun r=>r = .d (.bool (testE op a b))):=by
 refine ak _ Tryz.func169 rfl rfl (by kernel_rfl) ?_
 intro O w0 E0 β0
 unfold testE
 by_cases h1:op=1
 ·rw [if_pos h1]
  repeat' (first|refine z0 ?_|apply ag|apply ae|refine z16 ?_|apply ah|apply ai|apply aj|apply aa|apply av|apply bf|apply bn|(refine z23 ?_ ?_ <;> intro hg)|fail)
  all_goals try (exfalso;omega)
  all_goals exact⟨.inl rfl,_,rfl,rfl,rfl⟩
 ·rw [if_neg h1]
  by_cases h2:op=2
  ·rw [if_pos h2]
   repeat' (first|refine z0 ?_|apply ag|apply ae|refine z16 ?_|apply ah|apply ai|apply aj|apply aa|apply av|apply bf|apply bn|(refine z23 ?_ ?_ <;> intro hg)|fail)
   all_goals try (exfalso;omega)
   all_goals exact⟨.inl rfl,_,rfl,rfl,rfl⟩
  ·rw [if_neg h2]
   by_cases h3:op=3
   ·rw [if_pos h3]
    repeat' (first|refine z0 ?_|apply ag|apply ae|refine z16 ?_|apply ah|apply ai|apply aj|apply aa|apply av|apply bf|apply bn|(refine z23 ?_ ?_ <;> intro hg)|fail)
    all_goals try (exfalso;omega)
    all_goals exact⟨.inl rfl,_,rfl,rfl,rfl⟩
   ·rw [if_neg h3]
    repeat' (first|refine z0 ?_|apply ag|apply ae|refine z16 ?_|apply ah|apply ai|apply aj|apply aa|apply av|apply bf|apply bn|(refine z23 ?_ ?_ <;> intro hg)|fail)
    all_goals try (exfalso;omega)
    exact⟨.inl rfl,_,rfl,rfl,rfl⟩
def unset (e:RE) (vs:List Int):RE:=vs.foldl (fun e v=>e.set v.toNat none) e
theorem unset_len:∀ (vs:List Int) (e:RE),(unset e vs).length=e.length
 | [],_=>rfl
 | v::vs,e=>by
  show (unset (e.set v.toNat none) vs).length=_
  rw [unset_len vs,List.length_set]
theorem unset_set:∀ (vs:List Int) (e:RE) (v:Nat) (y:Option Int),(∀ u∈vs,u.toNat≠v)→unset (e.set v y) vs=(unset e vs).set v y
 | [],_,_,_,_=>rfl
 | u::vs,e,v,y,h=>by
  show unset ((e.set v y).set u.toNat none) vs=(unset (e.set u.toNat none) vs).set v y
  rw [List.set_comm _ _ (Ne.symm (h u (List.mem_cons_self ..)) ),unset_set vs _ v y fun x hx=>h x (List.mem_cons_of_mem _ hx)]
theorem unset_get:∀ (vs:List Int) (e:RE) (v:Nat),(∀ u∈vs,u.toNat≠v)→(unset e vs)[v]? = e[v]?
 | [],_,_,_=>rfl
 | u::vs,e,v,h=>by
  show (unset (e.set u.toNat none) vs)[v]? = _
  rw [unset_get vs _ v fun x hx=>h x (List.mem_cons_of_mem _ hx),List.getElem?_set_ne (h u (List.mem_cons_self ..))]
theorem unset_snoc {e:RE} {vs:List Int} {v:Int} {y:Option Int} (hv:e[v.toNat]? = some none) (h:∀ u∈vs,u.toNat≠v.toNat):unset (e.set v.toNat y) (vs++[v])=unset e vs:=by
 have:unset (e.set v.toNat y) (vs++[v])=(unset (e.set v.toNat y) vs).set v.toNat none:=by unfold unset;rw [List.foldl_append];rfl
 rw [this,unset_set vs e _ _ h,List.set_set]
 have hg:=unset_get vs e v.toNat h
 rw [hv] at hg
 apply List.ext_getElem?
 intro j
 by_cases hj:v.toNat=j
 ·subst hj
  rw [hg,List.getElem?_set_self (List.getElem?_eq_some_iff.1 hg).1]
 ·rw [List.getElem?_set_ne hj]
theorem unset_take {e:RE} {vs:List Int} {k:Nat} (hk:k < vs.length):unset e (vs.take (k + 1))=(unset e (vs.take k)).set vs[k].toNat none:=by
 unfold unset;rw [List.take_succ_eq_append_getElem hk,List.foldl_append];rfl
theorem outE_unset (e:RE) (v:Nat):cv (e.set v none)=(cv e).set v 0:=by unfold cv;rw [List.map_set];rfl
theorem hasE_unset (e:RE) (v:Nat):c9 (e.set v none)=(c9 e).set v false:=by unfold c9;rw [List.map_set];rfl
theorem outE_set' (e:RE) (v:Nat) (x:Int):cv (e.set v (some x))=(cv e).set v x:=by unfold cv;rw [List.map_set];rfl
theorem hasE_set' (e:RE) (v:Nat) (x:Int):c9 (e.set v (some x))=(c9 e).set v true:=by unfold c9;rw [List.map_set];rfl
abbrev goH (r:Rul) (S:List Fct) (rest:List Ltl) (e:RE) (out:List (List Int)):Hp:=[(0,pfB r S 5),(1,.row 3 1 ((cv e).map bi)),(2,.row 4 1 ((c9 e).map encBl)),(3,.blk 166 [.loc 0 0]),(4,.blk 62 [.d (.slice 4 (rest.map bp))]),(5,.row 22 1 (out.map encW))]
def putW (w out:List (List Int)):List (List Int):=(out++w).take 2001
def fewW (w out:List (List Int)):Bool:=decide (out.length + w.length≤2000)
theorem putW_nil {out:List (List Int)} (h:out.length≤2000):putW [] out=out:=by unfold putW;rw [List.append_nil,List.take_of_length_le (by omega)]
theorem fewW_nil {out:List (List Int)} (h:out.length≤2000):fewW [] out=true:=by unfold fewW;simp;omega
def matW (W:RE→List (List Int)) (o:Option RE):List (List Int):=match o with|some e'=>W e'|none=>[]
theorem rowOk {α:Type} {f:α→List D} {l:List α} {i:Nat} (h:i < l.length) (hf:∀ x,(f x).length=1):i < (l.map f).length∧∀ y∈l.map f,y.length=1:=⟨by rw [List.length_map];exact h,fun y hy=>by obtain⟨z,_,rfl⟩:=List.mem_map.1 hy;exact hf z⟩
set_option maxHeartbeats 8000000 in
theorem match_fnR (r:Rul) (S:List Fct) (rest:List Ltl) (out:List (List Int)) (e:RE) (l:List Trm) (ns:List Int) (W:RE→List (List Int)) (hl:l.length=ns.length) (hl3:l.length≤1000) (ho:∀ t∈l,okT e.length t) (hout:out.length≤2000)
  (hthen:∀ e',dg e l ns=some e'→FnOk false Tryz.prog tab cn 165 [.loc 3 0,.loc 4 0] 5 6 (goH r S rest e' out) (fun k2 res H=>k2=6∧res = .d (.bool (fewW (W e') out))∧H=goH r S rest e' (putW (W e') out))) :
  FnOk false Tryz.prog tab cn 166 [.loc 0 0,.d (.slice 2 (l.map br)),.d (.slice 1 (ns.map bi)),.fn 165 [.loc 3 0,.loc 4 0]] 5 6 (goH r S rest e out)
   (fun k2 res H=>k2=6∧res = .d (.bool (fewW (matW W (dg e l ns)) out))∧H=goH r S rest e (putW (matW W (dg e l ns)) out)):=by
 refine co _ Tryz.func166 rfl rfl (by kernel_rfl) ?_
 intro O w0 E0 β0
 have ll:(l.map br).length=l.length:=List.length_map _
 have ln:(ns.map bi).length=ns.length:=List.length_map _
 repeat' ((fail_if_success (apply dw_stopR 3));(first|refine z0 ?_|apply ag|apply ae|refine z16 ?_|apply aa))
 refine bg (dv (t:=9) 3 1 rfl) ?_
 refine dw_cut (ι:=RE × List Int × Bool) (fun x=>⟨7,[(0,.loc 0 0),(3,.fn 165 [.loc 3 0,.loc 4 0]),(9,.row 6),(10,.d (.bool x.2.2))],(6,.row 3 1 (x.2.1.map bi))::goH r S rest x.1 out⟩)
  (fun x=>x.1.length=e.length∧unset x.1 x.2.1=e∧(∀ u∈x.2.1,0≤u∧∃ y,x.1[u.toNat]? = some (some y))∧(x.2.2=true→dg e l ns=some x.1)∧(x.2.2=false→dg e l ns=none)∧x.2.1.length≤l.length) ?_ ?_
 ·repeat' (first|refine z0 ?_|apply ag|apply ae|refine z16 ?_|apply ah|apply aa)
  refine bh (ι:=Nat × RE × List Int) (fun x=>⟨7,[(0,.loc 0 0),(1,.d (.slice 2 (l.map br))),(2,.d (.slice 1 (ns.map bi))),(3,.fn 165 [.loc 3 0,.loc 4 0]),(9,.row 6),(10,.d (.bool true)),(18,.d (.slice 2 (l.map br))),(19,.d (.int .i64 l.length)),(20,.d (.int .i64 x.1))],(6,.row 3 1 (x.2.2.map bi))::goH r S rest x.2.1 out⟩)
   (fun x=>x.1≤l.length∧x.2.1.length=e.length∧dg e l ns=dg x.2.1 (l.drop x.1) (ns.drop x.1)∧unset x.2.1 x.2.2=e∧(∀ u∈x.2.2,0≤u∧∃ y,x.2.1[u.toNat]? = some (some y))∧x.2.2.length≤x.1) (fun x=>l.length - x.1) (0,e,[]) ⟨Nat.zero_le _,rfl,rfl,rfl,fun _ h=>(by simp at h),Nat.le_refl _⟩
   (ap id ⟨rfl,rfl,rfl,rfl,rfl,rfl,rfl,by rw [← ll];rfl,rfl,trivial⟩ ⟨rfl,rfl,rfl,rfl,rfl,rfl,rfl,trivial⟩ rfl rfl rfl rfl rfl rfl) ?_
  rintro⟨i,ei,vs⟩ ⟨g1,g2,g3,g4,g5,g6⟩
  dsimp only at g1 g2 g3 g4 g5 g6 ⊢
  clear hthen
  by_cases hi:i < l.length
  ·have hoi:=ho _ (List.getElem_mem hi)
   rw [← g2] at hoi
   have w:=value_fn r S out ei l[i] hoi
   have hn:i < ns.length:=by omega
   rw [List.drop_eq_getElem_cons hi,List.drop_eq_getElem_cons hn,dg] at g3
   repeat' (first|refine z0 ?_|apply ag|apply ae|refine z16 ?_|apply ah|apply ai|apply au|apply aa|apply aq|refine z17 ?_|refine z1 ?_|refine z3 ?_|(refine z23 ?_ ?_ <;> intro hg)|fail)
   all_goals try (exfalso;omega)
   refine bx (fun j=>match j with|3=>5|j=>j) w rfl rfl rfl rfl ⟨rfl,rfl,rfl,rfl,trivial⟩ rfl rfl rfl rfl rfl rfl ?_ ?_
   ·rintro k2 res H2 ⟨rfl,rfl⟩;exact⟨rfl,rfl⟩
   rintro k2 res H2 ⟨rfl,rfl⟩
   change DS _ _ _ _ _ _ _ _
   clear w
   cases hv:vOf ei l[i] with
   | some x =>
    have hx:vA (cv ei) l[i]=x:=vOf_out hv
    rw [hv] at g3
    simp only at g3
    rw [hx]
    by_cases hc:x=ns[i]
    ·rw [if_pos hc] at g3
     repeat' (first|refine z0 ?_|apply ag|apply ae|refine z16 ?_|apply ah|apply ai|apply au|refine z18 ?_|refine z19 ?_|apply aa|apply aq|apply bf|refine z17 ?_|(apply inB_x;exact rfl)|(refine z23 ?_ ?_ <;> intro hg)|fail)
     all_goals try (exfalso;omega)
     exact⟨(i + 1,ei,vs),⟨hi,g2,g3,g4,g5,by dsimp only;omega⟩,ap id ⟨rfl,rfl,rfl,rfl,rfl,rfl,rfl,rfl,rfl,trivial⟩ ⟨rfl,rfl,rfl,rfl,rfl,rfl,rfl,trivial⟩ rfl rfl rfl rfl rfl rfl,by show l.length - (i + 1) < l.length - i;omega⟩
    ·rw [if_neg hc] at g3
     repeat' (first|refine z0 ?_|apply ag|apply ae|refine z16 ?_|apply ah|apply ai|apply au|refine z18 ?_|refine z19 ?_|apply aa|apply aq|apply bf|refine z17 ?_|(apply inB_x;exact rfl)|(refine z23 ?_ ?_ <;> intro hg)|fail)
     all_goals try (exfalso;omega)
     exact⟨(ei,vs,false),⟨g2,g4,g5,(fun h=>(nomatch h)),fun _=>g3,by dsimp only;omega⟩,ap id ⟨rfl,rfl,rfl,rfl,trivial⟩ ⟨rfl,rfl,rfl,rfl,rfl,rfl,rfl,trivial⟩ rfl rfl rfl rfl rfl rfl⟩
   | none =>
    rw [hv] at g3
    simp only at g3
    have hv0:¬ l[i].var < 0:=fun h=>by unfold vOf at hv;rw [if_pos h] at hv;cases hv
    unfold okT at hoi
    have hlt:l[i].var.toNat < ei.length:=by omega
    have hev:ei[l[i].var.toNat]? = some none:=by
     unfold vOf at hv
     rw [if_neg hv0,List.getD,List.getElem?_eq_getElem hlt] at hv
     rw [List.getElem?_eq_getElem hlt]
     simpa using hv
    have lo:((cv ei).map bi).length=ei.length:=by rw [List.length_map,outE_len]
    have lh:((c9 ei).map encBl).length=ei.length:=by rw [List.length_map,em]
    have hpm:l[i].var.toNat < ((cv ei).map bi).length∧∀ y∈(cv ei).map bi,y.length=1:=rowOk (by rw [outE_len];exact hlt) fun _=>rfl
    have hpk:l[i].var.toNat < ((c9 ei).map encBl).length∧∀ y∈(c9 ei).map encBl,y.length=1:=rowOk (by rw [em];exact hlt) fun _=>rfl
    have hne:∀ u∈vs,u.toNat≠l[i].var.toNat:=fun u hu he=>by
     obtain⟨_,y,hy⟩:=g5 u hu
     rw [he,hev] at hy;cases hy
    repeat' (first|refine z0 ?_|refine z12 ?_|apply ag|refine z5 ?_|refine z6 ?_|refine z10 ?_|apply ae|refine z16 ?_|refine z20 ?_|apply ah|apply ai|refine z18 ?_|refine z19 ?_|apply aa|apply bf|refine z4 ?_|refine z2 ?_|fail)
    all_goals try (exfalso;omega)
    have o1:=outE_set' ei l[i].var.toNat ns[i]
    have o2:=hasE_set' ei l[i].var.toNat ns[i]
    refine⟨(i + 1,ei.set l[i].var.toNat (some ns[i]),vs++[l[i].var]),⟨hi,by dsimp only;rw [List.length_set];exact g2,g3,(unset_snoc hev hne).trans g4,fun u hu=>?_,by dsimp only;rw [List.length_append,List.length_singleton];omega⟩,
     ap (fun j=>match j with|6=>8|j=>j) ⟨rfl,rfl,rfl,rfl,rfl,rfl,rfl,rfl,rfl,trivial⟩ ⟨by rw [List.map_append];rfl,rfl,by rw [o1,List.map_set];rfl,by rw [o2,List.map_set];rfl,rfl,rfl,rfl,trivial⟩ rfl rfl rfl rfl rfl rfl,by show l.length - (i + 1) < l.length - i;omega⟩
    rcases List.mem_append.1 hu with hu|hu
    ·obtain⟨q1,y,q2⟩:=g5 u hu
     exact⟨q1,y,by dsimp only;rw [List.getElem?_set_ne (Ne.symm (hne u hu))];exact q2⟩
    ·rw [List.mem_singleton] at hu;subst hu
     exact⟨by omega,ns[i],by dsimp only;rw [List.getElem?_set_self hlt]⟩
  ·rw [List.drop_of_length_le (by omega)] at g3
   have g3:dg e l ns=some ei:=g3
   repeat' (first|refine z0 ?_|apply ag|apply ae|refine z16 ?_|apply ah|apply ai|apply au|apply aa|apply aq|refine z17 ?_|refine z1 ?_|refine z3 ?_|(refine z23 ?_ ?_ <;> intro hg)|fail)
   all_goals try (exfalso;omega)
   exact⟨(ei,vs,true),⟨g2,g4,g5,fun _=>g3,(fun h=>(nomatch h)),by dsimp only;omega⟩,ap id ⟨rfl,rfl,rfl,rfl,trivial⟩ ⟨rfl,rfl,rfl,rfl,rfl,rfl,rfl,trivial⟩ rfl rfl rfl rfl rfl rfl⟩
 ·rintro⟨ei,vs,ok⟩ ⟨g2,g4,g5,g7,g8,g9⟩
  dsimp only at g2 g4 g5 g7 g8 g9 ⊢
  repeat' ((fail_if_success (apply dw_stopS 14));fail)
  refine dw_cut (ι:=Unit) (fun _=>⟨7,[(0,.loc 0 0),(9,.row 6),(15,.d (.bool (fewW (matW W (dg e l ns)) out)))],(6,.row 3 1 (vs.map bi))::goH r S rest ei (putW (matW W (dg e l ns)) out)⟩) (fun _=>True) ?_ ?_
  ·cases ok with
   | false =>
    have hm:=g8 rfl
    rw [hm,show matW W none=[] from rfl,fewW_nil hout,putW_nil hout]
    repeat' (first|refine z0 ?_|refine z12 ?_|apply ag|refine z16 ?_|apply aa)
    all_goals try (exfalso;omega)
    exact⟨(),trivial,ap id ⟨rfl,rfl,rfl,trivial⟩ ⟨rfl,rfl,rfl,rfl,rfl,rfl,rfl,trivial⟩ rfl rfl rfl rfl rfl rfl⟩
   | true =>
    have hm:=g7 rfl
    have w:=hthen ei hm
    rw [hm,show matW W (some ei)=W ei from rfl]
    repeat' (first|refine z0 ?_|refine z16 ?_|fail)
    all_goals try (exfalso;omega)
    (refine ds_callVF id (w) rfl rfl rfl rfl rfl rfl ⟨rfl,rfl,rfl,rfl,rfl,rfl,trivial⟩ rfl rfl rfl rfl rfl rfl ?_ ?_)
    ·rintro k2 res H2 ⟨rfl,rfl,rfl⟩;exact⟨rfl,rfl⟩
    rintro k2 res H2 ⟨rfl,rfl,rfl⟩
    change DS _ _ _ _ _ _ _ _
    repeat' (first|refine z0 ?_|apply ag|apply aa)
    all_goals try (exfalso;omega)
    exact⟨(),trivial,ap (fun j=>match j with|5=>12|j=>j) ⟨rfl,rfl,rfl,trivial⟩ ⟨rfl,rfl,rfl,rfl,rfl,rfl,rfl,trivial⟩ rfl rfl rfl rfl rfl rfl⟩
  ·clear hthen
   rintro _ _
   generalize fewW (matW W (dg e l ns)) out=bb
   generalize putW (matW W (dg e l ns)) out=o2
   have lv:(vs.map bi).length=vs.length:=List.length_map _
   repeat' (first|refine z0 ?_|apply ag|apply ae|refine z16 ?_|apply ah|apply aa)
   all_goals try (exfalso;omega)
   refine bh (ι:=Nat) (fun i=>⟨7,[(0,.loc 0 0),(9,.row 6),(15,.d (.bool bb)),(76,.row 6),(77,.d (.int .i64 vs.length)),(78,.d (.int .i64 i))],(6,.row 3 1 (vs.map bi))::goH r S rest (unset ei (vs.take i)) o2⟩)
    (fun i=>i≤vs.length) (fun i=>vs.length - i) 0 (Nat.zero_le _) (ap id ⟨rfl,rfl,rfl,rfl,by rw [← lv];rfl,rfl,trivial⟩ ⟨rfl,rfl,rfl,rfl,rfl,rfl,rfl,trivial⟩ rfl rfl rfl rfl rfl rfl) ?_
   intro i g1
   by_cases hi:i < vs.length
   ·obtain⟨h0,y,hy⟩:=g5 _ (List.getElem_mem hi)
    have hlt:vs[i].toNat < (unset ei (vs.take i)).length:=by rw [unset_len];exact (List.getElem?_eq_some_iff.1 hy).1
    have ht:=unset_take (e:=ei) hi
    have o1:=outE_unset (unset ei (vs.take i)) vs[i].toNat
    have o2':=hasE_unset (unset ei (vs.take i)) vs[i].toNat
    have lo:((cv (unset ei (vs.take i))).map bi).length=(unset ei (vs.take i)).length:=by rw [List.length_map,outE_len]
    have lh:((c9 (unset ei (vs.take i))).map encBl).length=(unset ei (vs.take i)).length:=by rw [List.length_map,em]
    have hpm:vs[i].toNat < ((cv (unset ei (vs.take i))).map bi).length∧∀ y∈(cv (unset ei (vs.take i))).map bi,y.length=1:=rowOk (by rw [outE_len];exact hlt) fun _=>rfl
    have hpk:vs[i].toNat < ((c9 (unset ei (vs.take i))).map encBl).length∧∀ y∈(c9 (unset ei (vs.take i))).map encBl,y.length=1:=rowOk (by rw [em];exact hlt) fun _=>rfl
    repeat' (first|refine z0 ?_|apply ag|refine z5 ?_|refine z6 ?_|refine z10 ?_|apply ae|refine z16 ?_|refine z20 ?_|apply ah|apply ai|apply au|apply aj|apply aa|apply aq|apply bf|refine z17 ?_|(refine z23 ?_ ?_ <;> intro hg)|fail)
    all_goals try (exfalso;omega)
    exact⟨i + 1,hi,ap id ⟨rfl,rfl,rfl,rfl,rfl,rfl,trivial⟩ ⟨rfl,rfl,by rw [ht,o1,List.map_set];rfl,by rw [ht,o2',List.map_set];rfl,rfl,rfl,rfl,trivial⟩ rfl rfl rfl rfl rfl rfl,by omega⟩
   ·rw [List.take_of_length_le (by omega),g4]
    repeat' (first|refine z0 ?_|apply ag|refine z5 ?_|refine z6 ?_|refine z10 ?_|apply ae|refine z16 ?_|refine z20 ?_|apply ah|apply ai|apply au|apply aj|apply aa|apply aq|apply bf|refine z17 ?_|(refine z23 ?_ ?_ <;> intro hg)|fail)
    all_goals try (exfalso;omega)
    exact⟨.inl rfl,_,rfl,id,6,_,goH r S rest e o2,rfl,⟨rfl,rfl,rfl,rfl,rfl,rfl,trivial⟩,rfl,rfl,rfl,rfl,rfl,rfl,rfl,rfl,rfl⟩
set_option maxHeartbeats 8000000 in
theorem growLtl_fn (n:Nat) (hn:n≤1000000):FnOk false Tryz.prog tab cn 221 [.nils,.d (.int .i64 n)] 0 0 [] (fun _ r H=>r = .row 0∧H=[(0,.row 68 4 [])]):=by
 refine co _ Tryz.func221 rfl rfl (by kernel_rfl) ?_
 intro O w0 E0 β0
 by_cases h0:n=0
 ·subst h0
  repeat' (first|refine z0 ?_|apply ag|apply ae|refine z16 ?_|apply ai|refine z19 ?_|apply aa)
  all_goals try (exfalso;omega)
  refine ds_ev (d9 rfl rfl) rfl rfl ?_
  repeat' (first|refine z0 ?_|apply ag|apply ae|refine z16 ?_|apply ai|refine z19 ?_|apply aa)
  all_goals try (exfalso;omega)
  refine bg (dv (t:=4) 68 4 rfl) ?_
  repeat' (apply aj)
  exact⟨.inl rfl,_,rfl,id,1,.row 0,[(0,.row 68 4 [])],rfl,⟨rfl,trivial⟩,rfl,rfl,rfl,rfl,rfl,rfl,rfl,rfl⟩
 ·repeat' (first|refine z0 ?_|apply ag|apply ae|refine z16 ?_|apply ai|refine z19 ?_|apply aa)
  all_goals try (exfalso;omega)
  refine ds_ev (d9 rfl rfl) rfl rfl ?_
  repeat' (first|refine z0 ?_|apply ag|apply ae|refine z16 ?_|apply ai|apply aj|apply aa|(refine z23 ?_ ?_ <;> intro hg)|fail)
  all_goals try (exfalso;omega)
  refine ds_ev (d9 rfl rfl) rfl rfl ?_
  repeat' refine z0 ?_
  all_goals try (exfalso;omega)
  refine ds_apmk (n:=n) (es:=4) (te:=68) [.int .i64 0,.int .i64 0,.int .i64 0,.slice 2 []] rfl rfl (by omega) rfl rfl rfl rfl ⟨.inl rfl,.inl rfl,.inl rfl,.inr ⟨rfl,2,rfl⟩,trivial⟩ rfl rfl (by omega) (by omega) ?_ (by unfold maxLen;omega) rfl rfl ?_
  ·show n * 48≤_
   omega
  repeat' (first|refine z0 ?_|apply ag|apply ae|refine z16 ?_|apply aa)
  all_goals try (exfalso;omega)
  refine bg (ent_cut (n:=0) 4 rfl rfl (Nat.zero_le _) rfl) ?_
  repeat' (apply aj)
  exact⟨.inl rfl,_,rfl,fun j=>match j with|0=>1|j=>j,1,.row 0,[(0,.row 68 4 [])],rfl,⟨rfl,trivial⟩,rfl,rfl,rfl,rfl,rfl,rfl,rfl,rfl⟩
set_option maxHeartbeats 8000000 in
theorem concatLtl_fn (ls:List (List (Ltl))) (h:(ls.map List.length).sum≤1000000) (h2:ls.length≤1000000):Fn 164 [.d (.slice 1 (ls.map fun l=>[.slice 4 (l.map bp)]))] (fun r=>r = .d (.slice 4 (ls.flatten.map bp))):=by
 refine ak _ Tryz.func164 rfl rfl (by kernel_rfl) ?_
 intro O w0 E0 β0
 have ll:(ls.map fun l=>[D.slice 4 (l.map bp)]).length=ls.length:=List.length_map _
 repeat' (first|refine z0 ?_|apply ag|apply ae|refine z16 ?_|apply ah|apply aa)
 refine bh (ι:=Nat) (fun i=>⟨0,[(0,.d (.slice 1 (ls.map fun l=>[.slice 4 (l.map bp)]))),(3,.d (.int .i64 (((ls.take i).map List.length).sum:Nat))),(9,.d (.slice 1 (ls.map fun l=>[.slice 4 (l.map bp)]))),(10,.d (.int .i64 ls.length)),(11,.d (.int .i64 i))],[]⟩)
  (fun i=>i≤ls.length) (fun i=>ls.length - i) 0 (Nat.zero_le _) (ap id ⟨rfl,rfl,rfl,by rw [← ll];rfl,rfl,trivial⟩ trivial rfl rfl rfl rfl rfl rfl) ?_
 intro i g1
 by_cases hi:i < ls.length
 ·have h3:=sum_takeL hi
  have h4:=sum_leL ls (i + 1)
  have h5:(ls[i].map bp).length=ls[i].length:=List.length_map _
  repeat' (first|refine z0 ?_|apply ag|apply ae|refine z16 ?_|apply ah|apply ai|apply au|refine z19 ?_|apply aa|apply aq|apply bf|refine z17 ?_|(refine z23 ?_ ?_ <;> intro hg)|fail)
  all_goals try (exfalso;omega)
  exact⟨i + 1,by omega,ap id ⟨rfl,congrArg (fun z=>SV.d (.int .i64 z)) (by rw [h3,h5];omega),rfl,rfl,rfl,trivial⟩ trivial rfl rfl rfl rfl rfl rfl,by omega⟩
 ·rw [List.take_of_length_le (by omega)]
  repeat' (first|refine z0 ?_|apply ag|apply ae|refine z16 ?_|apply ah|apply ai|apply au|refine z19 ?_|apply aa|apply aq|apply bf|refine z17 ?_|(refine z23 ?_ ?_ <;> intro hg)|fail)
  all_goals try (exfalso;omega)
  refine bx id (growLtl_fn (ls.map List.length).sum h) rfl rfl rfl rfl trivial rfl rfl rfl rfl rfl rfl ?_ ?_
  ·rintro k2 r H2 ⟨rfl,rfl⟩;exact⟨rfl,rfl⟩
  rintro k2 r H2 ⟨rfl,rfl⟩
  change DS _ _ _ _ _ _ _ _
  repeat' (first|refine z0 ?_|apply ag|apply ae|refine z16 ?_|apply ah|apply aa)
  refine bh (ι:=Nat) (fun i=>⟨1,[(6,.row 0),(25,.d (.slice 1 (ls.map fun l=>[.slice 4 (l.map bp)]))),(26,.d (.int .i64 ls.length)),(27,.d (.int .i64 i))],[(0,.row 68 4 ((ls.take i).flatten.map bp))]⟩)
   (fun i=>i≤ls.length) (fun i=>ls.length - i) 0 (Nat.zero_le _) (ap id ⟨rfl,rfl,by rw [← ll];rfl,rfl,trivial⟩ ⟨rfl,trivial⟩ rfl rfl rfl rfl rfl rfl) ?_
  clear hi g1
  intro i g1
  by_cases hi:i < ls.length
  ·have h3:=sum_takeL hi
   have h4:=sum_leL ls (i + 1)
   have h5:(ls[i].map bp).length=ls[i].length:=List.length_map _
   have h6:((ls.take i).flatten.map bp).length=((ls.take i).map List.length).sum:=by rw [List.length_map,List.length_flatten]
   have h7:(ls.take (i + 1)).flatten=(ls.take i).flatten++ls[i]:=by rw [List.take_succ_eq_append_getElem hi,List.flatten_append];simp
   repeat' (first|refine z0 ?_|apply ag|apply ae|refine z16 ?_|apply ah|apply ai|apply au|apply aj|apply aa|apply aq|apply bf|refine z17 ?_|refine z2 ?_|(refine z23 ?_ ?_ <;> intro hg)|fail)
   all_goals try (exfalso;omega)
   exact⟨i + 1,by omega,ap (fun _=>1) ⟨rfl,rfl,rfl,rfl,trivial⟩ ⟨by rw [h7,List.map_append];rfl,trivial⟩ rfl rfl rfl rfl rfl rfl,by omega⟩
  ·rw [List.take_of_length_le (by omega)]
   repeat' (first|refine z0 ?_|apply ag|apply ae|refine z16 ?_|apply ah|apply ai|apply au|apply aa|apply aq|apply bf|refine z17 ?_|refine z2 ?_|(refine z23 ?_ ?_ <;> intro hg)|fail)
   all_goals try (exfalso;omega)
   refine bg (di 2 rfl rfl rfl) ?_
   repeat' (apply aj)
   exact⟨.inl rfl,_,rfl,rfl,rfl⟩
set_option maxHeartbeats 8000000 in
theorem indexLtl_fn {f:FuncId} {caps:List SV} (p:Ltl→Bool) (l:List (Ltl)) (hcap:SV.lowL 0 caps=true) (hp:∀ x∈l,Fn f (elLtl x::caps) (fun r=>r = .d (.bool (p x)))):Fn 219 [.d (.slice 4 (l.map bp)),.fn f caps] (fun r=>r = .d (.int .i64 (idxF p l))):=by
 refine ak _ Tryz.func219 rfl rfl (by kernel_rfl) ?_
 intro O w0 E0 β0
 refine cx (t:=0) rfl fun hb=>?_
 repeat' (first|refine z0 ?_|apply ag|apply ae|refine z16 ?_|apply ah|apply aa)
 refine bh (ι:=Nat) (fun i=>⟨0,[(0,.d (.slice 4 (l.map bp))),(1,.fn f caps),(7,.d (.int .i64 l.length)),(8,.d (.int .i64 i))],[]⟩)
  (fun i=>i≤l.length∧∀ j (hj:j < l.length),j < i→p l[j]=false) (fun i=>l.length - i) 0 ⟨Nat.zero_le _,fun j _ h=>absurd h (Nat.not_lt_zero j)⟩
  (ap id ⟨rfl,congrArg (SV.fn f) (SV.renL_id caps).symm,by simp;rfl,rfl,trivial⟩ trivial (by simp [Sl.low,SV.low,hcap]) rfl rfl rfl rfl rfl) ?_
 rintro i ⟨h1,h2⟩
 repeat' (first|refine z0 ?_|apply ag|apply ae|refine z16 ?_|apply aa)
 refine bz rfl (fun h=>?_) (fun h=>?_)
 ·have hi:i < l.length:=by omega
  have hpx:=hp l[i] (List.getElem_mem hi)
  repeat' (first|refine z0 ?_|apply ag|apply ae|refine z16 ?_|apply ah|apply ai|apply aa|(apply ds_callV;exact rfl;exact rfl;exact rfl;exact rfl;apply hpx;exact rfl;(assumption);exact rfl;rintro _ rfl))
  refine cy rfl (fun hb=>?_) (fun hb=>?_)
  ·repeat' (first|refine z0 ?_|apply ag|apply ae|refine z16 ?_|apply aj|apply aa|apply av|apply bn)
   exact b9 rfl (idxF_hit h2 hi hb).symm
  ·repeat' (first|refine z0 ?_|apply ag|refine z16 ?_|apply ai|apply aa|apply bf)
   exact⟨i + 1,⟨hi,none_step h2 hi hb⟩,ap id ⟨rfl,congrArg (SV.fn f) (SV.renL_id caps).symm,rfl,rfl,trivial⟩ trivial (by simp [Sl.low,SV.low,hcap]) rfl rfl rfl rfl rfl,by omega⟩
 ·repeat' (first|refine z0 ?_|apply ag|apply ae|refine z16 ?_|apply au|apply aj|apply aa|apply aq|refine z17 ?_|fail)
  exact b9 rfl (idxF_none fun j hj=>h2 j hj (by omega)).symm
set_option maxHeartbeats 8000000 in
theorem next1_fn (l:Ltl):Fn 220 [elLtl l] (fun r=>r = .d (.bool (decide (l.kind=1)))):=by
 refine ak _ Tryz.func220 rfl rfl (by kernel_rfl) ?_
 intro O w0 E0 β0
 repeat' (first|refine z0 ?_|apply ag|apply ae|refine z16 ?_|apply aj|apply aa|refine z1 ?_|fail)
 exact⟨.inl rfl,_,rfl,rfl,rfl⟩
theorem idxF_findIdx {α:Type} {p:α→Bool} {l:List α} (h:l.findIdx p < l.length):idxF p l=(l.findIdx p:Nat) :=
 idxF_hit (fun j _ hj=>by have:=List.not_of_lt_findIdx hj;simpa using this) h List.findIdx_getElem
theorem findIdx_at {α:Type} {p:α→Bool} {l:List α} {i:Nat} (hi:i < l.length) (h:∀ j (_:j < l.length),j < i→p l[j]=false) (hp:p l[i]=true):l.findIdx p=i:=by
 rcases Nat.lt_trichotomy (l.findIdx p) i with h1|h1|h1
 ·have h2:=h _ (by omega) h1
  have h3:=List.findIdx_getElem (xs:=l) (p:=p) (w:=by omega)
  rw [h2] at h3;cases h3
 ·exact h1
 ·have:=List.not_of_lt_findIdx h1;rw [hp] at this;simp at this
theorem findIdx_no {α:Type} {p:α→Bool} {l:List α} (h:∀ j (_:j < l.length),p l[j]=false):¬ l.findIdx p < l.length:=fun h1=>by
 have h3:=List.findIdx_getElem (xs:=l) (p:=p) (w:=h1)
 rw [h _ h1] at h3;cases h3
theorem needT_len (l:Ltl):(needT l).length≤l.terms.length:=by
 unfold needT
 split
 ·rw [List.length_take];omega
 ·exact Nat.le_refl _
set_option maxHeartbeats 8000000 in
theorem next_fn (r:Rul) (S:List Fct) (out:List (List Int)) (e:RE) (left:List Ltl) (hok:∀ l∈left,okL S e.length l) (hl:left.length≤1000000) (hn:ek e left < left.length) (htl:∀ l∈left,l.terms.length≤3) :
  FnOk false Tryz.prog tab cn 163 [.loc 0 0,.d (.slice 4 (left.map bp))] 4 4 (pfH r S e out) (fun _ res H=>res = .d (.int .i64 (ek e left:Nat))∧H=pfH r S e out):=by
 refine co _ Tryz.func163 rfl rfl (by kernel_rfl) ?_
 intro O w0 E0 β0
 have ll:(left.map bp).length=left.length:=List.length_map _
 repeat' (first|refine z0 ?_|apply ag|apply ae|refine z16 ?_|apply ah|apply aa)
 refine bh (ι:=Nat) (fun i=>⟨4,[(0,.loc 0 0),(1,.d (.slice 4 (left.map bp))),(10,.d (.slice 4 (left.map bp))),(11,.d (.int .i64 left.length)),(12,.d (.int .i64 i))],pfH r S e out⟩)
  (fun i=>i≤left.length∧∀ j (_:j < left.length),j < i→rdyL e left[j]=false) (fun i=>left.length - i) 0 ⟨Nat.zero_le _,fun _ _ h=>by omega⟩ (ap id ⟨rfl,rfl,rfl,by rw [← ll];rfl,rfl,trivial⟩ ⟨rfl,rfl,rfl,rfl,trivial⟩ rfl rfl rfl rfl rfl rfl) ?_
 rintro i ⟨g1,g2⟩
 dsimp only at g1 g2 ⊢
 by_cases hi:i < left.length
 ·have hm:=List.getElem_mem hi
  have ho:=hok _ hm
  have h3:=htl _ hm
  have w:=values_fn r S out e (needT left[i]) (fun t ht=>ho.terms t (by unfold needT at ht;split at ht;exact List.mem_of_mem_take ht;exact ht)) (by have:=needT_len left[i];omega)
  have hr:rdyL e left[i]=(needT left[i]).all fun t=>(vOf e t).isSome:=rfl
  by_cases h4:left[i].kind=4
  ·have hc3:=ho.calc3 h4
   have lt:(left[i].terms.map br).length=left[i].terms.length:=List.length_map _
   have hnt:needT left[i]=left[i].terms.take 2:=by unfold needT;rw [if_pos h4]
   rw [hnt] at w hr
   repeat' (first|(apply ds_slD;exact rfl;exact rfl;exact rfl;exact rfl;exact rfl;exact rfl;(refine⟨?_,?_,?_⟩ <;> (omega));((with_reducible apply hv_take);(exact dn _));exact rfl;exact rfl)|refine z0 ?_|apply ag|apply ae|refine z16 ?_|apply ah|apply ai|apply au|apply aa|apply aq|refine z17 ?_|refine z1 ?_|refine z3 ?_|(refine z23 ?_ ?_ <;> intro hg)|fail)
   all_goals try (exfalso;omega)
   (refine bx id (w) rfl rfl rfl rfl ⟨rfl,rfl,rfl,rfl,trivial⟩ rfl rfl rfl rfl rfl rfl ?_ ?_)
   ·rintro k2 res H2 ⟨rfl,rfl⟩;split <;> exact⟨rfl,rfl⟩
   rintro k2 res H2 ⟨rfl,rfl⟩
   clear w
   cases hb:rdyL e left[i] with
   | false =>
    rw [← hr,hb,if_neg (by simp)]
    change DS _ _ _ _ _ _ _ _
    repeat' (first|refine z0 ?_|apply ag|apply ae|refine z16 ?_|apply ai|refine z19 ?_|apply aa|apply bf)
    all_goals try (exfalso;omega)
    exact⟨i + 1,⟨hi,fun j hj hji=>by
     by_cases hq:j=i
     ·subst hq;exact hb
     ·exact g2 j hj (by omega)⟩,ap id ⟨rfl,rfl,rfl,rfl,rfl,trivial⟩ ⟨rfl,rfl,rfl,rfl,trivial⟩ rfl rfl rfl rfl rfl rfl,by omega⟩
   | true =>
    have hfi:left.findIdx (rdyL e)=i:=findIdx_at hi g2 hb
    have hne:ek e left=i:=by unfold ek;rw [hfi,if_pos hi]
    rw [← hr,hb,if_pos rfl,hne]
    change DS _ _ _ _ _ _ _ _
    repeat' (first|refine z0 ?_|apply ag|apply ae|refine z16 ?_|apply aj|refine z18 ?_|apply aa|apply av|apply bn)
    all_goals try (exfalso;omega)
    exact⟨.inl rfl,_,rfl,id,4,_,pfH r S e out,rfl,⟨rfl,rfl,rfl,rfl,trivial⟩,rfl,rfl,rfl,rfl,rfl,rfl,rfl,rfl⟩
  ·have hnt:needT left[i]=left[i].terms:=by unfold needT;rw [if_neg h4]
   rw [hnt] at w hr
   repeat' (first|(apply ds_slD;exact rfl;exact rfl;exact rfl;exact rfl;exact rfl;exact rfl;(refine⟨?_,?_,?_⟩ <;> (omega));((with_reducible apply hv_take);(exact dn _));exact rfl;exact rfl)|refine z0 ?_|apply ag|apply ae|refine z16 ?_|apply ah|apply ai|apply au|apply aa|apply aq|refine z17 ?_|refine z1 ?_|refine z3 ?_|(refine z23 ?_ ?_ <;> intro hg)|fail)
   all_goals try (exfalso;omega)
   (refine bx id (w) rfl rfl rfl rfl ⟨rfl,rfl,rfl,rfl,trivial⟩ rfl rfl rfl rfl rfl rfl ?_ ?_)
   ·rintro k2 res H2 ⟨rfl,rfl⟩;split <;> exact⟨rfl,rfl⟩
   rintro k2 res H2 ⟨rfl,rfl⟩
   clear w
   cases hb:rdyL e left[i] with
   | false =>
    rw [← hr,hb,if_neg (by simp)]
    change DS _ _ _ _ _ _ _ _
    repeat' (first|refine z0 ?_|apply ag|apply ae|refine z16 ?_|apply ai|refine z19 ?_|apply aa|apply bf)
    all_goals try (exfalso;omega)
    exact⟨i + 1,⟨hi,fun j hj hji=>by
     by_cases hq:j=i
     ·subst hq;exact hb
     ·exact g2 j hj (by omega)⟩,ap id ⟨rfl,rfl,rfl,rfl,rfl,trivial⟩ ⟨rfl,rfl,rfl,rfl,trivial⟩ rfl rfl rfl rfl rfl rfl,by omega⟩
   | true =>
    have hfi:left.findIdx (rdyL e)=i:=findIdx_at hi g2 hb
    have hne:ek e left=i:=by unfold ek;rw [hfi,if_pos hi]
    rw [← hr,hb,if_pos rfl,hne]
    change DS _ _ _ _ _ _ _ _
    repeat' (first|refine z0 ?_|apply ag|apply ae|refine z16 ?_|apply aj|refine z18 ?_|apply aa|apply av|apply bn)
    all_goals try (exfalso;omega)
    exact⟨.inl rfl,_,rfl,id,4,_,pfH r S e out,rfl,⟨rfl,rfl,rfl,rfl,trivial⟩,rfl,rfl,rfl,rfl,rfl,rfl,rfl,rfl⟩
 ·have hno:¬ left.findIdx (rdyL e) < left.length:=findIdx_no fun j hj=>g2 j hj (by omega)
  have hne:ek e left=left.findIdx fun l=>decide (l.kind=1):=by unfold ek;rw [if_neg hno]
  rw [hne] at hn ⊢
  have w:=indexLtl_fn (caps:=[]) (f:=220) (fun l=>decide (l.kind=1)) left rfl (fun x _=>next1_fn x)
  rw [idxF_findIdx hn] at w
  repeat' (first|(apply ds_slD;exact rfl;exact rfl;exact rfl;exact rfl;exact rfl;exact rfl;(refine⟨?_,?_,?_⟩ <;> (omega));((with_reducible apply hv_take);(exact dn _));exact rfl;exact rfl)|refine z0 ?_|apply ag|apply ae|refine z16 ?_|apply ah|apply ai|apply au|apply aj|apply aa|apply aq|refine z17 ?_|refine z21 ?_ (hc:=by apply w)|refine z1 ?_|refine z3 ?_|(refine z23 ?_ ?_ <;> intro hg)|fail)
  all_goals try (exfalso;omega)
  exact⟨.inl rfl,_,rfl,id,4,_,pfH r S e out,rfl,⟨rfl,rfl,rfl,rfl,trivial⟩,rfl,rfl,rfl,rfl,rfl,rfl,rfl,rfl⟩
end Go.Proofs.YtapciiffpnociadGreat
namespace Go.Proofs.YtapciiffpnociadGreat
open Go Go.RowKit
section
variable {Γ : Ctx} {k : Nat → Prop} {L : Sl} {H : Hp} {a : Act} {w : World} {e : Env} {t t' ty : TypeId} {x y : Operand}
theorem op_append_rowR [NoDr Γ] {d z:Nat} {te t2 tb:TypeId} {pos:String} {af:Array Edge} {g:Option (Nat × Bool)} {i j es:Nat} {xs ys:List (List D)}
  (hz':¬ k z) (ht:Γ.sh t = .slice te) (hkn:(Γ.sh te).known=true) (hes:Γ.cells te=es) (hpos:Nat.blt 0 es=true) (hz:Nat.beq (ay Γ.τ te).zero.length (Γ.cells te)=true)
  (hx:a7 L x = .row i) (hH:Hp.get H i=some (.row te es xs)) (hy:a7 L y = .row j) (hHj:Hp.get H j=some (.row tb es ys)) (hd:Nat.blt d Γ.n=true)
  (hroom:(xs.length + ys.length) * (ay Γ.τ te).bytes≤140737488355328) (h63:xs.length + ys.length≤maxLen) :
  OpOk Γ ⟨some d,.call { callee:=.builtin .append,args:=#[x,y],argTypes:=#[t,t] },t2,pos,af,g⟩ k L H (with1 k z) ((d,.row z)::L) ((z,.row te es (xs++ys))::Hp.del H i):=by
 intro e a w Q m
 have hze:¬ e.dom z:=fun h=>hz' ((m.top z).1 h)
 obtain⟨inf,zv,hi,hzz,hs,hb,hzc⟩:=Ctx.info (Sh.known_ne hkn)
 have hut:=Ctx.slice ht
 obtain⟨_,hvx,_⟩:=evT m hx (cSV_row · _)
 obtain⟨_,hvy,_⟩:=evT m hy (cSV_row · _)
 obtain⟨vs,ho,hxe,hone,hrep⟩:=(m.heap _ (Hp.mem_of hH)).2
 obtain⟨us,hoy,hye,hone2,hrep2⟩:=(m.heap _ (Hp.mem_of hHj)).2
 have hsz:inf.size=es:=by rw [hs,hes]
 rw [← hsz] at ho
 have hcase:∃ v' w',(Builtin.append_ #[t,t] t2 #[e.η i,a.eval y]).run Γ.P w = .ok v' w'∧w'.ownsRow 0 te inf.size v' (xs.length + ys.length) (vs++us)∧w.grownBy w' (e.η i).ownBlock∧(∀ c,v'.ownBlock=some c→(e.η i).ownBlock=some c∨w.heap.size≤c):=by
  rcases hoy.2 with ⟨hv,hl0⟩|⟨gb,cap,cur,hv,_⟩
  ·have hys:ys=[]:=List.eq_nil_of_length_eq_zero hl0
   have hu0:us=[]:=List.eq_nil_of_length_eq_zero (by rw [hoy.1,hl0,Nat.zero_mul])
   rw [hvy,hv,hys,hu0]
   have hrun:=run_append_owned_none (P:=Γ.P) (w:=w) 0 t t2 te inf inf.size hut hi (e.η i) xs.length vs ho
   exact⟨e.η i,w,hrun,by simpa using ho,⟨rfl,rfl,rfl,Nat.le_refl _,fun _ _ _=>rfl⟩,fun c hc=>.inl hc⟩
  ·have hcells:∀ j u,us[j]? = some u→w.cell? ((⟨gb,0,none⟩:Addr).add j)=some u:=hoy.cells (g:=gb) (by rw [hv];rfl)
   rw [hvy,hv]
   exact append_own (P:=Γ.P) (ty:=t2) hut hi hzz (Ctx.zsize hzc hz hs) (by rw [hsz];exact Nat.le_of_ble_eq_true hpos) ho (c:=cap) (by rw [hoy.1,hsz]) hcells hone2 h63 (by rw [hb];exact hroom)
 obtain⟨v',w',hrun,hown',hgr,hblk⟩:=hcase
 have hop:(execOp a.eval ⟨some d,.call { callee:=.builtin .append,args:=#[x,y],argTypes:=#[t,t] },t2,pos,af,g⟩).run Γ.P w = .ok (.value v') w':=by
  simp only [execOp,resolve,invoke,builtin,Sem.run_bind,Sem.run_pure,Result.andThen_ok,List.map_toArray,List.map_cons,List.map_nil,hvx,hrun]
 unfold Oper.wp
 rw [hop]
 have hη:(e.bindRow z v').η z=v':=if_pos rfl
 have hl:=ho.1
 have m2:=m.trade (hb:=.row te es (xs++ys)) hH hz' (e':=e.bindRow z v') (w':=w') (fun i=>or_congr (m.top i) Iff.rfl) (e.bindRow_ext _ _ hze) hgr.size hgr.os hgr.tape hgr.output NoDr.any
  (fun c hc hne=>hgr.block c hc (fun h=>hne (by simp [HB.owned,h]))) (fun c hc=>by simp only [HB.owned,hη] at hc;exact hblk c hc) (fun hX=>by
   have hkeep:∀ b,b < w.heap.size→¬ Γ.X e H b→w'.heap[b]? = w.heap[b]?:=fun b hb hx=>hgr.block b hb (fun h=>hx (.inr (List.mem_filterMap.2 ⟨_,Hp.mem_of hH,by simp [HB.owned,h]⟩)))
   obtain⟨q1,q2⟩:=rows_append hxe hye (by rw [hl,hsz]) hrep hrep2
   refine⟨vs++us,?_,q1,fun v hv=>?_,fun i' hi' j hj=>?_⟩
   ·rw [hη,List.length_append,← hsz];exact hown'
   ·rcases List.mem_append.1 hv with hv|hv
    ·exact hone v hv
    ·exact hone2 v hv
   ·obtain⟨v,p1,p2⟩:=q2 i' hi' j hj
    exact⟨v,p1,RepC.keep hgr.size hkeep hX p2⟩)
 exact⟨_,m2.put (s:=.row z) (v:=v') (Nat.le_of_ble_eq_true hd) ⟨.inr rfl,hη.symm,ownsRow_one hown'⟩⟩
end
section
variable {Γ : Ctx} {k : Nat} {L : Sl} {H : Hp} {K : cp} {ops : List Oper} {rest : List Oper} {t t' ty : TypeId} {x y : Operand}
theorem ds_append_rowR [NoDr Γ] (j:Nat) {d:Nat} {te t2 tb:TypeId} {pos:String} {af:Array Edge} {g:Option (Nat × Bool)} {i es:Nat} {xs ys:List (List D)} {H':Hp}
  (ht:Γ.sh t = .slice te) (hkn:(Γ.sh te).known=true) (hes:Γ.cells te=es) (hpos:Nat.blt 0 es=true) (hz:Nat.beq (ay Γ.τ te).zero.length (Γ.cells te)=true)
  (hx:a7 L x = .row i) (hH:Hp.get H i=some (.row te es xs)) (hy:a7 L y = .row j) (hHj:Hp.get H j=some (.row tb es ys)) (hw:a8 ops L g=some true) (hd:Nat.blt d Γ.n=true)
  (hroom:(xs.length + ys.length) * (ay Γ.τ te).bytes≤140737488355328) (h63:xs.length + ys.length≤maxLen) (hD:delF H i some=some H')
  (hk:DS false Γ ops rest K (k + 1) ((d,.row k)::L) ((k,.row te es (xs++ys))::H')) :
  DS false Γ ops (⟨some d,.call { callee:=.builtin .append,args:=#[x,y],argTypes:=#[t,t] },t2,pos,af,g⟩::rest) K k L H:=by
 rw [delF_eq] at hD
 simp only [Option.some.injEq] at hD
 subst hD
 exact dl_op hw ((op_append_rowR (lo_not k) ht hkn hes hpos hz hx hH hy hHj hd hroom h63).cast (e8 k)) hk
theorem ds_eqnilR {d i es:Nat} {te tb:TypeId} {pos:String} {af:Array Edge} {g:Option (Nat × Bool)} {xs:List (List D)} (hx:a7 L x = .row i) (hH:Hp.get H i=some (.row tb es xs)) (hy:a7 L y = .nils) (ht:(ay Γ.τ t).sh = .slice te) (hd:Nat.blt d Γ.n=true) (hw:a8 ops L g=some true)
  (h1:xs=[]→DS false Γ ops rest K k ((d,.d (.bool true))::L) H) (h2:DS false Γ ops rest K k ((d,.d (.bool false))::L) H):DS false Γ ops (⟨some d,.binOp .eql t x y t',ty,pos,af,g⟩::rest) K k L H:=by
 refine dl_run hw fun e a w m=>?_
 obtain⟨_,hvx,_⟩:=evT m hx (cSV_row · _)
 obtain⟨us,hown,_⟩:=(m.heap _ (Hp.mem_of hH)).2
 have hvy:a.eval y = .slice none 0 0:=by
  have hok:opOk y:=by
   cases y with
   | const v=>simp only [a7] at hy;unfold cSV at hy;split at hy <;> simp_all [opOk,cOk]
   | _=>trivial
  have:=m.op y hok
  rw [hy] at this;exact this
 have hv:∃ ao n cap,e.η i = .slice ao n cap∧(ao=none→xs=[]):=by
  rcases hown.2 with ⟨hv,h0⟩|⟨gb,cap,cur,hv,_⟩
  ·exact⟨_,_,_,hv,fun _=>List.eq_nil_of_length_eq_zero h0⟩
  ·exact⟨_,_,_,hv,fun h=>by cases h⟩
 obtain⟨ao,n,cap,hv,hnone⟩:=hv
 have hrun:(execOp a.eval ⟨some d,.binOp .eql t x y t',ty,pos,af,g⟩).run Γ.P w = .ok (.value (.bool ao.isNone)) w:=by
  simp [execOp,hvx,hv,hvy,eqGuard,Lib.run_eql_slice_nil w t te ao n cap 0 0 (Ctx.slice ht)]
 unfold Oper.wp
 rw [hrun]
 cases ao with
 | none=>exact⟨k,_,H,e,m.put (s:=.d (.bool true)) (v:=.bool true) (Nat.le_of_ble_eq_true hd) .bool,h1 (hnone rfl)⟩
 | some ad=>exact⟨k,_,H,e,m.put (s:=.d (.bool false)) (v:=.bool false) (Nat.le_of_ble_eq_true hd) .bool,h2⟩
end
end Go.Proofs.YtapciiffpnociadGreat
