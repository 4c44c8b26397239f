/- Several texts in one: StrI MoS MoT GxPtr RuGp. Condition: none. -/
import Derived.Test.YtapciiffpnociacGreatC17
import Derived.Test.YtapciiffpnociacGreatC16
import Derived.Test.YtapciiffpnociacGreatC10
import Derived.Test.YtapciiffpnociacGreatC14
import Derived.Test.YtapciiffpnociacGreatC15

/- Plain words: what is needed is the same, both ways; focus twice is focus once. Condition: none. -/
namespace Go.Proofs.YtapciiffpnociacGreat
theorem setB_getD (out:List Bool) (i j:Nat):(out.set i true).getD j false=if i=j∧i < out.length then true else out.getD j false:=by
 simp only [List.getD,List.getElem?_set]
 by_cases h:i=j
 ·subst h
  by_cases hl:i < out.length
  ·simp [hl]
  ·simp [hl]
 ·simp [h]
theorem setB_up (out:List Bool) (i:Nat):leB out (out.set i true):=by
 refine⟨by simp,fun j h=>?_⟩
 rw [setB_getD]
 split
 ·rfl
 ·exact h
def Clo (l:List Rul) (C:List Bool):Prop:=∀ r∈l,C.getD r.pred.toNat false=true→∀ x∈r.body,hangsB x=true→C.getD x.pred.toNat false=true
theorem dLits_up (b:List Ltl) (out:List Bool):leB out (b.foldl dLit out):=⟨(dLits_len b out).symm,fun _ h=>dLits_keep b out h⟩
theorem dRule_up (out:List Bool) (r:Rul):leB out (dRule out r):=by
 unfold dRule
 split
 ·exact dLits_up _ _
 ·exact leB.refl _
theorem dRound_up:∀ (l:List Rul) (out:List Bool),leB out (dRound l out)
 | [],_=>leB.refl _
 | r::l,out=>(dRule_up out r).trans (dRound_up l (dRule out r))
theorem dRound_rest:∀ {l:List Rul} {out:List Bool},dRound l out=out→∀ r∈l,dRule out r=out
 | r::l,out,h,r',hr=>by
  have h1:dRound l (dRule out r)=out:=h
  have h2:dRule out r=out:=(by have:=dRound_up l (dRule out r);rw [h1] at this;exact this:leB (dRule out r) out).anti (dRule_up out r)
  rw [h2] at h1
  rcases List.mem_cons.1 hr with rfl|hr
  ·exact h2
  ·exact dRound_rest h1 r' hr
theorem dLits_has:∀ (b:List Ltl) (out:List Bool) (x:Ltl),x∈b→x.kind≤2→x.pred.toNat < out.length→(b.foldl dLit out).getD x.pred.toNat false=true
 | y::b,out,x,hx,hk,hl=>by
  rw [List.foldl_cons]
  rcases List.mem_cons.1 hx with rfl|hx
  ·refine dLits_keep b _ ?_
   rw [show dLit out x=out.set x.pred.toNat true from if_pos hk,setB_getD,if_pos ⟨rfl,hl⟩]
  ·exact dLits_has b _ x hx hk (by rw [dLit_len];exact hl)
theorem rest_clo {p:Prg} (h:PrgOk p) {out:List Bool} (hl:out.length=p.arity.length) (hr:dRound p.rules out=out):Clo p.rules out:=by
 intro r hm hp x hx hh
 have h1:=dRound_rest hr r hm
 rw [dRule,if_pos hp] at h1
 have hq:=((h.each r hm).lits x hx).pred hh
 have hk:x.kind≤2:=by
  refine Classical.byContradiction fun hn=>?_
  have:=(hangs_kind ((h.each r hm).lits x hx).kind.1).1 (by omega)
  rw [hh] at this;cases this
 have:=dLits_has r.body out x hx hk (by omega)
 rwa [h1] at this
theorem count_lt:∀ {a b:List Bool},leB a b→a≠b→a.count true < b.count true
 | [],[],_,h=>absurd rfl h
 | x::a,y::b,h,hne=>by
  have ht:leB a b:=⟨by have:=h.1;simpa using this,fun i hi=>by have:=h.2 (i + 1);simpa using this (by simpa using hi)⟩
  have h0:x=true→y=true:=fun hx=>by have:=h.2 0;simpa using this (by simpa using hx)
  have hle:a.count true≤b.count true:=by
   by_cases e:a=b
   ·rw [e];exact Nat.le_refl _
   ·exact Nat.le_of_lt (count_lt ht e)
  by_cases e:a=b
  ·subst e
   have hxy:x≠y:=fun e=>hne (by rw [e])
   cases x <;> cases y <;> simp_all
  ·have:=count_lt ht e
   rw [List.count_cons,List.count_cons]
   cases x <;> cases y <;> simp_all <;> omega
 | [],_::_,h,_=>by have:=h.1;simp at this
 | _::_,[],h,_=>by have:=h.1;simp at this
theorem dIter_succ (l:List Rul) (k:Nat) (out:List Bool):dIter l (k + 1) out=dRound l (dIter l k out):=rfl
theorem dIter_count (l:List Rul) (out:List Bool) (h1:0 < out.count true):∀ k,dRound l (dIter l k out)=dIter l k out∨k < (dIter l k out).count true
 | 0=>.inr h1
 | k + 1=>by
  rcases dIter_count l out h1 k with h|h
  ·left;rw [dIter_succ,h,h]
  ·by_cases e:dIter l k out=dRound l (dIter l k out)
   ·left;rw [dIter_succ,← e,← e]
   ·right
    have:=count_lt (dRound_up l (dIter l k out)) e
    rw [dIter_succ]
    omega
theorem dIter_up (l:List Rul) (out:List Bool):∀ k,leB out (dIter l k out)
 | 0=>leB.refl _
 | k + 1=>(dIter_up l out k).trans (dRound_up l _)
abbrev one (n:Nat) (pred:Int):List Bool:=(List.replicate n false).set pred.toNat true
theorem one_has {n:Nat} {pred:Int} (h:0≤pred∧pred < n):(one n pred).getD pred.toNat false=true:=by
 rw [setB_getD,if_pos ⟨rfl,by simp;omega⟩]
theorem one_only {n:Nat} {pred:Int} {i:Nat} (h:(one n pred).getD i false=true):i=pred.toNat:=by
 rw [setB_getD] at h
 split at h
 ·rename_i h1;exact h1.1.symm
 ·simp only [List.getD,List.getElem?_replicate] at h
  split at h <;> cases h
theorem count_pos {a:List Bool} {i:Nat} (h:a.getD i false=true):0 < a.count true:=by
 rw [List.count_pos_iff]
 by_cases hi:i < a.length
 ·rw [List.getD,List.getElem?_eq_getElem hi] at h
  have:a[i]=true:=h
  rw [← this]
  exact List.getElem_mem hi
 ·rw [List.getD,List.getElem?_eq_none (by omega)] at h;cases h
theorem doc_clo {p:Prg} {pred:Int} (h:PrgOk p) (hp:0≤pred∧pred < p.arity.length):Clo p.rules (docNeeds p pred)∧(docNeeds p pred).getD pred.toNat false=true:=by
 refine⟨rest_clo h (docNeeds_len p pred) ?_,(dIter_up p.rules _ _).2 _ (one_has hp)⟩
 rcases dIter_count p.rules (one p.arity.length pred) (count_pos (one_has hp)) p.arity.length with h1|h1
 ·exact h1
 ·have h2:=List.count_le_length (a:=true) (l:=dIter p.rules p.arity.length (one p.arity.length pred))
  have h3:(dIter p.rules p.arity.length (one p.arity.length pred)).length=p.arity.length:=docNeeds_len p pred
  omega
theorem dLits_below {C:List Bool}:∀ (b:List Ltl) (out:List Bool),(∀ x∈b,x.kind≤2→C.getD x.pred.toNat false=true)→(∀ i,out.getD i false=true→C.getD i false=true)→∀ i,(b.foldl dLit out).getD i false=true→C.getD i false=true
 | [],_,_,h=>h
 | x::b,out,hb,h=>by
  refine dLits_below b (dLit out x) (fun y hy=>hb y (List.mem_cons_of_mem _ hy)) ?_
  intro i hi
  unfold dLit at hi
  split at hi
  ·rename_i hk
   rw [setB_getD] at hi
   split at hi
   ·rename_i h1;rw [← h1.1];exact hb x List.mem_cons_self hk
   ·exact h i hi
  ·exact h i hi
theorem kind_hangs {x:Ltl} (h1:1≤x.kind) (h2:x.kind≤2):hangsB x=true:=by
 cases h:hangsB x with
 | true=>rfl
 | false=>have:=(hangs_kind h1).2 h;omega
theorem dRound_below {n:Nat} {C:List Bool}:∀ (l:List Rul) (out:List Bool),(∀ r∈l,RulOk n r)→Clo l C→(∀ i,out.getD i false=true→C.getD i false=true)→∀ i,(dRound l out).getD i false=true→C.getD i false=true
 | [],_,_,_,h=>h
 | r::l,out,hk,hc,h=>by
  refine dRound_below l (dRule out r) (fun y hy=>hk y (List.mem_cons_of_mem _ hy)) (fun y hy=>hc y (List.mem_cons_of_mem _ hy)) ?_
  unfold dRule
  split
  ·rename_i hp
   exact dLits_below _ _ (fun x hx h2=>hc r List.mem_cons_self (h _ hp) x hx (kind_hangs ((hk r List.mem_cons_self).lits x hx).kind.1 h2)) h
  ·exact h
theorem dIter_below {n:Nat} {C:List Bool} (l:List Rul) (out:List Bool) (hk:∀ r∈l,RulOk n r) (hc:Clo l C) (h:∀ i,out.getD i false=true→C.getD i false=true):∀ k i,(dIter l k out).getD i false=true→C.getD i false=true
 | 0=>h
 | k + 1=>dRound_below l _ hk hc (dIter_below l out hk hc h k)
theorem doc_least {p:Prg} {pred:Int} (h:PrgOk p) {C:List Bool} (hc:Clo p.rules C) (hp:C.getD pred.toNat false=true) (i:Nat):(docNeeds p pred).getD i false=true→C.getD i false=true :=
 dIter_below p.rules _ h.each hc (fun j hj=>by rw [one_only hj];exact hp) _ i
structure Nst (a b:List Bool × List Int):Prop where
 up:leB a.1 b.1
 keep:∀ v∈a.2,v∈b.2
 new:∀ i:Int,0≤i→b.1.getD i.toNat false=true→a.1.getD i.toNat false=true∨i∈b.2
theorem Nst.refl (a:List Bool × List Int):Nst a a:=⟨leB.refl _,fun _ h=>h,fun _ _ h=>.inl h⟩
theorem Nst.trans {a b c:List Bool × List Int} (h:Nst a b) (g:Nst b c):Nst a c :=
 ⟨h.up.trans g.up,fun v hv=>g.keep v (h.keep v hv),fun i hi hc=>(g.new i hi hc).elim (fun hb=>(h.new i hi hb).imp id (g.keep i)) .inr⟩
theorem nLit_st (a:List Bool × List Int) {x:Ltl} (hx:0≤x.pred):Nst a (nLit a x):=by
 unfold nLit
 split
 ·exact Nst.refl _
 ·refine⟨setB_up _ _,fun v hv=>List.mem_append.2 (.inl hv),fun i hi h=>?_⟩
  dsimp only at h ⊢
  rw [setB_getD] at h
  split at h
  ·rename_i h1
   right
   have:i=x.pred:=by omega
   rw [this]
   exact List.mem_append.2 (.inr (List.mem_singleton.2 rfl))
  ·exact .inl h
theorem nLits_st:∀ (b:List Ltl) (a:List Bool × List Int),(∀ x∈b,0≤x.pred)→Nst a (b.foldl nLit a)
 | [],_,_=>Nst.refl _
 | x::b,a,h=>(nLit_st a (h x List.mem_cons_self)).trans (nLits_st b _ fun y hy=>h y (List.mem_cons_of_mem _ hy))
theorem nLits_has:∀ (b:List Ltl) (a:List Bool × List Int),(∀ x∈b,0≤x.pred)→∀ x∈b,x.pred.toNat < a.1.length→(b.foldl nLit a).1.getD x.pred.toNat false=true
 | y::b,a,h,x,hx,hl=>by
  rw [List.foldl_cons]
  have hb:∀ z∈b,0≤z.pred:=fun z hz=>h z (List.mem_cons_of_mem _ hz)
  rcases List.mem_cons.1 hx with rfl|hx
  ·refine (nLits_st b _ hb).up.2 _ ?_
   unfold nLit
   split
   ·assumption
   ·rw [setB_getD,if_pos ⟨rfl,hl⟩]
  ·exact nLits_has b _ hb x hx (by rw [nLit_len];exact hl)
theorem nRule_st {N:Nat} {l:List Rul} (hp:predsOk N l) {r:Rul} (hr:r∈l) (n:Int) (a:List Bool × List Int):Nst a (nRule n a r):=by
 unfold nRule
 split
 ·exact nLits_st _ _ fun x hx=>((hp r hr).2 x (List.mem_filter.1 hx).1 (List.mem_filter.1 hx).2).1
 ·exact Nst.refl _
theorem nRules_st {N:Nat} {l:List Rul} (hp:predsOk N l) (n:Int):∀ (m:List Rul) (a:List Bool × List Int),(∀ r∈m,r∈l)→Nst a (m.foldl (nRule n) a)
 | [],_,_=>Nst.refl _
 | r::m,a,h=>(nRule_st hp (h r List.mem_cons_self) n a).trans (nRules_st hp n m _ fun y hy=>h y (List.mem_cons_of_mem _ hy))
theorem nRules_has {N:Nat} {l:List Rul} (hp:predsOk N l) (n:Int):∀ (m:List Rul) (a:List Bool × List Int),(∀ r∈m,r∈l)→a.1.length=N→∀ r∈m,r.pred=n→∀ x∈r.body,hangsB x=true→(m.foldl (nRule n) a).1.getD x.pred.toNat false=true
 | r'::m,a,h,hl,r,hr,hn,x,hx,hh=>by
  rw [List.foldl_cons]
  have hm:∀ r∈m,r∈l:=fun y hy=>h y (List.mem_cons_of_mem _ hy)
  rcases List.mem_cons.1 hr with rfl|hr
  ·refine (nRules_st hp n m _ hm).up.2 _ ?_
   have hq:=hp r (h r List.mem_cons_self)
   unfold nRule
   rw [if_pos hn]
   exact nLits_has _ _ (fun y hy=>(hq.2 y (List.mem_filter.1 hy).1 (List.mem_filter.1 hy).2).1) x (List.mem_filter.2 ⟨hx,hh⟩) (by have:=hq.2 x hx hh;omega)
  ·exact nRules_has hp n m _ hm (by rw [nRule_len];exact hl) r hr hn x hx hh
def Donesh (l:List Rul) (a:List Bool × List Int):Prop:=∀ r∈l,a.1.getD r.pred.toNat false=true→r.pred ∉ a.2→∀ x∈r.body,hangsB x=true→a.1.getD x.pred.toNat false=true
theorem Ns_lits {N:Nat}:∀ (b:List Ltl) {m:Nat} {a:List Bool × List Int},Ns N m a→(∀ x∈b,0≤x.pred∧x.pred < N)→Ns N m (b.foldl nLit a)
 | [],_,_,h,_=>h
 | x::b,_,_,h,hb=>Ns_lits b (h.step (hb x List.mem_cons_self)) fun y hy=>hb y (List.mem_cons_of_mem _ hy)
theorem Ns_rules {N:Nat} {l:List Rul} (hp:predsOk N l) (n:Int):∀ (m:List Rul) {k:Nat} {a:List Bool × List Int},(∀ r∈m,r∈l)→Ns N k a→Ns N k (m.foldl (nRule n) a)
 | [],_,_,_,h=>h
 | r::m,k,a,hm,h=>by
  refine Ns_rules hp n m (fun y hy=>hm y (List.mem_cons_of_mem _ hy)) ?_
  unfold nRule
  split
  ·exact Ns_lits _ h fun x hx=>(hp r (hm r List.mem_cons_self)).2 x (List.mem_filter.1 hx).1 (List.mem_filter.1 hx).2
  ·exact h
theorem nIter_clo {N:Nat} {l:List Rul} (hp:predsOk N l):∀ (m:Nat) (a:List Bool × List Int),Ns N m a→Donesh l a→Clo l (nIter l m a)∧leB a.1 (nIter l m a)
 | 0,(out,[]),_,hd=>⟨fun r hr h=>hd r hr h (by simp),leB.refl _⟩
 | 0,(out,n::left),h,_=>by have:=h.2.1;simp only [List.length_cons] at this;omega
 | m + 1,(out,[]),_,hd=>⟨fun r hr h=>hd r hr h (by simp),leB.refl _⟩
 | m + 1,(out,n::left),h,hd=>by
  have hs:Ns N m (out,left):=⟨h.1,by have:=h.2.1;simp only [List.length_cons] at this ⊢;omega,fun v hv=>h.2.2 v (List.mem_cons_of_mem _ hv)⟩
  have hst:=nRules_st hp n l (out,left) fun _ h=>h
  have ih:=nIter_clo hp m (l.foldl (nRule n) (out,left)) (Ns_rules hp n l (fun _ h=>h) hs) ?_
  ·exact⟨ih.1,hst.up.trans ih.2⟩
  ·intro r hr h1 h2 x hx hh
   rcases hst.new r.pred (hp r hr).1.1 h1 with h3|h3
   ·by_cases hn:r.pred=n
    ·exact nRules_has hp n l (out,left) (fun _ h=>h) h.1 r hr hn x hx hh
    ·refine hst.up.2 _ (hd r hr h3 (fun hc=>?_) x hx hh)
     rcases List.mem_cons.1 hc with hc|hc
     ·exact hn hc
     ·exact h2 (hst.keep _ hc)
   ·exact absurd h3 h2
def Bel (C:List Bool) (a:List Bool × List Int):Prop:=(∀ i,a.1.getD i false=true→C.getD i false=true)∧∀ v∈a.2,C.getD v.toNat false=true
theorem nLits_bel {C:List Bool}:∀ (b:List Ltl) (a:List Bool × List Int),(∀ x∈b,C.getD x.pred.toNat false=true)→Bel C a→Bel C (b.foldl nLit a)
 | [],_,_,h=>h
 | x::b,a,hb,h=>by
  refine nLits_bel b _ (fun y hy=>hb y (List.mem_cons_of_mem _ hy)) ?_
  have hx:=hb x List.mem_cons_self
  unfold nLit
  split
  ·exact h
  ·refine⟨fun i hi=>?_,fun v hv=>?_⟩
   ·dsimp only at hi
    rw [setB_getD] at hi
    split at hi
    ·rename_i h1;rw [← h1.1];exact hx
    ·exact h.1 i hi
   ·rcases List.mem_append.1 hv with hv|hv
    ·exact h.2 v hv
    ·rw [List.mem_singleton.1 hv];exact hx
theorem nRules_bel {C:List Bool} {l:List Rul} (hc:Clo l C) {n:Int} (hn:C.getD n.toNat false=true):∀ (m:List Rul) (a:List Bool × List Int),(∀ r∈m,r∈l)→Bel C a→Bel C (m.foldl (nRule n) a)
 | [],_,_,h=>h
 | r::m,a,hm,h=>by
  refine nRules_bel hc hn m _ (fun y hy=>hm y (List.mem_cons_of_mem _ hy)) ?_
  unfold nRule
  split
  ·rename_i hr
   exact nLits_bel _ _ (fun x hx=>hc r (hm r List.mem_cons_self) (by rw [hr];exact hn) x (List.mem_filter.1 hx).1 (List.mem_filter.1 hx).2) h
  ·exact h
theorem nIter_bel {C:List Bool} {l:List Rul} (hc:Clo l C):∀ (m:Nat) (a:List Bool × List Int),Bel C a→∀ i,(nIter l m a).getD i false=true→C.getD i false=true
 | 0,_,h=>h.1
 | _ + 1,(_,[]),h=>h.1
 | m + 1,(out,n::left),h=>nIter_bel hc m _ (nRules_bel hc (h.2 n List.mem_cons_self) l (out,left) (fun _ h=>h) ⟨h.1,fun v hv=>h.2 v (List.mem_cons_of_mem _ hv)⟩)
theorem needs_same {p:Prg} {pred:Int} (h:PrgOk p) (hp:0≤pred∧pred < p.arity.length):needsL p pred=docNeeds p pred:=by
 have hq:=predsOk_of h
 have hns:Ns p.arity.length (2 * p.arity.length + 1) (one p.arity.length pred,[pred]):=by
  refine⟨by simp,?_,fun v hv=>by rw [List.mem_singleton.1 hv];exact hp⟩
  have:(one p.arity.length pred).count false≤(one p.arity.length pred).length:=List.count_le_length
  simp only [List.length_set,List.length_replicate,List.length_singleton] at this ⊢
  omega
 have h1:=nIter_clo hq _ _ hns fun r hr h1 h2=>absurd (by have:=one_only h1;have:=(hq r hr).1.1;rw [show r.pred=pred by omega];exact List.mem_singleton.2 rfl) h2
 have hin:(needsL p pred).getD pred.toNat false=true:=h1.2.2 _ (one_has hp)
 have hd:=doc_clo h hp
 refine leB.anti ⟨by rw [needsL_len,docNeeds_len],nIter_bel hd.1 _ _ ⟨fun i hi=>by rw [one_only hi];exact hd.2,fun v hv=>by rw [List.mem_singleton.1 hv];exact hd.2⟩⟩ ⟨by rw [needsL_len,docNeeds_len],fun i hi=>doc_least h h1.1 hin i hi⟩
theorem firstL_sub {α:Type} {f:α→Int} {l m:List α} (h:∀ x∈m,x∈l) (h0:firstL f l=0):firstL f m=0:=z0_firstL fun x hx=>firstL_z0 h0 x (h x hx)
theorem focusL_mem {need:List Bool} {l:List Rul} {r:Rul}:r∈focusL need l↔r∈l∧need.getD r.pred.toNat false=true:=by unfold focusL;rw [List.mem_filter]
theorem focus_progE {nameB:ByteArray→Bool} {p:Prg} (h:progE nameB p=0) (need:List Bool):progE nameB ⟨p.arity,p.names,focusL need p.rules⟩=0:=by
 have hf:firstL (ruleE p.arity) p.rules=0∧¬ (10 < p.arity.length∨12 < p.rules.length)∧p.names.length=p.arity.length∧firstI (nameE nameB p) 0 p.names.length=0:=by
  unfold progE at h
  split at h;· cases h
  rename_i h1
  split at h;· cases h
  rename_i h2
  split at h;· rename_i h3;exact absurd h h3
  rename_i h3
  exact⟨h,h1,by omega,Classical.byContradiction fun hn=>h3 hn⟩
 obtain⟨h1,h2,h3,h4⟩:=hf
 have hlen:(focusL need p.rules).length≤p.rules.length:=List.length_filter_le _ _
 have h5:firstI (nameE nameB ⟨p.arity,p.names,focusL need p.rules⟩) 0 p.names.length=0:=h4
 unfold progE
 rw [if_neg (by dsimp only;omega),if_neg (by dsimp only;omega),if_neg (by dsimp only;rw [h5];simp)]
 exact firstL_sub (fun r hr=>(focusL_mem.1 hr).1) h1
end Go.Proofs.YtapciiffpnociacGreat

/- Plain words: a program's focus has the same model, so far as it looks. Condition: none. -/
namespace Go.Proofs.YtapciiffpnociacGreat
structure FocR (p:Prg) (C:List Bool) (given:List Fct) (m m':List Fct):Prop where
 yes:∀ x:Fct,C.getD x.pred.toNat false=true→(x∈m'↔x∈m)
 no:∀ x:Fct,C.getD x.pred.toNat false=false→(x∈m'↔x∈given)
abbrev focQ (p:Prg) (C:List Bool):Prg:=⟨p.arity,p.names,focusL C p.rules⟩
theorem foc_rul {p:Prg} {C:List Bool} {r:Rul}:r∈(focQ p C).rules↔r∈p.rules∧C.getD r.pred.toNat false=true:=focusL_mem
theorem foc_prgR {p:Prg} (h:PrgR p) (C:List Bool):PrgR (focQ p C) :=
 ⟨fun r hr=>h.rul r (foc_rul.1 hr).1,h.ar,h.alen,Nat.le_trans (List.length_filter_le _ _) h.rlen⟩
def CloK (l:List Rul) (C:List Bool):Prop:=∀ r∈l,C.getD r.pred.toNat false=true→∀ x∈r.body,x.kind≤2→C.getD x.pred.toNat false=true
theorem clo_k {p:Prg} (h:PrgOk p) {C:List Bool} (hc:Clo p.rules C):CloK p.rules C:=fun r hr hC x hx hk=>hc r hr hC x hx (kind_hangs ((h.each r hr).lits x hx).kind.1 hk)
theorem lvV_same {p:Prg} {C:List Bool} {lv lv':List Int} (hlv:∀ i,C.getD i false=true→lv'.getD i 0=lv.getD i 0) {n:Int} {m m':List Fct} {r:Rul}:r∈(lvV (focQ p C) lv' n m').rs↔r∈(lvV p lv n m).rs∧C.getD r.pred.toNat false=true:=by
 simp only [lvV,List.mem_filter,decide_eq_true_eq]
 rw [foc_rul]
 constructor
 ·rintro⟨⟨h1,h2⟩,h3⟩
  exact⟨⟨h1,by rw [← hlv _ h2];exact h3⟩,h2⟩
 ·rintro⟨⟨h1,h3⟩,h2⟩
  exact⟨⟨h1,h2⟩,by rw [hlv _ h2];exact h3⟩
theorem foc_fit {p:Prg} {C:List Bool} {lv lv':List Int} {given:List Fct} (hp:PrgR p) (hl:LvFit p lv) (hl':LvFit (focQ p C) lv') (hc:CloK p.rules C) (hlv:∀ i,C.getD i false=true→lv'.getD i 0=lv.getD i 0)
  {n:Int} {m m' M:List Fct} (hR:FocR p C given m m') (hsub:∀ x∈given,x∈m) (h:Fit (lvV p lv n m) m M):∃ M',Fit (lvV (focQ p C) lv' n m') m' M'∧FocR p C given M M':=by
 have hV:=lvV_ok hp hl n m
 have hV':=lvV_ok (foc_prgR hp C) hl' n m'
 obtain⟨s1,s2⟩:=setF_spec (M.filter fun x=>C.getD x.pred.toNat false || hasF given x)
 generalize hM':setF' (M.filter fun x=>C.getD x.pred.toNat false || hasF given x)=M' at s1 s2
 have hgM:∀ x∈given,x∈M:=fun x hx=>h.good.sub x (hsub x hx)
 have hmem:∀ x,x∈M'↔x∈M∧(C.getD x.pred.toNat false=true∨x∈given):=fun x=>by rw [s2,List.mem_filter,Bool.or_eq_true,hasF_iff]
 have hRM:FocR p C given M M':=by
  refine⟨fun x hx=>?_,fun x hx=>?_⟩
  ·rw [hmem];exact⟨fun h=>h.1,fun h=>⟨h,.inl hx⟩⟩
  ·rw [hmem,hx]
   exact⟨fun h=>h.2.resolve_left (by simp),fun h=>⟨hgM x h,.inr h⟩⟩
 have hM'M:∀ x∈M',x∈M:=fun x hx=>((hmem x).1 hx).1
 have hA':(lvV (focQ p C) lv' n m').A M':=by
  refine⟨fun x hx=>h.good.a.1 x (hM'M x hx),fun x hx=>?_⟩
  cases hC:C.getD x.pred.toNat false with
  | true=>rw [hRM.yes x hC,hR.yes x hC];exact h.good.a.2 x (by rw [← hlv _ hC];exact hx)
  | false=>rw [hRM.no x hC,hR.no x hC]
 have hw:∀ r∈(lvV p lv n m).rs,C.getD r.pred.toNat false=true→∀ S S':List Fct,(∀ x∈S,FctOk p.arity x)→(∀ x∈S',FctOk p.arity x)→Strict S→Strict S'→(∀ x:Fct,C.getD x.pred.toNat false=true→(x∈S'↔x∈S))→manyW S' r=manyW S r∧rawW S' r=rawW S r:=by
  intro r hr hC S S' h1 h2 h3 h4 h5
  have hr:=(List.mem_filter.1 hr).1
  exact same_ways (hp.rul r hr) hp.ar h2 h1 h4.nodup h3.nodup fun l hlb hk x hx=>h5 x (by rw [hx];exact hc r hr hC l hlb hk)
 have hgood':Good (lvV (focQ p C) lv' n m') m' M':=by
  refine⟨s1,hA',fun x hx=>?_,fun r hr=>?_,fun r hr x hx=>?_⟩
  ·cases hC:C.getD x.pred.toNat false with
   | true=>exact (hRM.yes x hC).2 (h.good.sub x ((hR.yes x hC).1 hx))
   | false=>exact (hRM.no x hC).2 ((hR.no x hC).1 hx)
  ·obtain⟨hr,hC⟩:=(lvV_same (m:=m) hlv).1 hr
   exact (hw r hr hC M M' h.good.a.1 hA'.1 h.good.strict s1 hRM.yes).1.trans (h.good.few r hr)
  ·obtain⟨hr,hC⟩:=(lvV_same (m:=m) hlv).1 hr
   have he:=(hw r hr hC M M' h.good.a.1 hA'.1 h.good.strict s1 hRM.yes).2
   have hx':x∈hdW M r:=by
    have hx:x∈hdW M' r:=hx
    unfold hdW at hx ⊢
    rw [← he];exact hx
   have hpr:=(hdW_ok hp (List.mem_filter.1 hr).1 h.good.a.1 h.good.strict.nodup hx').2
   exact (hRM.yes x (by rw [hpr];exact hC)).2 (h.good.cl r hr x hx')
 refine⟨M',⟨hgood',Nat.le_trans (nodup_len s1.nodup hM'M) h.len,fun T1 hT1=>?_⟩,hRM⟩
 obtain⟨i1,i2⟩:=setF_spec (T1.filter fun x=>hasF M' x)
 generalize hT:setF' (T1.filter fun x=>hasF M' x)=T' at i1 i2
 have imem:∀ x,x∈T'↔x∈T1∧x∈M':=fun x=>by rw [i2,List.mem_filter,hasF_iff]
 have iA:(lvV (focQ p C) lv' n m').A T':=⟨fun x hx=>hT1.a.1 x ((imem x).1 hx).1,fun x hx=>by
  rw [imem,hT1.a.2 x hx,hA'.2 x hx];simp⟩
 have hT':Good (lvV (focQ p C) lv' n m') m' T':=by
  refine⟨i1,iA,fun x hx=>(imem x).2 ⟨hT1.sub x hx,hgood'.sub x hx⟩,fun r hr=>?_,fun r hr x hx=>?_⟩
  ·exact (hV'.mono T' M' iA hA' i1 s1 (fun x hx=>((imem x).1 hx).2) r hr (hgood'.few r hr)).1
  ·refine (imem x).2 ⟨hT1.cl r hr x ?_,hgood'.cl r hr x ?_⟩
   ·exact (hV'.mono T' T1 iA hT1.a i1 hT1.strict (fun x hx=>((imem x).1 hx).1) r hr (hT1.few r hr)).2 x hx
   ·exact (hV'.mono T' M' iA hA' i1 s1 (fun x hx=>((imem x).1 hx).2) r hr (hgood'.few r hr)).2 x hx
 have key:∀ x∈M',x∈T':=by
  obtain⟨t1,t2⟩:=setF_spec ((T'.filter fun x=>C.getD x.pred.toNat false)++(M.filter fun x=>!C.getD x.pred.toNat false))
  generalize hTT:setF' ((T'.filter fun x=>C.getD x.pred.toNat false)++(M.filter fun x=>!C.getD x.pred.toNat false))=T at t1 t2
  have tyes:∀ x:Fct,C.getD x.pred.toNat false=true→(x∈T↔x∈T'):=by
   intro x hC
   rw [t2,List.mem_append,List.mem_filter,List.mem_filter,hC];simp
  have tno:∀ x:Fct,C.getD x.pred.toNat false=false→(x∈T↔x∈M):=by
   intro x hC
   rw [t2,List.mem_append,List.mem_filter,List.mem_filter,hC];simp
  have hTM:∀ x∈T,x∈M:=by
   intro x hx
   cases hC:C.getD x.pred.toNat false with
   | true=>exact hM'M x ((imem x).1 ((tyes x hC).1 hx)).2
   | false=>exact (tno x hC).1 hx
  have tA:(lvV p lv n m).A T:=by
   refine⟨fun x hx=>h.good.a.1 x (hTM x hx),fun x hx=>?_⟩
   cases hC:C.getD x.pred.toNat false with
   | true=>rw [tyes x hC,iA.2 x (by rw [hlv _ hC];exact hx),hR.yes x hC]
   | false=>rw [tno x hC];exact h.good.a.2 x hx
  have tgood:Good (lvV p lv n m) m T:=by
   refine⟨t1,tA,fun x hx=>?_,fun r hr=>?_,fun r hr x hx=>?_⟩
   ·cases hC:C.getD x.pred.toNat false with
    | true=>exact (tyes x hC).2 (hT'.sub x ((hR.yes x hC).2 hx))
    | false=>exact (tno x hC).2 (h.good.sub x hx)
   ·exact (hV.mono T M tA h.good.a t1 h.good.strict hTM r hr (h.good.few r hr)).1
   ·have hxM:=h.good.cl r hr x ((hV.mono T M tA h.good.a t1 h.good.strict hTM r hr (h.good.few r hr)).2 x hx)
    have hpr:=(hdW_ok hp (List.mem_filter.1 hr).1 tA.1 t1.nodup hx).2
    cases hC:C.getD r.pred.toNat false with
    | true =>
     have he:=(hw r hr hC T T' tA.1 iA.1 t1 i1 fun x hx=>(tyes x hx).symm).2
     have hx':x∈hdW T' r:=by
      have hx:x∈hdW T r:=hx
      unfold hdW at hx ⊢
      rw [he];exact hx
     exact (tyes x (by rw [hpr];exact hC)).2 (hT'.cl r ((lvV_same hlv).2 ⟨hr,hC⟩) x hx')
    | false=>exact (tno x (by rw [hpr];exact hC)).2 hxM
  intro x hx
  have hxT:=h.least T tgood x (hM'M x hx)
  cases hC:C.getD x.pred.toNat false with
  | true=>exact (tyes x hC).1 hxT
  | false=>exact hT'.sub x ((hR.no x hC).2 ((hRM.no x hC).1 hx))
 exact fun x hx=>((imem x).1 (key x hx)).1
theorem foc_run {p:Prg} {C:List Bool} {lv lv':List Int} {given:List Fct} (hp:PrgR p) (hl:LvFit p lv) (hl':LvFit (focQ p C) lv') (hc:CloK p.rules C) (hlv:∀ i,C.getD i false=true→lv'.getD i 0=lv.getD i 0)
  (hg:∀ x∈given,FctOk p.arity x) (hlen:given.length≤60):∀ {n:Nat} {m:List Fct},RunTo p lv given n m→∃ m',RunTo (focQ p C) lv' given n m'∧FocR p C given m m'
 | 0,m,h=>by
  subst h
  exact⟨_,rfl,fun x _=>Iff.rfl,fun x _=>(setF_spec _).2 x⟩
 | n + 1,M,⟨m,h1,h2⟩=>by
  obtain⟨m',g1,g2⟩:=foc_run hp hl hl' hc hlv hg hlen h1
  have hm:=RunTo.ok hg hlen h1
  obtain⟨M',k1,k2⟩:=foc_fit hp hl hl' hc hlv g2 hm.2.2.2 h2
  exact⟨M',⟨m',g1,k1⟩,k2⟩
theorem foc_levels {p:Prg} {C:List Bool} (h:progE nameR p=0) (hd:docOk p=true) (hc:CloK p.rules C):docOk (focQ p C)=true∧∀ i,C.getD i false=true→(docLv (focQ p C)).getD i 0=(docLv p).getD i 0:=by
 have hok:=progE_ok h
 have hq:=focus_progE h C
 have hokq:=progE_ok hq
 have hE:=edgP_ok hok
 have hEq:=edgP_ok hokq
 rw [docOk_eq p hok,decide_eq_true_eq] at hd
 have hfit:=fit_of_rest hE hd
 have hsubE:∀ e∈edgP (focQ p C),e∈edgP p:=by
  intro e he
  obtain⟨r,hr,he⟩:=List.mem_flatMap.1 he
  exact List.mem_flatMap.2 ⟨r,(foc_rul.1 hr).1,he⟩
 have hfq:FitE p.arity.length (edgP (focQ p C)) (L0 (edgP p) p.arity.length p.arity.length):=⟨hfit.1,hfit.2.1,fun e he=>hfit.2.2 e (hsubE e he)⟩
 have hleast:=least_fit hEq hfq
 have hrest:=rest_of_fit hleast
 have hdq:docOk (focQ p C)=true:=by
  rw [docOk_eq _ hokq,decide_eq_true_eq];exact hrest
 refine⟨hdq,fun i hi=>?_⟩
 rw [docLv_eq p hok,docLv_eq _ hokq,hd]
 show (L0 (edgP (focQ p C)) p.arity.length (p.arity.length + 1)).getD i 0=_
 rw [hrest]
 show (L0 (edgP (focQ p C)) p.arity.length p.arity.length).getD i 0=_
 have hle:∀ j,(L0 (edgP (focQ p C)) p.arity.length p.arity.length).getD j 0≤(L0 (edgP p) p.arity.length p.arity.length).getD j 0:=L0_below hEq hfq p.arity.length
 have hF:FitE p.arity.length (edgP p) ((List.range p.arity.length).map fun j=>if C.getD j false=true then (L0 (edgP (focQ p C)) p.arity.length p.arity.length).getD j 0 else (L0 (edgP p) p.arity.length p.arity.length).getD j 0):=by
  refine⟨by simp,fun j=>?_,fun e he=>?_⟩
  ·rw [range_map_getD]
   have h1:=hfit.2.1 j
   have h2:=hleast.2.1 j
   split
   ·split <;> assumption
   ·exact Int.le_refl _
  ·obtain⟨hp,hq',_,_⟩:=hE e he
   have h1:=hfit.2.2 e he
   have h2:=hle e.q
   rw [range_map_getD,range_map_getD,if_pos hp,if_pos hq']
   by_cases hC:C.getD e.p false=true
   ·obtain⟨r,hr,he'⟩:=List.mem_flatMap.1 he
    obtain⟨x,hx,rfl⟩:=List.mem_map.1 he'
    have hCr:C.getD r.pred.toNat false=true:=hC
    have hxb:=List.mem_filter.1 hx
    have hk1:=((hok.each r hr).lits x hxb.1).kind.1
    have hk:x.kind≤2:=by
     apply Classical.byContradiction
     intro hk
     have:=(hangs_kind hk1).1 (by omega)
     rw [hxb.2] at this;cases this
    have hCq:=hc r hr hCr x hxb.1 hk
    have hin:(⟨r.pred.toNat,x.pred.toNat,liftS r.fold x⟩:Edg)∈edgP (focQ p C):=List.mem_flatMap.2 ⟨r,foc_rul.2 ⟨hr,hCr⟩,List.mem_map.2 ⟨x,hx,rfl⟩⟩
    have:=hleast.2.2 _ hin
    dsimp only at this ⊢
    rw [if_pos hCr,if_pos hCq]
    exact this
   ·rw [if_neg hC]
    split <;> omega
 have hge:=L0_below hE hF p.arity.length i
 rw [range_map_getD] at hge
 have h2:=hle i
 by_cases hin:i < p.arity.length
 ·rw [if_pos hin,if_pos hi] at hge
  omega
 ·rw [List.getD,List.getD,List.getElem?_eq_none (by rw [L0_len];exact Nat.le_of_not_lt hin),List.getElem?_eq_none (by rw [L0_len];omega)]
theorem foc_model {p:Prg} {C:List Bool} {l m:List Fct} (h:mErr p l=0) (hc:Clo p.rules C) (hr:ModelR p l 0 m):∃ m',ModelR (focQ p C) l 0 m'∧∀ x:Fct,C.getD x.pred.toNat false=true→(x∈m'↔x∈m):=by
 have ho:=mOk h
 have hq:=focus_progE ho.prog C
 have hck:=clo_k (progE_ok ho.prog) hc
 obtain⟨d1,d2⟩:=foc_levels ho.prog ho.doc hck
 have hr:=ModelR.run h hr
 obtain⟨f1,_⟩:=docLv_fit hq d1
 obtain⟨m',g1,g2⟩:=foc_run ho.pr ho.fit f1 hck d2 ho.facts ho.len hr
 refine⟨m',.ok m' ?_ g1,g2.yes⟩
 unfold mErr at h ⊢
 rw [hq,d1]
 rw [ho.prog,ho.doc] at h
 exact h
end Go.Proofs.YtapciiffpnociacGreat

/- Plain words: how a model's facts came, step by step. Condition: none. -/
namespace Go.Proofs.YtapciiffpnociacGreat
structure Stp where
 fact:Fct
 rule:Int
 vars:List Int
def kW (r:Rul):Nat:=if r.fold=0 then r.terms.length else r.terms.length - 1
def isW (r:Rul) (f:Fct) (w:List Int):Bool:=decide ((aW r w).take (kW r)=f.args.take (kW r))
def wayOf (r:Rul) (f:Fct) (ways:List (List Int)):List Int:=ways.getD (ways.findIdx (isW r f)) []
def takeG (r:Rul) (n:Int) (ways:List (List Int)):List Fct→List Fct→List Stp→Bool × List Fct × List Stp
 | [],S,hw=>(true,S,hw)
 | f::l,S,hw=>if hasF S f then takeG r n ways l S hw else if S.length=60 then (false,S,hw)
  else takeG r n ways l (setF' (S++[f])) (hw++[⟨f,n,wayOf r f ways⟩])
theorem aW_len (r:Rul) (w:List Int):(aW r w).length=r.terms.length:=List.length_map _
theorem kW_le (r:Rul):kW r≤r.terms.length:=by unfold kW;split <;> omega
theorem head_way {r:Rul} {ways:List (List Int)} {f:Fct} (h:f∈headsD r ways) (hf:r.fold≠0→0 < r.terms.length):f.args.length=r.terms.length∧∃ w∈ways,isW r f w=true:=by
 rw [headsD_eq] at h
 obtain⟨w,hw,h⟩:=List.mem_filterMap.1 h
 unfold headD at h
 split at h
 ·rename_i h0
  simp only [Option.some.injEq] at h
  subst h
  exact⟨aW_len r w,w,hw,decide_eq_true rfl⟩
 ·rename_i h0
  split at h
  ·simp only [Option.some.injEq] at h
   subst h
   have hl:=hf h0
   have h1:(pW r w).1=(aW r w).take (r.terms.length - 1):=rfl
   have h2:(pW r w).1.length=r.terms.length - 1:=by rw [h1,List.length_take,aW_len];omega
   refine⟨?_,w,hw,decide_eq_true ?_⟩
   ·rw [List.length_append,h2,List.length_singleton];omega
   ·unfold kW
    rw [if_neg h0,← h1]
    show _=List.take _ _
    rw [List.take_append_of_le_length (by rw [h2];exact Nat.le_refl _),List.take_of_length_le (by rw [h2];exact Nat.le_refl _)]
  ·cases h
theorem wayOf_mem {r:Rul} {f:Fct} {ways:List (List Int)} (h:∃ w∈ways,isW r f w=true):wayOf r f ways∈ways∧isW r f (wayOf r f ways)=true:=by
 obtain⟨w,hw,h⟩:=h
 have hlt:=List.findIdx_lt_length_of_exists (xs:=ways) (p:=isW r f) ⟨w,hw,h⟩
 unfold wayOf
 rw [List.getD_eq_getElem?_getD,List.getElem?_eq_getElem hlt]
 exact⟨List.getElem_mem hlt,List.findIdx_getElem (w:=hlt)⟩
structure StpOk (p:Prg) (lv:List Int) (n:Int) (given:List Fct) (hw:List Stp) (T:List Fct) (i:Nat) (h:Stp):Prop where
 lo:0≤h.rule
 hi:h.rule.toNat < p.rules.length
 level:lv.getD (p.rules[h.rule.toNat]'hi).pred.toNat 0 < n
 way:h.vars∈rawW T (p.rules[h.rule.toNat]'hi)
 head:h.fact∈hdW T (p.rules[h.rule.toNat]'hi)
 is:isW (p.rules[h.rule.toNat]'hi) h.fact h.vars=true
 ahead:(p.rules[h.rule.toNat]'hi).fold=0→∀ l∈(p.rules[h.rule.toNat]'hi).body,l.kind=1→(⟨l.pred,l.terms.map (vA h.vars)⟩:Fct)∈given∨∃ g∈hw.take i,g.fact=⟨l.pred,l.terms.map (vA h.vars)⟩
structure HwOk (given S:List Fct) (hw:List Stp):Prop where
 all:∀ x,x∈S↔x∈given∨∃ h∈hw,h.fact=x
 nodup:(hw.map (·.fact)).Nodup
 new:∀ h∈hw,h.fact ∉ given
def HwM (p:Prg) (lv:List Int) (n:Int) (given:List Fct) (hw:List Stp) (T:List Fct):Prop:=∀ i h,hw[i]? = some h→StpOk p lv n given hw T i h
theorem HwM.more {p:Prg} {lv:List Int} {n:Int} {given:List Fct} {hw:List Stp} {T:List Fct} (h:HwM p lv n given hw T) {s:Stp} (hs:StpOk p lv n given hw T hw.length s):HwM p lv n given (hw++[s]) T:=by
 have key:∀ i,i≤hw.length→(hw++[s]).take i=hw.take i:=fun i hi=>List.take_append_of_le_length hi
 intro i g hg
 by_cases hi:i < hw.length
 ·rw [List.getElem?_append_left hi] at hg
  have h1:=h i g hg
  exact⟨h1.lo,h1.hi,h1.level,h1.way,h1.head,h1.is,fun h0 l hl hk=>by rw [key i (by omega)];exact h1.ahead h0 l hl hk⟩
 ·rw [List.getElem?_append_right (by omega)] at hg
  have hi0:i - hw.length=0:=by
   apply Classical.byContradiction
   intro hn
   rw [List.getElem?_eq_none (by rw [List.length_singleton];omega)] at hg
   cases hg
  have hi1:i=hw.length:=by omega
  rw [hi0] at hg
  simp only [List.getElem?_cons_zero,Option.some.injEq] at hg
  subst hg
  subst hi1
  exact⟨hs.lo,hs.hi,hs.level,hs.way,hs.head,hs.is,fun h0 l hl hk=>by rw [key _ (Nat.le_refl _)];have:=hs.ahead h0 l hl hk;exact this⟩
theorem HwOk.more {given S:List Fct} {hw:List Stp} (h:HwOk given S hw) {s:Stp} (hs:s.fact ∉ S):HwOk given (setF' (S++[s.fact])) (hw++[s]):=by
 have hn:s.fact ∉ given∧∀ g∈hw,g.fact≠s.fact:=⟨fun hc=>hs ((h.all _).2 (.inl hc)),fun g hg he=>hs ((h.all _).2 (.inr ⟨g,hg,he⟩))⟩
 refine⟨fun x=>?_,?_,fun g hg=>?_⟩
 ·rw [(setF_spec _).2,List.mem_append,List.mem_singleton,h.all]
  constructor
  ·rintro ((h1|⟨g,h1,h2⟩)|h1)
   ·exact .inl h1
   ·exact .inr ⟨g,List.mem_append_left _ h1,h2⟩
   ·exact .inr ⟨s,List.mem_append_right _ (List.mem_singleton.2 rfl),h1.symm⟩
  ·rintro (h1|⟨g,h1,h2⟩)
   ·exact .inl (.inl h1)
   ·rcases List.mem_append.1 h1 with h1|h1
    ·exact .inl (.inr ⟨g,h1,h2⟩)
    ·rw [List.mem_singleton] at h1
     subst h1
     exact .inr h2.symm
 ·rw [List.map_append]
  refine List.nodup_append.2 ⟨h.nodup,by simp,fun x hx y hy he=>?_⟩
  rw [List.map_singleton,List.mem_singleton] at hy
  obtain⟨g,hg,rfl⟩:=List.mem_map.1 hx
  exact hn.2 g hg (he.trans hy)
 ·rcases List.mem_append.1 hg with hg|hg
  ·exact h.new g hg
  ·rw [List.mem_singleton] at hg
   subst hg
   exact hn.1
structure BldOk (p:Prg) (lv:List Int) (n:Nat) (given m0 S:List Fct) (hw:List Stp):Prop where
 inv:InvM (lvV p lv n m0) m0 S
 hwk:HwOk given S hw
 stp:∀ T,Good (lvV p lv n m0) m0 T→HwM p lv (n + 1) given hw T
theorem take_spec {p:Prg} (hp:PrgR p) {lv:List Int} (hl:LvFit p lv) {n:Nat} {given m0:List Fct} {i:Nat} (hi:i < p.rules.length) (hlv:lv.getD (p.rules[i]).pred.toNat 0=n) {S0:List Fct} {hw0:List Stp} (h0:BldOk p lv n given m0 S0 hw0) (hm:manyW S0 p.rules[i]=true) :
  ∀ (heads S:List Fct) (hw:List Stp),(∀ f∈heads,f∈hdW S0 p.rules[i])→BldOk p lv n given m0 S hw→(∀ x∈S0,x∈S)→(∀ g∈hw0,g∈hw)→S0.length≤S.length →
   ((takeG p.rules[i] i (rawW S0 p.rules[i]) heads S hw).1=true→BldOk p lv n given m0 (takeG p.rules[i] i (rawW S0 p.rules[i]) heads S hw).2.1 (takeG p.rules[i] i (rawW S0 p.rules[i]) heads S hw).2.2 ∧
    (∀ x∈S,x∈(takeG p.rules[i] i (rawW S0 p.rules[i]) heads S hw).2.1)∧(∀ x∈heads,x∈(takeG p.rules[i] i (rawW S0 p.rules[i]) heads S hw).2.1)∧S.length≤(takeG p.rules[i] i (rawW S0 p.rules[i]) heads S hw).2.1.length) ∧
   ((takeG p.rules[i] i (rawW S0 p.rules[i]) heads S hw).1=false→¬ ∃ M,Fit (lvV p lv n m0) m0 M)
 | [],S,hw,_,h,_,_,_=>⟨fun _=>⟨h,fun _ h=>h,fun _ h=>by simp at h,Nat.le_refl _⟩,fun hf=>by simp [takeG] at hf⟩
 | f::l,S,hw,hh,h,hs,hsh,hlen=>by
  have hV:=lvV_ok hp hl n m0
  have hrs:p.rules[i]∈(lvV p lv n m0).rs:=List.mem_filter.2 ⟨List.getElem_mem hi,decide_eq_true hlv⟩
  have hf0:=hh f (List.mem_cons_self ..)
  have hl':=fun g hg=>hh g (List.mem_cons_of_mem _ hg)
  unfold takeG
  by_cases hin:hasF S f=true
  ·rw [if_pos hin]
   obtain⟨a,b⟩:=take_spec hp hl hi hlv h0 hm l S hw hl' h hs hsh hlen
   refine⟨fun ht=>?_,b⟩
   obtain⟨a1,a2,a3,a4⟩:=a ht
   refine⟨a1,a2,fun x hx=>?_,a4⟩
   rcases List.mem_cons.1 hx with rfl|hx
   ·exact a2 x (hasF_iff.1 hin)
   ·exact a3 x hx
  ·rw [if_neg hin]
   have hnin:f ∉ S:=fun hc=>hin (hasF_iff.2 hc)
   by_cases h60:S.length=60
   ·rw [if_pos h60]
    refine⟨fun ht=>by simp at ht,fun _=>no_room hV h.inv (H:=[f]) (fun x hx=>?_) (by simp) (fun x hx=>?_) (by rw [h60];simp)⟩
    ·rw [List.mem_singleton] at hx
     subst hx
     exact⟨_,hrs,S0,h0.inv,hf0⟩
    ·rw [List.mem_singleton] at hx
     subst hx
     exact hnin
   ·rw [if_neg h60]
    obtain⟨w1,w2⟩:=setF_spec (S++[f])
    have hle:=setF_lenle (S++[f])
    rw [List.length_append,List.length_singleton] at hle
    have hSl:=h.inv.len
    have hinv:InvM (lvV p lv n m0) m0 (setF' (S++[f])):=inv_put hV h.inv (fun x hx=>by
     rw [List.mem_singleton] at hx
     subst hx
     exact⟨_,hrs,S0,h0.inv,hf0⟩) (by omega)
    have hgrow:S.length + 1≤(setF' (S++[f])).length:=by
     have:=nodup_len (a:=f::S) (b:=setF' (S++[f])) (List.nodup_cons.2 ⟨hnin,h.inv.strict.nodup⟩) fun x hx=>by
      rw [w2,List.mem_append,List.mem_singleton]
      rcases List.mem_cons.1 hx with h|h
      ·exact .inr h
      ·exact .inl h
     rw [List.length_cons] at this
     exact this
    have hr:=hp.rul _ (List.getElem_mem hi)
    obtain⟨wm,wi⟩:=wayOf_mem (head_way (((setF_spec _).2 f).1 hf0) fun hf=>(hr.folded hf).1).2
    have hb:BldOk p lv n given m0 (setF' (S++[f])) (hw++[⟨f,i,wayOf p.rules[i] f (rawW S0 p.rules[i])⟩]):=by
     refine⟨hinv,h.hwk.more (s:=⟨f,i,wayOf p.rules[i] f (rawW S0 p.rules[i])⟩) hnin,fun T hT=>(h.stp T hT).more ?_⟩
     have hsub:=h0.inv.least T hT
     have hk:∀ l∈(p.rules[i]).body,l.kind≤2→liftN (p.rules[i]).fold l=1→∀ x:Fct,x.pred=l.pred→(x∈S0↔x∈T):=by
      intro l hlb hk2 hlift x hx
      have:=hl.fit _ (List.getElem_mem hi) l hlb hk2
      have hlt:lv.getD x.pred.toNat 0 < (n:Int):=by rw [hx];omega
      exact (h0.inv.a.2 x hlt).trans (hT.a.2 x hlt).symm
     obtain⟨_,g2,g3⟩:=ways_grow hr hp.ar h0.inv.a.1 hT.a.1 h0.inv.strict.nodup hT.strict.nodup hsub hk (hT.few _ hrs)
     have hnat:((i:Int)).toNat=i:=Int.toNat_natCast i
     refine⟨Int.natCast_nonneg i,by rw [hnat];exact hi,?_,?_,?_,?_,?_⟩
     ·simp only [hnat];omega
     ·simp only [hnat];exact g2 _ wm
     ·simp only [hnat];exact heads_grow g2 g3 f hf0
     ·simp only [hnat];exact wi
     ·simp only [hnat]
      intro hfold l hlb hk1
      have hraw:=raw_sub wm
      have sS:=rulS_mk hr hp.ar h0.inv.a.1
      obtain⟨_,_,p3⟩:=ways_perm h0.inv.strict.nodup sS.ok.lit sS.bd
      have hh:=((p3 _).1 hraw).2 l hlb
      unfold holdE at hh
      rw [if_pos hk1] at hh
      have hmem:=hasF_iff.1 hh
      rcases (h0.hwk.all _).1 hmem with hg|⟨g,hg,he⟩
      ·exact .inl hg
      ·exact .inr ⟨g,by rw [List.take_of_length_le (Nat.le_refl _)];exact hsh g hg,he⟩
    obtain⟨a,b⟩:=take_spec hp hl hi hlv h0 hm l _ _ hl' hb (fun x hx=>(w2 x).2 (List.mem_append_left _ (hs x hx))) (fun g hg=>List.mem_append_left _ (hsh g hg)) (by omega)
    refine⟨fun ht=>?_,b⟩
    obtain⟨a1,a2,a3,a4⟩:=a ht
    refine⟨a1,fun x hx=>a2 x ((w2 x).2 (List.mem_append_left _ hx)),fun x hx=>?_,by omega⟩
    rcases List.mem_cons.1 hx with rfl|hx
    ·exact a2 x ((w2 x).2 (List.mem_append_right _ (List.mem_singleton.2 rfl)))
    ·exact a3 x hx
end Go.Proofs.YtapciiffpnociacGreat

/- Pointers to own blocks, seen as data: for a call, or for good. Condition: none. -/
namespace Go.Proofs.YtapciiffpnociacGreat
open Go Go.RowKit
def CellOk (S:Nat→Prop) (H:Hp) (s:SV) (d:D):Prop:=s = .d d∨(∃ i te es xs,s = .row i∧S i∧Hp.get H i=some (.row te es xs)∧d = .slice es xs)∨(s = .nils∧∃ es,d = .slice es [])
def BlkOk (S:Nat→Prop) (H:Hp) (id:Nat) (ds:List D):Prop:=S id∧∃ ty cs,Hp.get H id=some (.blk ty cs)∧∀ j (h:j < ds.length),∃ s,cs[j]? = some s∧CellOk S H s ds[j]
theorem mem_eq:∀ {H:Hp},(H.map (·.1)).Nodup→∀ {p q:Nat × HB},p∈H→q∈H→p.1=q.1→p=q
 | [],_,_,_,h,_,_=>by simp at h
 | x::H,hn,p,q,hp,hq,he=>by
  obtain⟨h1,h2⟩:=List.nodup_cons.1 hn
  rcases List.mem_cons.1 hp with rfl|hp'
  ·rcases List.mem_cons.1 hq with rfl|hq'
   ·rfl
   ·exact absurd (List.mem_map.2 ⟨q,hq',he.symm⟩) h1
  ·rcases List.mem_cons.1 hq with rfl|hq'
   ·exact absurd (List.mem_map.2 ⟨p,hp',he⟩) h1
   ·exact mem_eq h2 hp' hq' he
theorem Hp.mem_del {i:Nat}:∀ {H:Hp} {p:Nat × HB},p∈H→p.1≠i→p∈Hp.del H i
 | [],_,h,_=>by simp at h
 | (d,s)::H,p,hp,hne=>by
  simp only [Hp.del]
  cases hb:Nat.beq d i with
  | true =>
   have:=Nat.eq_of_beq_eq_true hb
   rcases List.mem_cons.1 hp with rfl|hp'
   ·exact absurd this hne
   ·exact hp'
  | false =>
   rcases List.mem_cons.1 hp with rfl|hp'
   ·exact List.mem_cons_self ..
   ·exact List.mem_cons_of_mem _ (Hp.mem_del hp' hne)
section
variable {Γ : Ctx} {k : Nat} {L : Sl} {H : Hp} {a : Act} {w : World} {e : Env} {S : Nat → Prop} {X' : Nat → Prop}
theorem cell_rep (m:Models Γ k L H e a w) (h1:∀ b,X' b→Γ.X e H b) (h2:∀ p∈H,S p.1→∀ b,HB.owned e p=some b→¬ X' b) {s:SV} {d:D} (h:CellOk S H s d) {v:Value} (hr:Rel (Γ.X e H) e w s v):RepC X' w v d:=by
 rcases h with rfl|⟨i,te,es,xs,rfl,hS,hH,rfl⟩|⟨rfl,es,rfl⟩
 ·exact RepC.keep (Nat.le_refl _) (fun _ _ _=>rfl) (fun b _ h=>h1 b h) hr
 ·rw [hr.2.1]
  refine RepC.keep (Nat.le_refl _) (fun _ _ _=>rfl) (fun b _ h=>?_) (row_data m hH)
  rcases h1 b h with ho|ho
  ·exact .inl ho
  ·obtain⟨p,hp,hpb⟩:=List.mem_filterMap.1 ho
   have hne:p.1≠i:=by
    intro hpi
    have:=mem_eq m.ids hp (Hp.mem_of hH) hpi
    subst this
    exact h2 _ hp hS b hpb h
   exact .inr (List.mem_filterMap.2 ⟨p,Hp.mem_del hp hne,hpb⟩)
 ·rw [show v = .slice none 0 0 from hr];exact .nil
theorem ptr_rep (m:Models Γ k L H e a w) (h1:∀ b,X' b→Γ.X e H b) (h2:∀ p∈H,S p.1→∀ b,HB.owned e p=some b→¬ X' b) {id:Nat} {ds:List D} (h:BlkOk S H id ds) {v:Value} (hv:v = .pointer (some ⟨e.β id,0,none⟩)):RepC X' w v (.ptr ds):=by
 obtain⟨hS,ty,cs,hH,hc⟩:=h
 have hmem:=Hp.mem_of hH
 obtain⟨us,g1,g2,_⟩:=(m.heap _ hmem).2
 subst hv
 have hcell:∀ j (hj:j < ds.length),∃ u,us[j]? = some u∧RepC X' w u ds[j]:=by
  intro j hj
  obtain⟨s,q1,q2⟩:=hc j hj
  obtain⟨u,q3,q4⟩:=RelL.get _ _ g2 j s q1
  exact⟨u,q3,cell_rep m h1 h2 q2 q4⟩
 refine .ptr (fun j=>us.getD j undef) (h2 _ hmem hS _ rfl) (lt_of_heap g1) (fun j hj=>?_) (fun j hj=>?_)
 ·obtain⟨u,q3,_⟩:=hcell j hj
  rw [cell_of_row w _ _ _ ty (0,0) g1,Nat.zero_add]
  simp [List.getD,q3]
 ·obtain⟨u,q3,q4⟩:=hcell j hj
  simp only [List.getD,q3,Option.getD_some]
  exact q4
theorem ptrs_rep (m:Models Γ k L H e a w) (h1:∀ b,X' b→Γ.X e H b) (h2:∀ p∈H,S p.1→∀ b,HB.owned e p=some b→¬ X' b) {i n cap:Nat} {te:TypeId} {cs:List SV} {dss:List (List D)} (hS:S i) (hH:Hp.get H i=some (.blk te cs)) (hn:dss.length=n)
  (hc:∀ j (h:j < dss.length),∃ id,cs[j]? = some (.loc id 0)∧BlkOk S H id dss[j]) {v:Value} (hr:Rel (Γ.X e H) e w (.sl i 0 n cap) v):RepC X' w v (.slice 1 (dss.map fun ds=>[.ptr ds])):=by
 obtain⟨_,hnc,hcm,o,rfl,ho⟩:=hr
 have hmem:=Hp.mem_of hH
 obtain⟨us,g1,g2,_⟩:=(m.heap _ hmem).2
 have hcell:∀ j (hj:j < dss.length),∃ u,us[j]? = some u∧RepC X' w u (.ptr dss[j]):=by
  intro j hj
  obtain⟨id,q1,q2⟩:=hc j hj
  obtain⟨u,q3,q4⟩:=RelL.get _ _ g2 j _ q1
  exact⟨u,q3,ptr_rep m h1 h2 q2 q4.2⟩
 subst hn
 refine .slice (fun i' _=>us.getD i' undef) (by simp) hnc hcm (h2 _ hmem hS _ rfl) (lt_of_heap g1) (fun i' hi=>by simp) (fun i' hi j hj=>?_) (fun i' hi j hj=>?_)
 ·rw [List.length_map] at hi
  simp only [List.getElem_map,List.length_cons,List.length_nil,Nat.zero_add,Nat.lt_one_iff] at hj
  subst hj
  obtain⟨u,q3,_⟩:=hcell i' hi
  have:o=0:=ho (by omega)
  subst this
  rw [cell_of_row w _ _ _ te (0,0) g1,Nat.zero_add,Nat.mul_one]
  simp [List.getD,q3]
 ·rw [List.length_map] at hi
  simp only [List.getElem_map,List.length_cons,List.length_nil,Nat.zero_add,Nat.lt_one_iff] at hj
  subst hj
  obtain⟨u,q3,q4⟩:=hcell i' hi
  simp only [List.getD,q3,Option.getD_some,List.getElem_map,List.getElem_cons_zero]
  exact q4
end
theorem FnP.use_at {dr:Bool} {P:Program} {τ:List (Nat × TI)} {τok:TabOk P τ} {f:FuncId} {args:List SV} {R:SV→Prop} (hc:FnP dr P τ τok f args R) (e:Env) {w:World} (O:Nat→Prop) (hO:∀ b,O b→b < w.heap.size) (hlow:SV.lowL 0 args=true)
  (vs:List Value) (hr:RelL O e w args vs) :
  Calls P f vs.toArray w (fun en w'=>∃ r v,R r∧en = .returned v∧Beld dr w.heap.size w w'∧r.low 0=true∧Rel O e w' r v):=by
 have hX:∀ e' b,Ctx.X ⟨P,τ,τok,O,w,fun b=>b∈ownedL (e.ren id 0) [],0,0,(e.ren id 0).an,none,noPan,true,dr⟩ e' [] b↔O b:=by
  intro e' b
  unfold Ctx.X
  simp [ownedL]
 refine (hc.2 O (e.ren id 0) w vs ⟨fun _=>Iff.rfl,by simp,by simp,by simp [ownedL],by simp [ownedL],rfl,rfl,rfl,fun _=>Nat.le_refl _,Nat.le_refl _,fun _ _ _=>rfl,fun b hb=>⟨hO b hb,by simp [ownedL]⟩,fun j hj=>absurd hj (Nat.not_lt_zero j),fun j hj=>absurd hj (Nat.not_lt_zero j)⟩ ?_).mono ?_
 ·exact RelL.keep (Nat.le_refl _) (fun _ _ _=>rfl) (fun b _ hy=>(hX _ b).1 hy) _ _ (RelL.env _ _ hlow hr)
 ·rintro en w' ⟨k',r,H',e',v,⟨rfl,hlr,hR⟩,rfl,hH,hrel⟩
  refine⟨r,v,hR,rfl,⟨⟨hH.os,hH.tape,hH.output,hH.size,fun b hb=>hH.block b hb (by simp [ownedL])⟩,hH.drawn⟩,hlr,?_⟩
  exact Rel.keep (Nat.le_refl _) (fun _ _ _=>rfl) (fun b _ hy=>(hX _ b).2 hy) _ _ (Rel.env _ _ hlr hrel)
theorem sure_rel {X Y:Nat→Prop} {e e':Env} {w w':World} {s:SV} {u v:Value} (hu:s.sure=some u) (hr:Rel X e w s v):Rel Y e' w' s v:=by
 cases s with
 | d x =>
  cases x with
  | int i n=>cases hr;exact .int (by assumption)
  | bool b=>cases hr;exact .bool
  | str s=>cases hr;exact .str (by assumption)
  | slice=>simp [SV.sure] at hu
  | ptr=>simp [SV.sure] at hu
 | _=>simp [SV.sure] at hu
section
variable {Γ : Ctx} {k : Nat} {L : Sl} {H : Hp} {K : Next'} {ops : List Oper} {rest : List Oper}
theorem ds_lend {f:FuncId} {xs:List Operand} {ts:Array TypeId} {ty:TypeId} {pos:String} {af:Array Edge} {g:Option (Nat × Bool)} {d:Nat} {args:List SV} {r:SV} {u:Value} (hw:wantedSV ops L g=some true)
  (hl:∀ e a w,Models Γ k L H e a w→RelL Γ.O e w args (xs.map a.eval)) (hc:FnP Γ.dr Γ.P Γ.τ Γ.τok f args (fun s=>s=r)) (hu:r.sure=some u) (hlow:SV.lowL 0 args=true) (hd:Nat.blt d Γ.n=true)
  (hk:DS false Γ ops rest K k ((d,r)::L) H) :
  DS false Γ ops (⟨some d,.call { callee:=.value (.func f),args:=xs.toArray,argTypes:=ts },ty,pos,af,g⟩::rest) K k L H:=by
 refine dl_run hw fun e a w m=>?_
 unfold Oper.wp
 rw [run_callOp hc.1]
 rw [Oper.upon_enter]
 refine (hc.use_at (τ:=Γ.τ) (τok:=Γ.τok) e Γ.O (fun b hb=>Nat.lt_of_lt_of_le (m.obound b hb).1 m.size) hlow _ (hl e a w m)).mono ?_
 rintro en w' ⟨r',v,rfl,rfl,hb,hlr,hrel⟩
 exact⟨k,_,H,e,(m.below hb).put (Nat.le_of_ble_eq_true hd) (sure_rel hu hrel),hk⟩
theorem ent_frz {S:Nat→Prop} {i n cap:Nat} {te:TypeId} {cs:List SV} {dss:List (List D)} (t:Nat) {H':Hp} (hL:L.get t = .sl i 0 n cap) (hS:S i) (hH:Hp.get H i=some (.blk te cs)) (hn:dss.length=n)
  (hc:∀ j (h:j < dss.length),∃ id,cs[j]? = some (.loc id 0)∧BlkOk S H id dss[j]) (hsub:∀ p∈H',p∈H∧¬ S p.1) (hid:(H'.map (·.1)).Nodup) (hown:∀ e,(ownedL e H).Nodup→(ownedL e H').Nodup) :
  Ent Γ k L H k ((t,.d (.slice 1 (dss.map fun ds=>[.ptr ds])))::L) H':=by
 intro e a w m
 have hX:∀ b,Γ.X e H' b→Γ.X e H b:=fun b hb=>hb.imp id fun hb=>by
  obtain⟨p,hp,ho⟩:=List.mem_filterMap.1 hb
  exact List.mem_filterMap.2 ⟨p,(hsub p hp).1,ho⟩
 have hX2:∀ p∈H,S p.1→∀ b,HB.owned e p=some b→¬ Γ.X e H' b:=by
  intro p hp hSp b hb hx
  rcases hx with hx|hx
  ·exact (m.mine b (List.mem_filterMap.2 ⟨p,hp,hb⟩)).2 hx
  ·obtain⟨q,hq,hqb⟩:=List.mem_filterMap.1 hx
   exact m.owned_ne (hsub q hq).1 hp (fun he=>(hsub q hq).2 (he▸hSp)) hqb hb
 refine⟨e,⟨⟨m.top,fun p hp=>⟨(m.heap p (hsub p hp).1).1,HRel.keep (Nat.le_refl _) (fun _ _ _=>rfl) (fun b _ hy=>hX b hy) p (fun _ _=>rfl) (m.heap p (hsub p hp).1).2⟩,hid,hown e m.nodup,fun b hb=>m.mine b (by
  obtain⟨p,hp,ho⟩:=List.mem_filterMap.1 hb
  exact List.mem_filterMap.2 ⟨p,(hsub p hp).1,ho⟩),m.os,m.tape,m.output,m.drawn,m.size,m.block,m.obound,m.jle,m.anchor⟩,m.defers,m.len,fun t'=>?_⟩⟩
 rw [Sl.get_cons]
 split
 ·rename_i ht
  subst ht
  have hs:=m.slot t
  rw [hL] at hs
  exact ptrs_rep m hX hX2 hS hH hn hc hs
 ·exact Rel.keep (Nat.le_refl _) (fun _ _ _=>rfl) (fun b _ hy=>hX b hy) _ _ (m.slot t')
end
section
variable {Γ : Ctx} {k : Nat} {L : Sl} {H : Hp} {K : Next'} {ops : List Oper} {rest : List Oper} {t t' ty : TypeId} {x y : Operand}
theorem ds_append_ptr {d te t2 i off n cap es j te2:Nat} {cs:List SV} {sv:SV} {pos:String} {af:Array Edge} {g:Option (Nat × Bool)}
  (ht:Γ.sh t = .slice te) (hkn:(Γ.sh te).known=true) (hes:Γ.cells te=es) (hpos:Nat.blt 0 es=true) (hz:Nat.beq (tiGet Γ.τ te).zero.length (Γ.cells te)=true) (hzo:zeroOk (tiGet Γ.τ te).zero=true)
  (hx:opSV L x = .sl i off n cap) (hH:Hp.get H i=some (.blk te cs)) (hfit:off + cap≤cs.length) (hy:opSV L y = .sl j 0 1 1) (hHj:Hp.get H j=some (.blk te2 [sv])) (he1:es=1) (hw:wantedSV ops L g=some true) (hd:Nat.blt d Γ.n=true)
  (hroom:(n + 1) * (tiGet Γ.τ te).bytes≤140737488355328) (h63:n + 1≤maxLen)
  (hk1:n + 1≤cap→DS false Γ ops rest K k ((d,.sl i off (n + 1) cap)::L) (Hp.set H i (.blk te (splice cs (off + n) [sv]))))
  (hk2:∀ cap',cap < n + 1→n + 1≤cap'→cap'≤maxLen→DS false Γ ops rest K (k + 1) ((d,.sl k 0 (n + 1) cap')::L) ((k,.blk te ((cs.drop off).take n++[sv]++List.replicate (cap' - (n + 1)) .junk))::H)) :
  DS false Γ ops (⟨some d,.call { callee:=.builtin .append,args:=#[x,y],argTypes:=#[t,t] },t2,pos,af,g⟩::rest) K k L H:=by
 have hfit:off + cap * es≤cs.length:=by rw [he1,Nat.mul_one];exact hfit
 refine dl_run hw fun e a w m=>?_
 obtain⟨inf,zv,hi,hzz,hs,hb,hzc⟩:=Ctx.info (Sh.known_ne hkn)
 have hut:=Ctx.slice ht
 obtain⟨hdom,hnc,hcm,o',hvx,ho'⟩:=evT m hx (cSV_sl · _ _ _ _)
 obtain⟨_,_,_,oy,hvy,hoy⟩:=evT m hy (cSV_sl · _ _ _ _)
 have hoy0:=hoy (by omega)
 subst hoy0
 obtain⟨us,hhj,hjs,honej⟩:=(m.heap _ (Hp.mem_of hHj)).2
 have hul1:=RelL.length _ _ hjs
 obtain⟨vs,hh,hcs,hone⟩:=(m.heap _ (Hp.mem_of hH)).2
 have hvl:=RelL.length _ _ hcs
 have hsz:inf.size=es:=by rw [hs,hes]
 have hpos':=Nat.le_of_ble_eq_true hpos
 have u1:us.length=1 * es:=by rw [← hul1,he1];rfl
 have u2:∀ q u,us[q]? = some u→w.cell? ((⟨e.β j,0,none⟩:Addr).add q)=some u:=by
  intro q u hq
  rw [Addr.add_at,cell_of_row w _ _ _ te2 (0,0) hhj]
  simpa using hq
 have u3:=honej
 have hul:[sv].length=us.length:=hul1
 have huflat:RelL (Γ.X e H) e w [sv] us:=hjs
 by_cases hcap:n + 1≤cap
 ·have hoo:o' = off:=ho' (by omega)
  subst hoo
  have hfit2:o' + n * inf.size + us.length≤vs.toArray.size:=by
   rw [u1,hsz,List.size_toArray,← hvl,Nat.add_assoc,← Nat.add_mul]
   exact Nat.le_trans (Nat.add_le_add_left (Nat.mul_le_mul_right _ hcap) _) hfit
  have hrun:=run_append_room_at (P:=Γ.P) w t t2 te inf hut hi (e.β i) o' n cap te vs.toArray hh ⟨e.β j,0,none⟩ 1 1 us (by rw [hsz];exact u1) u2 u3 hcap hfit2
  have hop:(execOp a.eval ⟨some d,.call { callee:=.builtin .append,args:=#[x,y],argTypes:=#[t,t] },t2,pos,af,g⟩).run Γ.P w = .ok (.value (.slice (some ⟨e.β i,o',none⟩) (n + 1) cap)) (w.setRow (e.β i) (vs.toArray.toList.take (o' + n * inf.size)++us++vs.toArray.toList.drop (o' + n * inf.size + us.length)).toArray):=by
   simp only [execOp,resolve,invoke,builtin,Sem.run_bind,Sem.run_pure,Result.andThen_ok,List.map_toArray,List.map_cons,List.map_nil,hvx,hvy,hrun]
  unfold Oper.wp
  rw [hop]
  have m2:Models Γ (lo k) L (Hp.set H i (.blk te (splice cs (o' + n * es) ([sv])))) e a (w.setRow (e.β i) (vs.toArray.toList.take (o' + n * inf.size)++us++vs.toArray.toList.drop (o' + n * inf.size + us.length)).toArray):=by
   refine m.turn (b':=.blk te (splice cs (o' + n * es) ([sv]))) hH ?_ rfl rfl rfl (fun _=>Nat.le_refl _) (fun c _ hc=>setRow_other w _ c _ (fun h=>hc (by simp [HB.owned,h]))) rfl ?_
   ·simp [World.setRow]
   ·refine⟨_,setRow_heap w (e.β i) vs.toArray _ te (0,0) hh,?_,fun v hv=>?_⟩
    ·have hkeep:∀ b,b < w.heap.size→¬ Γ.X e H b→(w.setRow (e.β i) (vs.toArray.toList.take (o' + n * inf.size)++us++vs.toArray.toList.drop (o' + n * inf.size + us.length)).toArray).heap[b]? = w.heap[b]?:=fun b _ hb=>setRow_other w _ b _ (fun h=>hb (.inr (List.mem_filterMap.2 ⟨_,Hp.mem_of hH,by simp [HB.owned,h]⟩)))
     refine RelL.keep (by simp [World.setRow]) hkeep (fun _ _ h=>h) _ _ ?_
     unfold splice
     rw [hsz,hul]
     exact RelL.append _ _ _ _ (RelL.append _ _ _ _ (RelL.take _ _ hcs _) huflat) (RelL.drop _ _ hcs _)
    ·simp only [List.mem_append] at hv
     rcases hv with (hv|hv)|hv
     ·exact hone v (List.mem_of_mem_take hv)
     ·exact u3 v hv
     ·exact hone v (List.mem_of_mem_drop hv)
  exact⟨_,_,_,_,m2.put (s:=.sl i o' (n + 1) cap) (Nat.le_of_ble_eq_true hd) ⟨hdom,hcap,hcm,o',rfl,fun _=>rfl⟩,by rw [he1,Nat.mul_one];exact hk1 hcap⟩
 ·have hlt:cap < n + 1:=by omega
  have hol:((vs.drop off).take (n * es)).length=n * inf.size:=by
   rw [List.length_take,List.length_drop,← hvl,hsz]
   have:n * es≤cap * es:=Nat.mul_le_mul_right _ hnc
   omega
  have holds:∀ j v,((vs.drop off).take (n * es))[j]? = some v→w.cell? ((⟨e.β i,o',none⟩:Addr).add j)=some v:=by
   intro j v hj
   have hjl:j < n * es:=by
    rw [List.getElem?_take] at hj
    split at hj
    ·assumption
    ·cases hj
   have hn0:0 < cap:=by
    rcases Nat.eq_zero_or_pos n with h|h
    ·rw [h,Nat.zero_mul] at hjl;omega
    ·omega
   have hoo:=ho' hn0
   subst hoo
   rw [List.getElem?_take,if_pos hjl,List.getElem?_drop] at hj
   rw [Addr.add_at,cell_of_row w _ _ _ te (0,0) hh]
   simpa using hj
  have h63':((n + 1:Nat):Int)≤9223372036854775807:=by unfold maxLen at h63;omega
  have hrun:=run_append_grow (P:=Γ.P) w t t2 te inf zv hut hi hzz ⟨e.β i,o',none⟩ n cap ((vs.drop off).take (n * es)) hol holds ⟨e.β j,0,none⟩ 1 1 us (by rw [hsz];exact u1) u2 hlt h63' (growslice_fits hlt (by rw [hb];exact hroom))
  have hge:=grownCap_ge w (n + 1) cap te
  have hcm':grownCap w (n + 1) cap te≤maxLen:=grownCap_le_maxLen w (n + 1) cap te h63
  generalize grownCap w (n + 1) cap te=c' at hrun hge hcm'
  have hop:(execOp a.eval ⟨some d,.call { callee:=.builtin .append,args:=#[x,y],argTypes:=#[t,t] },t2,pos,af,g⟩).run Γ.P w = .ok (.value (.slice (some ⟨w.heap.size,0,none⟩) (n + 1) c'))
    (w.drew.alloc (.cells (((vs.drop off).take (n * es)).toArray++us.toArray++Builtin.zeroCells zv.cells (c' - (n + 1))) te)):=by
   simp only [execOp,resolve,invoke,builtin,Sem.run_bind,Sem.run_pure,Result.andThen_ok,List.map_toArray,List.map_cons,List.map_nil,hvx,hvy,hrun]
  unfold Oper.wp
  rw [hop]
  have m1:Models Γ (lo k) L H e a w.drew:=m.below ((Beld.refl _ _ _).drew)
  have hzsz:zv.cells.size=es:=by rw [← Array.length_toList,hzc,Nat.eq_of_beq_eq_true hz,hes]
  have m2:=(m1.alloc (lo_not k) (cs:=(cs.drop off).take (n * es)++[sv]++List.replicate ((c' - (n + 1)) * es) .junk)
   (vs:=(vs.drop off).take (n * es)++us++(Builtin.zeroCells zv.cells (c' - (n + 1))).toList) te
   (RelL.append _ _ _ _ (RelL.append _ _ _ _ (RelL.take _ _ (RelL.drop _ _ (RelL.keep (w:=w) (w':=w.drew) (Nat.le_refl _) (fun _ _ _=>rfl) (fun _ _ h=>h) _ _ hcs) _) _) (RelL.keep (w:=w) (w':=w.drew) (Nat.le_refl _) (fun _ _ _=>rfl) (fun _ _ h=>h) _ _ huflat)) (junk_rel _ _ (by rw [Array.length_toList,size_zeroCells,hzsz])))
   (fun v hv=>by
    simp only [List.mem_append] at hv
    rcases hv with (hv|hv)|hv
    ·exact hone v (List.mem_of_mem_drop (List.mem_of_mem_take hv))
    ·exact u3 v hv
    ·have:=zeroCells_mem hv
     rw [hzc] at this
     exact (zeroOk_spec (X:=Γ.X e H) (e:=e) (w:=w) _ hzo).2 v this)).cast (with1_lo k)
  have harr:((vs.drop off).take (n * es)++us++(Builtin.zeroCells zv.cells (c' - (n + 1))).toList).toArray=((vs.drop off).take (n * es)).toArray++us.toArray++Builtin.zeroCells zv.cells (c' - (n + 1)):=by simp
  rw [harr] at m2
  refine⟨_,_,_,_,m2.put (s:=.sl k 0 (n + 1) c') (Nat.le_of_ble_eq_true hd) ⟨.inr rfl,hge,hcm',0,?_,fun _=>rfl⟩,by rw [he1,Nat.mul_one,Nat.mul_one];exact hk2 c' hlt hge hcm'⟩
  show _=Value.slice (some ⟨(e.bind k w.heap.size).β k,0,none⟩) (n + 1) c'
  rw [show (e.bind k w.heap.size).β k=w.heap.size from if_pos rfl]
theorem ds_append_ptr0 {d te t2 es j te2:Nat} {sv:SV} {pos:String} {af:Array Edge} {g:Option (Nat × Bool)}
  (ht:Γ.sh t = .slice te) (hkn:(Γ.sh te).known=true) (hes:Γ.cells te=es) (hpos:Nat.blt 0 es=true) (hz:Nat.beq (tiGet Γ.τ te).zero.length (Γ.cells te)=true) (hzo:zeroOk (tiGet Γ.τ te).zero=true)
  (hx:opSV L x = .nils) (hy:opSV L y = .sl j 0 1 1) (hHj:Hp.get H j=some (.blk te2 [sv])) (he1:es=1) (hw:wantedSV ops L g=some true) (hd:Nat.blt d Γ.n=true)
  (hroom:(tiGet Γ.τ te).bytes≤140737488355328)
  (hk2:∀ cap',1≤cap'→cap'≤maxLen→DS false Γ ops rest K (k + 1) ((d,.sl k 0 1 cap')::L) ((k,.blk te ([sv]++List.replicate (cap' - 1) .junk))::H)) :
  DS false Γ ops (⟨some d,.call { callee:=.builtin .append,args:=#[x,y],argTypes:=#[t,t] },t2,pos,af,g⟩::rest) K k L H:=by
 refine dl_run hw fun e a w m=>?_
 obtain⟨inf,zv,hi,hzz,hs,hb,hzc⟩:=Ctx.info (Sh.known_ne hkn)
 have hut:=Ctx.slice ht
 have hvx:=evNils m hx
 obtain⟨_,_,_,oy,hvy,hoy⟩:=evT m hy (cSV_sl · _ _ _ _)
 have hoy0:=hoy (by omega)
 subst hoy0
 obtain⟨us,hhj,hjs,honej⟩:=(m.heap _ (Hp.mem_of hHj)).2
 have hul1:=RelL.length _ _ hjs
 have hsz:inf.size=es:=by rw [hs,hes]
 have hpos':=Nat.le_of_ble_eq_true hpos
 have u1:us.length=1 * es:=by rw [← hul1,he1];rfl
 have u2:∀ q u,us[q]? = some u→w.cell? ((⟨e.β j,0,none⟩:Addr).add q)=some u:=by
  intro q u hq
  rw [Addr.add_at,cell_of_row w _ _ _ te2 (0,0) hhj]
  simpa using hq
 have u3:=honej
 have hul:[sv].length=us.length:=hul1
 have huflat:RelL (Γ.X e H) e w [sv] us:=hjs
 have hrun:=run_append_nil (P:=Γ.P) (w:=w) t t2 te inf zv hut hi hzz ⟨e.β j,0,none⟩ 1 1 us (by rw [hsz];exact u1) u2 (by omega) (by omega) (by rw [hb];omega)
 have hge:=grownCap_ge w 1 0 te
 have hcm':grownCap w 1 0 te≤maxLen:=grownCap_le_maxLen w 1 0 te (by unfold maxLen;omega)
 generalize grownCap w 1 0 te=c' at hrun hge hcm'
 have hop:(execOp a.eval ⟨some d,.call { callee:=.builtin .append,args:=#[x,y],argTypes:=#[t,t] },t2,pos,af,g⟩).run Γ.P w = .ok (.value (.slice (some ⟨w.heap.size,0,none⟩) 1 c'))
   (w.drew.alloc (.cells (us.toArray++Builtin.zeroCells zv.cells (c' - 1)) te)):=by
  simp only [execOp,resolve,invoke,builtin,Sem.run_bind,Sem.run_pure,Result.andThen_ok,List.map_toArray,List.map_cons,List.map_nil,hvx,hvy,hrun]
 unfold Oper.wp
 rw [hop]
 have m1:Models Γ (lo k) L H e a w.drew:=m.below ((Beld.refl _ _ _).drew)
 have hzsz:zv.cells.size=es:=by rw [← Array.length_toList,hzc,Nat.eq_of_beq_eq_true hz,hes]
 have m2:=(m1.alloc (lo_not k) (cs:=[sv]++List.replicate ((c' - 1) * es) .junk)
  (vs:=us++(Builtin.zeroCells zv.cells (c' - 1)).toList) te
  (RelL.append _ _ _ _ (RelL.keep (w:=w) (w':=w.drew) (Nat.le_refl _) (fun _ _ _=>rfl) (fun _ _ h=>h) _ _ huflat) (junk_rel _ _ (by rw [Array.length_toList,size_zeroCells,hzsz])))
  (fun v hv=>by
   simp only [List.mem_append] at hv
   rcases hv with hv|hv
   ·exact u3 v hv
   ·have:=zeroCells_mem hv
    rw [hzc] at this
    exact (zeroOk_spec (X:=Γ.X e H) (e:=e) (w:=w) _ hzo).2 v this)).cast (with1_lo k)
 have harr:(us++(Builtin.zeroCells zv.cells (c' - 1)).toList).toArray=us.toArray++Builtin.zeroCells zv.cells (c' - 1):=by simp
 rw [harr] at m2
 refine⟨_,_,_,_,m2.put (s:=.sl k 0 1 c') (Nat.le_of_ble_eq_true hd) ⟨.inr rfl,hge,hcm',0,?_,fun _=>rfl⟩,by rw [he1,Nat.mul_one];exact hk2 c' hge hcm'⟩
 show _=Value.slice (some ⟨(e.bind k w.heap.size).β k,0,none⟩) 1 c'
 rw [show (e.bind k w.heap.size).β k=w.heap.size from if_pos rfl]
end
end Go.Proofs.YtapciiffpnociacGreat

/- Groups of a fold as the program holds them: pointers. The program's Made$1 and slices.IndexFunc over groups. Condition: none. -/
namespace Go.Proofs.YtapciiffpnociacGreat
open Go Go.RowKit
def encG (g:Gr):List D:=[.ptr [.slice 1 (g.1.map encI),.slice 1 (g.2.map encI)]]
def elG (g:Gr):SV:=.d (.ptr [.slice 1 (g.1.map encI),.slice 1 (g.2.map encI)])
theorem ptr_pd {X e w} {ds:List D} {v:Value} (h:RepC X w v (.ptr ds)):Rel X e w (.pd ds) v:=by
 cases h with
 | ptr c hX hb hcell hrep=>exact⟨_,_,rfl,hb,hX,fun j hj=>⟨c j,hcell j hj,hrep j hj⟩⟩
theorem ent_pd {Γ:Ctx} {k:Nat} {L:Sl} {H:Hp} (t:Nat) {ds:List D} (hL:L.get t = .d (.ptr ds)):Ent Γ k L H k ((t,.pd ds)::L) H:=by
 intro e a w m
 refine⟨e,⟨m.toHeap,m.defers,m.len,fun t'=>?_⟩⟩
 rw [Sl.get_cons]
 split
 ·rename_i ht
  subst ht
  have hs:=m.slot t
  rw [hL] at hs
  exact ptr_pd hs
 ·exact m.slot t'
attribute [local irreducible] DW DS DL DQ Ev FnOk FnP thenD inBlockD DT
set_option maxHeartbeats 8000000 in
theorem made1_fn (a:List Int) (last:Nat) (ha:last≤a.length) (g:Gr):Fn 95 ([elG g]++[.pd [.slice 1 (a.map encI)],.pd [.int .i64 last]]) (fun r=>r = .d (.bool (decide (g.1=a.take last)))):=by
 refine fnp_enter' _ Tryz.func95 rfl rfl (by kernel_rfl) ?_
 intro O w0 E0 β0
 have la:(a.map encI).length=a.length:=List.length_map _
 have w1:=equalI_fn g.1 (a.take last)
 refine dw_ent (ent_pd 0 rfl) ?_
 repeat' (first|refine z0 ?_|apply ds_nil|refine z5 ?_|refine z10 ?_|apply dw_seq2|refine z16 ?_|refine z20 ?_|apply dw_ret|apply thenD_n|refine z22 ?_ (hc:=by apply w1)|fail)
 exact ret_b rfl rfl
set_option maxHeartbeats 8000000 in
theorem indexG_fn {f:FuncId} {caps:List SV} (p:Gr→Bool) (l:List (Gr)) (hcap:SV.lowL 0 caps=true) (hp:∀ x∈l,Fn f (elG x::caps) (fun r=>r = .d (.bool (p x)))):Fn 94 [.d (.slice 1 (l.map encG)),.fn f caps] (fun r=>r = .d (.int .i64 (idxF p l))):=by
 refine fnp_enter' _ Tryz.func94 rfl rfl (by kernel_rfl) ?_
 intro O w0 E0 β0
 refine dw_len_map (t:=0) rfl fun hb=>?_
 repeat' (first|refine z0 ?_|apply ds_nil|apply dw_seq2|refine z16 ?_|apply dw_block|apply thenD_n)
 refine ds_loop (ι:=Nat) (fun i=>⟨0,[(0,.d (.slice 1 (l.map encG))),(1,.fn f caps),(7,.d (.int .i64 l.length)),(8,.d (.int .i64 i))],[]⟩)
  (fun i=>i≤l.length∧∀ j (hj:j < l.length),j < i→p l[j]=false) (fun i=>l.length - i) 0 ⟨Nat.zero_le _,fun j _ h=>absurd h (Nat.not_lt_zero j)⟩
  (ent_ren id ⟨rfl,congrArg (SV.fn f) (SV.renL_id caps).symm,by simp;rfl,rfl,trivial⟩ trivial (by simp [Sl.low,SV.low,hcap]) rfl rfl rfl rfl rfl) ?_
 rintro i ⟨h1,h2⟩
 repeat' (first|refine z0 ?_|apply ds_nil|apply dw_seq2|refine z16 ?_|apply thenD_n)
 refine dw_condP rfl (fun h=>?_) (fun h=>?_)
 ·have hi:i < l.length:=by omega
  have hpx:=hp l[i] (List.getElem_mem hi)
  repeat' (first|refine z0 ?_|apply ds_nil|apply dw_seq2|refine z16 ?_|apply dw_block|apply dw_skip|apply thenD_n|(apply ds_callV;exact rfl;exact rfl;exact rfl;exact rfl;apply hpx;exact rfl;(assumption);exact rfl;rintro _ rfl))
  refine dw_cond rfl (fun hb=>?_) (fun hb=>?_)
  ·repeat' (first|refine z0 ?_|apply ds_nil|apply dw_seq2|refine z16 ?_|apply dw_ret|apply thenD_n|apply thenD_r|apply inB_r)
   exact ret_i rfl (idxF_hit h2 hi hb).symm
  ·repeat' (first|refine z0 ?_|apply ds_nil|refine z16 ?_|apply dw_skip|apply thenD_n|apply inB_n)
   exact⟨i + 1,⟨hi,none_step h2 hi hb⟩,ent_ren id ⟨rfl,congrArg (SV.fn f) (SV.renL_id caps).symm,rfl,rfl,trivial⟩ trivial (by simp [Sl.low,SV.low,hcap]) rfl rfl rfl rfl rfl,by omega⟩
 ·repeat' (first|refine z0 ?_|apply ds_nil|apply dw_seq2|refine z16 ?_|apply dw_exit|apply dw_ret|apply thenD_n|apply thenD_e|refine z17 ?_|fail)
  exact ret_i rfl (idxF_none fun j hj=>h2 j hj (by omega)).symm
end Go.Proofs.YtapciiffpnociacGreat
