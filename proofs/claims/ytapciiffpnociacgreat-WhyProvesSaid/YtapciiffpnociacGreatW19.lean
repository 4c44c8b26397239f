/- Several texts in one: StrL StrM MoR StrC StrD StrE StrF StrR StrI MoS. Condition: none. -/
import Derived.Test.YtapciiffpnociacGreatW18
import Derived.Test.YtapciiffpnociacGreatW08
import Derived.Test.YtapciiffpnociacGreatW10
import Derived.Test.YtapciiffpnociacGreatW13
import Derived.Test.YtapciiffpnociacGreatW11
import Derived.Test.YtapciiffpnociacGreatW17
namespace Go.Proofs.YtapciiffpnociacGreat
structure Edg where
 p:Nat
 q:Nat
 s:Int
def liftE (lv:List Int) (e:Edg):List Int:=if lv.getD e.p 0 < lv.getD e.q 0 + e.s then lv.set e.p (lv.getD e.q 0 + e.s) else lv
def roundE (E:List Edg) (lv:List Int):List Int:=E.foldl liftE lv
def itE (E:List Edg) (lv:List Int):Nat→List Int
 | 0=>lv
 | k + 1=>roundE E (itE E lv k)
def edgOk (n:Nat) (E:List Edg):Prop:=∀ e∈E,e.p < n∧e.q < n∧0≤e.s∧e.s≤1
def FitE (n:Nat) (E:List Edg) (F:List Int):Prop:=F.length=n∧(∀ i,0≤F.getD i 0)∧∀ e∈E,F.getD e.q 0 + e.s≤F.getD e.p 0
theorem liftE_len (lv:List Int) (e:Edg):(liftE lv e).length=lv.length:=by unfold liftE;split <;> simp
theorem roundE_len:∀ (E:List Edg) (lv:List Int),(roundE E lv).length=lv.length
 | [],_=>rfl
 | e::E,lv=>(roundE_len E (liftE lv e)).trans (liftE_len lv e)
theorem itE_len (E:List Edg) (lv:List Int):∀ k,(itE E lv k).length=lv.length
 | 0=>rfl
 | k + 1=>(roundE_len E _).trans (itE_len E lv k)
theorem set_getD (lv:List Int) (i:Nat) (v:Int) (hi:i < lv.length) (j:Nat):(lv.set i v).getD j 0=if i=j then v else lv.getD j 0:=by
 simp only [List.getD,List.getElem?_set]
 split
 ·rename_i h;subst h;first|rfl|(rw [if_pos hi];rfl)
 ·rfl
theorem liftE_le {n:Nat} {lv:List Int} {e:Edg} (hl:lv.length=n) (he:e.p < n) (i:Nat):lv.getD i 0≤(liftE lv e).getD i 0:=by
 unfold liftE
 split
 ·rw [set_getD _ _ _ (by omega)]
  split
  ·rename_i h;subst h;omega
  ·exact Int.le_refl _
 ·exact Int.le_refl _
theorem liftE_edge {n:Nat} {lv:List Int} {e:Edg} (hl:lv.length=n) (he:e.p < n):lv.getD e.q 0 + e.s≤(liftE lv e).getD e.p 0:=by
 unfold liftE
 split
 ·rw [set_getD _ _ _ (by omega),if_pos rfl];omega
 ·omega
theorem roundE_le {n:Nat}:∀ {E:List Edg} {lv:List Int},lv.length=n→edgOk n E→∀ i,lv.getD i 0≤(roundE E lv).getD i 0
 | [],_,_,_,_=>Int.le_refl _
 | e::_,lv,hl,hE,i=>Int.le_trans (liftE_le hl (hE e (List.mem_cons_self ..)).1 i) (roundE_le ((liftE_len lv e).trans hl) (fun x hx=>hE x (List.mem_cons_of_mem _ hx)) i)
theorem roundE_edge {n:Nat}:∀ {E:List Edg} {lv:List Int},lv.length=n→edgOk n E→∀ e∈E,lv.getD e.q 0 + e.s≤(roundE E lv).getD e.p 0
 | [],_,_,_,_,h=>nomatch h
 | x::E,lv,hl,hE,e,he=>by
  have hx:=hE x (List.mem_cons_self ..)
  have hE':edgOk n E:=fun y hy=>hE y (List.mem_cons_of_mem _ hy)
  have hl':=(liftE_len lv x).trans hl
  rcases List.mem_cons.1 he with rfl|he
  ·exact Int.le_trans (liftE_edge hl hx.1) (roundE_le hl' hE' _)
  ·have h1:=roundE_edge hl' hE' e he
   have h2:=liftE_le (e:=x) hl hx.1 e.q
   show _≤(roundE E (liftE lv x)).getD e.p 0
   omega
theorem liftE_below {n:Nat} {E:List Edg} {F lv:List Int} {e:Edg} (hl:lv.length=n) (hF:FitE n E F) (he:e∈E) (hp:e.p < n) (h:∀ i,lv.getD i 0≤F.getD i 0) (i:Nat):(liftE lv e).getD i 0≤F.getD i 0:=by
 unfold liftE
 split
 ·rw [set_getD _ _ _ (by omega)]
  split
  ·rename_i h1;subst h1
   have:=hF.2.2 e he
   have:=h e.q
   omega
  ·exact h i
 ·exact h i
theorem roundE_below' {n:Nat} {E:List Edg} {F:List Int} (hF:FitE n E F) (hE:edgOk n E):∀ (E2:List Edg) (lv:List Int),(∀ e∈E2,e∈E)→lv.length=n→(∀ i,lv.getD i 0≤F.getD i 0)→∀ i,(roundE E2 lv).getD i 0≤F.getD i 0
 | [],_,_,_,h,i=>h i
 | e::E2,lv,hs,hl,h,i=>roundE_below' hF hE E2 (liftE lv e) (fun x hx=>hs x (List.mem_cons_of_mem _ hx)) ((liftE_len lv e).trans hl)
   (fun i=>liftE_below hl hF (hs e (List.mem_cons_self ..)) (hE e (hs e (List.mem_cons_self ..))).1 h i) i
theorem roundE_below {n:Nat} {E:List Edg} {F lv:List Int} (hF:FitE n E F) (hE:edgOk n E) (hl:lv.length=n) (h:∀ i,lv.getD i 0≤F.getD i 0) (i:Nat):(roundE E lv).getD i 0≤F.getD i 0:=roundE_below' hF hE E lv (fun _ h=>h) hl h i
theorem ext_getD {a b:List Int} (hl:a.length=b.length) (h:∀ i,a.getD i 0=b.getD i 0):a=b:=by
 apply List.ext_getElem hl
 intro i h1 h2
 have:=h i
 rwa [List.getD,List.getD,List.getElem?_eq_getElem h1,List.getElem?_eq_getElem h2] at this
theorem rest_edge {n:Nat} {E:List Edg} {lv:List Int} (hl:lv.length=n) (hE:edgOk n E) (hr:roundE E lv=lv):∀ e∈E,lv.getD e.q 0 + e.s≤lv.getD e.p 0:=by
 intro e he
 have:=roundE_edge hl hE e he
 rwa [hr] at this
theorem edge_rest:∀ {E:List Edg} {lv:List Int},(∀ e∈E,lv.getD e.q 0 + e.s≤lv.getD e.p 0)→roundE E lv=lv
 | [],_,_=>rfl
 | e::E,lv,h=>by
  have h1:liftE lv e=lv:=by
   unfold liftE
   rw [if_neg]
   have:=h e (List.mem_cons_self ..)
   omega
  show roundE E (liftE lv e)=lv
  rw [h1]
  exact edge_rest fun x hx=>h x (List.mem_cons_of_mem _ hx)
section
variable {n : Nat} {E : List Edg} (hE : edgOk n E)
abbrev L0 (E:List Edg) (n k:Nat):List Int:=itE E (zeros n) k
theorem L0_len (k:Nat):(L0 E n k).length=n:=by rw [itE_len];simp [zeros]
include hE
theorem L0_up (k i:Nat):(L0 E n k).getD i 0≤(L0 E n (k + 1)).getD i 0:=roundE_le (L0_len k) hE i
omit hE in
theorem zeros_getD (n i:Nat):(zeros n).getD i 0=0:=by
 unfold zeros
 rw [List.getD,List.getElem?_replicate]
 split <;> rfl
theorem L0_pos:∀ (k i:Nat),0≤(L0 E n k).getD i 0
 | 0,i=>by show 0≤(zeros n).getD i 0;rw [zeros_getD n];exact Int.le_refl _
 | k + 1,i=>Int.le_trans (L0_pos k i) (L0_up hE k i)
theorem L0_below {F:List Int} (hF:FitE n E F):∀ (k i:Nat),(L0 E n k).getD i 0≤F.getD i 0
 | 0,i=>by show (zeros n).getD i 0≤_;rw [zeros_getD n];exact hF.2.1 i
 | k + 1,i=>roundE_below hF hE (L0_len k) (L0_below hF k) i
theorem fit_of_rest {k:Nat} (h:L0 E n (k + 1)=L0 E n k):FitE n E (L0 E n k):=⟨L0_len k,L0_pos hE k,rest_edge (L0_len k) hE h⟩
def sett (n:Nat) (a b:List Int):Nat:=((List.range n).filter fun i=>decide (a.getD i 0=b.getD i 0)).length
omit hE in
theorem filter_len_lt {α:Type} (f g:α→Bool):∀ (l:List α),(∀ x∈l,f x=true→g x=true)→(∃ x∈l,f x=false∧g x=true)→(l.filter f).length < (l.filter g).length
 | [],_,⟨_,h,_⟩=>nomatch h
 | y::l,hs,⟨x,hx,h1,h2⟩=>by
  have hle:(l.filter f).length≤(l.filter g).length:=by
   clear hx
   have hs':∀ x∈l,f x=true→g x=true:=fun x hx=>hs x (List.mem_cons_of_mem _ hx)
   clear hs
   induction l with
   | nil=>simp
   | cons z l ih =>
    have ih:=ih fun x hx=>hs' x (List.mem_cons_of_mem _ hx)
    have hz:=hs' z (List.mem_cons_self ..)
    simp only [List.filter_cons]
    cases hf:f z <;> cases hg:g z <;> simp_all <;> omega
  rcases List.mem_cons.1 hx with rfl|hx
  ·simp only [List.filter_cons,h1,h2,if_true,List.length_cons,Bool.false_eq_true,if_false];omega
  ·have ih:=filter_len_lt f g l (fun x hx=>hs x (List.mem_cons_of_mem _ hx)) ⟨x,hx,h1,h2⟩
   have hy:=hs y (List.mem_cons_self ..)
   simp only [List.filter_cons]
   cases hf:f y <;> cases hg:g y <;> simp_all <;> omega
omit hE in
theorem range_map_getD (n:Nat) (f:Nat→Int) (i:Nat):((List.range n).map f).getD i 0=if i < n then f i else 0:=by
 rw [List.getD,List.getElem?_map]
 split
 ·rename_i h;rw [List.getElem?_range h];rfl
 ·rename_i h;rw [List.getElem?_eq_none (by simp;omega)];rfl
theorem settle {S:List Int} (hS:FitE n E S) (hleast:∀ F,FitE n E F→∀ i,S.getD i 0≤F.getD i 0) {k:Nat} (hne:L0 E n k≠S):sett n (L0 E n k) S < sett n (L0 E n (k + 1)) S:=by
 have hb:=L0_below hE hS
 refine filter_len_lt _ _ _ (fun i hi h=>?_) ?_
 ·have h1:=of_decide_eq_true h
  have h2:=L0_up hE k i
  have h3:=hb (k + 1) i
  exact decide_eq_true (by omega)
 ·apply Classical.byContradiction
  intro hno
  have hno:∀ i,i < n→(L0 E n (k + 1)).getD i 0=S.getD i 0→(L0 E n k).getD i 0=S.getD i 0:=by
   intro i hi h1
   apply Classical.byContradiction
   intro h2
   exact hno ⟨i,List.mem_range.2 hi,decide_eq_false h2,decide_eq_true h1⟩
  let M:List Int:=(List.range n).map fun i=>if (L0 E n k).getD i 0=S.getD i 0 then S.getD i 0 else S.getD i 0 - 1
  have hM:∀ i,i < n→M.getD i 0=if (L0 E n k).getD i 0=S.getD i 0 then S.getD i 0 else S.getD i 0 - 1:=fun i hi=>by rw [range_map_getD,if_pos hi]
  have hfit:FitE n E M:=by
   refine⟨by simp [M],fun i=>?_,fun e he=>?_⟩
   ·rw [range_map_getD]
    split
    ·have h1:=hb k i
     have h2:=L0_pos hE k i
     split <;> omega
    ·exact Int.le_refl _
   ·obtain⟨hp,hq,hs0,hs1⟩:=hE e he
    have h1:=hS.2.2 e he
    rw [hM _ hp,hM _ hq]
    by_cases hps:(L0 E n k).getD e.p 0=S.getD e.p 0
    ·rw [if_pos hps]
     split <;> omega
    ·rw [if_neg hps]
     split
     ·rename_i hqs
      have h2:=roundE_edge (L0_len (E:=E) k) hE e he
      have h3:=hb (k + 1) e.p
      have h4:¬ (L0 E n (k + 1)).getD e.p 0=S.getD e.p 0:=fun h=>hps (hno e.p hp h)
      have h5:(L0 E n k).getD e.q 0 + e.s≤(L0 E n (k + 1)).getD e.p 0:=h2
      omega
     ·omega
  apply hne
  refine ext_getD (by rw [L0_len,hS.1]) fun i=>?_
  rcases Nat.lt_or_ge i n with hi|hi
  ·have h1:=hleast M hfit i
   rw [hM i hi] at h1
   split at h1
   ·assumption
   ·omega
  ·rw [List.getD,List.getD,List.getElem?_eq_none (by rw [L0_len];exact hi),List.getElem?_eq_none (by rw [hS.1];exact hi)]
omit hE in
theorem sett_le (a b:List Int):sett n a b≤n:=by
 have:=List.length_filter_le (fun i=>decide (a.getD i 0=b.getD i 0)) (List.range n)
 rw [List.length_range] at this
 exact this
theorem settled {S:List Int} (hS:FitE n E S) (hleast:∀ F,FitE n E F→∀ i,S.getD i 0≤F.getD i 0):L0 E n n=S:=by
 have key:∀ k,L0 E n k=S∨k≤sett n (L0 E n k) S:=by
  intro k
  induction k with
  | zero=>exact .inr (Nat.zero_le _)
  | succ k ih =>
   by_cases h:L0 E n k=S
   ·left
    show roundE E (itE E (zeros n) k)=S
    rw [show itE E (zeros n) k=S from h]
    exact edge_rest hS.2.2
   ·right
    have h1:=settle hE hS hleast h
    rcases ih with h2|h2
    ·exact absurd h2 h
    ·omega
 rcases key n with h|h
 ·exact h
 ·apply Classical.byContradiction
  intro hne
  have h1:=settle hE hS hleast hne
  have h2:=sett_le (n:=n) (L0 E n (n + 1)) S
  omega
omit hE in
theorem pigeon:∀ (m:Nat) (l:List Int),(∀ v:Nat,1≤v→v≤m→(v:Int)∈l)→m≤l.length
 | 0,_,_=>Nat.zero_le _
 | m + 1,l,h=>by
  have h1:=h (m + 1) (by omega) (Nat.le_refl _)
  have h2:=pigeon m (l.erase ((m + 1:Nat):Int)) fun v hv1 hv2=>(List.mem_erase_of_ne (by omega)).2 (h v hv1 (by omega))
  rw [List.length_erase_of_mem h1] at h2
  have:=List.length_pos_of_mem h1
  omega
theorem least_bound (hF:FitE n E (L0 E n n)) (i:Nat):(L0 E n n).getD i 0≤n:=by
 apply Classical.byContradiction
 intro hgt
 have hgt:(n:Int) < (L0 E n n).getD i 0:=by omega
 have hin:∀ v:Nat,1≤v→v≤n + 1→(v:Int)∈L0 E n n:=by
  intro v hv1 hv2
  apply Classical.byContradiction
  intro hnot
  have hnv:∀ j,j < n→(L0 E n n).getD j 0≠v:=by
   intro j hj h
   apply hnot
   rw [List.getD,List.getElem?_eq_getElem (by rw [L0_len];exact hj),Option.getD_some] at h
   rw [← h]
   exact List.getElem_mem _
  let M:List Int:=(List.range n).map fun j=>if (v:Int) < (L0 E n n).getD j 0 then (L0 E n n).getD j 0 - 1 else (L0 E n n).getD j 0
  have hM:∀ j,j < n→M.getD j 0=if (v:Int) < (L0 E n n).getD j 0 then (L0 E n n).getD j 0 - 1 else (L0 E n n).getD j 0:=fun j hj=>by rw [range_map_getD,if_pos hj]
  have hfit:FitE n E M:=by
   refine⟨by simp [M],fun j=>?_,fun e he=>?_⟩
   ·rw [range_map_getD]
    split
    ·have:=hF.2.1 j
     split <;> omega
    ·exact Int.le_refl _
   ·obtain⟨hp,hq,hs0,hs1⟩:=hE e he
    have h1:=hF.2.2 e he
    have h2:=hnv e.q hq
    rw [hM _ hp,hM _ hq]
    split <;> split <;> omega
  have hi:i < n:=by
   apply Classical.byContradiction
   intro h
   rw [List.getD,List.getElem?_eq_none (by rw [L0_len];omega)] at hgt
   simp at hgt
   omega
  have h3:=L0_below hE hfit n i
  have h5:=hnv i hi
  rw [hM i hi,if_pos (by omega)] at h3
  omega
 have:=pigeon (n + 1) _ hin
 rw [L0_len] at this
 omega
end
theorem firstL_z0 {α:Type} {f:α→Int}:∀ {l:List α},ce f l=0→∀ x∈l,f x=0
 | [],_,_,h=>nomatch h
 | y::l,h,x,hx=>by
  unfold ce at h
  split at h
  ·rename_i h1;exact absurd h h1
  ·rename_i h1
   rcases List.mem_cons.1 hx with rfl|hx
   ·exact Classical.byContradiction fun h2=>h1 h2
   ·exact firstL_z0 h x hx
theorem inR_tru {n a b:Int} (h:¬ inR n a b=false):a≤n∧n≤b:=by
 unfold inR at h
 simp at h
 exact h
structure LtlOk (n vars:Int) (l:Ltl):Prop where
 kind:1≤l.kind∧l.kind≤4
 pred:hangsB l=true→0≤l.pred∧l.pred < n
structure RulOk (n:Nat) (r:Rul):Prop where
 pred:0≤r.pred∧r.pred < n
 vars:0≤r.vars∧r.vars≤8
 fold:0≤r.fold∧r.fold≤4
 body:r.body.length≤4
 lits:∀ l∈r.body,LtlOk n r.vars l
structure PrgOk (p:Prg):Prop where
 preds:p.arity.length≤10
 rules:p.rules.length≤12
 names:p.names.length=p.arity.length
 each:∀ r∈p.rules,RulOk p.arity.length r
theorem litE_okM {arity:List Int} {vars:Int} {l:Ltl} (h:litE arity vars l=0):LtlOk arity.length vars l:=by
 unfold litE at h
 split at h;· cases h
 rename_i h1
 split at h;· cases h
 refine⟨inR_tru h1,fun hh=>?_⟩
 have hk:l.kind=1∨l.kind=2:=by
  unfold hangsB at hh
  simpa using hh
 rw [if_pos hk] at h
 split at h;· cases h
 rename_i h3
 have:=inR_tru h3
 omega
theorem ruleE_ok {arity:List Int} {r:Rul} (h:ruleE arity r=0):RulOk arity.length r:=by
 unfold ruleE at h
 split at h;· cases h
 rename_i h1
 split at h;· cases h
 split at h;· cases h
 rename_i h3
 split at h;· rename_i h4;exact absurd h h4
 split at h;· cases h
 rename_i h5
 split at h;· cases h
 split at h;· cases h
 rename_i h7
 split at h;· rename_i h8;exact absurd h h8
 rename_i h8
 have:=inR_tru h1
 exact⟨by omega,inR_tru h3,inR_tru h5,by omega,fun l hl=>litE_okM (firstL_z0 (Classical.byContradiction fun hn=>h8 hn) l hl)⟩
theorem progE_ok {nameB:ByteArray→Bool} {p:Prg} (h:progE nameB p=0):PrgOk p:=by
 unfold progE at h
 split at h;· cases h
 rename_i h1
 split at h;· cases h
 rename_i h2
 split at h;· rename_i h3;exact absurd h h3
 exact⟨by omega,by omega,by omega,fun r hr=>ruleE_ok (firstL_z0 h r hr)⟩
def edgR (r:Rul):List Edg:=(r.body.filter hangsB).map fun x=>⟨r.pred.toNat,x.pred.toNat,liftS r.fold x⟩
def edgP (p:Prg):List Edg:=p.rules.flatMap edgR
theorem liftS_le (f:Int) (x:Ltl):0≤liftS f x∧liftS f x≤1:=by unfold liftS;split <;> omega
theorem edgP_ok {p:Prg} (h:PrgOk p):edgOk p.arity.length (edgP p):=by
 intro e he
 unfold edgP at he
 obtain⟨r,hr,he⟩:=List.mem_flatMap.1 he
 unfold edgR at he
 obtain⟨x,hx,rfl⟩:=List.mem_map.1 he
 obtain⟨hx1,hx2⟩:=List.mem_filter.1 hx
 have h1:=(h.each r hr).pred
 have h2:=((h.each r hr).lits x hx1).pred hx2
 have h3:=liftS_le r.fold x
 dsimp only
 omega
theorem liftN_S (f:Int) (x:Ltl):liftN f x=liftS f x:=by
 unfold liftN liftS strictB
 by_cases h1:x.kind=2 <;> by_cases h2:f=0 <;> simp [h1,h2]
theorem hangs_kind {x:Ltl} (h:1≤x.kind):(2 < x.kind)↔hangsB x=false:=by
 unfold hangsB
 simp only [Bool.or_eq_false_iff,decide_eq_false_iff_not]
 omega
theorem lvLits_edg (f pr:Int):∀ (b:List Ltl) (lv:List Int),(∀ x∈b,1≤x.kind)→b.foldl (lvLit f pr) lv=roundE ((b.filter hangsB).map fun x=>⟨pr.toNat,x.pred.toNat,liftS f x⟩) lv
 | [],_,_=>rfl
 | x::b,lv,h=>by
  have hk:=h x (List.mem_cons_self ..)
  have hb:=fun y hy=>h y (List.mem_cons_of_mem _ hy)
  rw [List.foldl_cons,lvLits_edg f pr b _ hb]
  cases hx:hangsB x with
  | false =>
   rw [List.filter_cons_of_neg (by rw [hx];simp)]
   congr 1
   unfold lvLit
   rw [if_pos ((hangs_kind hk).2 hx)]
  | true =>
   rw [List.filter_cons_of_pos hx,List.map_cons]
   show _=roundE _ (liftE lv _)
   congr 1
   unfold lvLit liftE
   rw [if_neg (by rw [hangs_kind hk,hx];simp),liftN_S]
theorem roundE_app (A B:List Edg) (lv:List Int):roundE (A++B) lv=roundE B (roundE A lv):=by unfold roundE;rw [List.foldl_append]
theorem lvRound_edg:∀ (l:List Rul) (lv:List Int),(∀ r∈l,∀ x∈r.body,1≤x.kind)→lvRound l lv=roundE (l.flatMap edgR) lv
 | [],_,_=>rfl
 | r::l,lv,h=>by
  rw [List.flatMap_cons,roundE_app,← lvRound_edg l _ fun y hy=>h y (List.mem_cons_of_mem _ hy)]
  show lvRound l (lvRule lv r)=_
  congr 1
  exact lvLits_edg _ _ _ _ (h r (List.mem_cons_self ..))
theorem lvIter_edg (p:Prg) (h:PrgOk p):∀ (k j:Nat),lvIter p.rules k (L0 (edgP p) p.arity.length j)=L0 (edgP p) p.arity.length (j + k)
 | 0,_=>rfl
 | k + 1,j=>by
  rw [lvIter,lvRound_edg _ _ fun r hr x hx=>((h.each r hr).lits x hx).kind.1]
  show lvIter p.rules k (L0 (edgP p) p.arity.length (j + 1))=_
  rw [lvIter_edg p h k (j + 1)]
  congr 1
  omega
theorem rawLit_edg (f pr:Int) (x:Ltl) (lv:List Int) (ch:Bool):(rawLit f pr x lv ch).1=liftE lv ⟨pr.toNat,x.pred.toNat,liftS f x⟩:=by
 unfold rawLit liftE
 dsimp only
 split <;> rfl
theorem rawSteps (n f pr:Int):∀ (b:List Ltl) (lv:List Int) (ch:Bool) (r:List Int × Bool),b.foldl (rawStep n f pr) (some (lv,ch))=some r→r.1=roundE (b.map fun x=>⟨pr.toNat,x.pred.toNat,liftS f x⟩) lv
 | [],lv,ch,r,h=>by cases h;rfl
 | x::b,lv,ch,r,h=>by
  rw [List.foldl_cons] at h
  by_cases hx:n < lv.getD x.pred.toNat 0 + liftS f x
  ·rw [show rawStep n f pr (some (lv,ch)) x=none from if_pos hx,rawStep_none] at h
   cases h
  ·rw [show rawStep n f pr (some (lv,ch)) x=some (rawLit f pr x lv ch) from if_neg hx] at h
   have:=rawSteps n f pr b (rawLit f pr x lv ch).1 (rawLit f pr x lv ch).2 r h
   rw [this,rawLit_edg]
   rfl
theorem rawRules (n:Int):∀ (l:List Rul) (lv:List Int) (ch:Bool) (r:List Int × Bool),l.foldl (rawRule n) (some (lv,ch))=some r→r.1=roundE (l.flatMap edgR) lv
 | [],lv,ch,r,h=>by cases h;rfl
 | y::l,lv,ch,r,h=>by
  rw [List.foldl_cons] at h
  cases hs:rawRule n (some (lv,ch)) y with
  | none=>rw [hs,rawRule_none] at h;cases h
  | some q =>
   rw [hs] at h
   have h1:=rawSteps n y.fold y.pred _ lv ch q hs
   have h2:=rawRules n l q.1 q.2 r h
   rw [h2,h1,List.flatMap_cons,roundE_app]
   rfl
theorem rawLit_flag {f pr:Int} {x:Ltl} {lv:List Int} {ch:Bool} (h:(rawLit f pr x lv ch).2=false):ch=false∧(rawLit f pr x lv ch).1=lv:=by
 unfold rawLit at h ⊢
 split at h
 ·cases h
 ·rename_i hn
  rw [if_neg hn]
  exact⟨h,rfl⟩
theorem rawSteps_flag {n f pr:Int}:∀ (b:List Ltl) (lv lv':List Int) (ch:Bool),pr.toNat < lv.length→b.foldl (rawStep n f pr) (some (lv,ch))=some (lv',false)→ch=false∧lv' = lv
 | [],lv,lv',ch,_,h=>by cases h;exact⟨rfl,rfl⟩
 | x::b,lv,lv',ch,hp,h=>by
  rw [List.foldl_cons] at h
  by_cases hx:n < lv.getD x.pred.toNat 0 + liftS f x
  ·rw [show rawStep n f pr (some (lv,ch)) x=none from if_pos hx,rawStep_none] at h
   cases h
  ·rw [show rawStep n f pr (some (lv,ch)) x=some (rawLit f pr x lv ch) from if_neg hx] at h
   obtain⟨h1,h2⟩:=rawSteps_flag b (rawLit f pr x lv ch).1 lv' (rawLit f pr x lv ch).2 (by rw [rawLit_edg,liftE_len];exact hp) h
   obtain⟨h3,h4⟩:=rawLit_flag h1
   exact⟨h3,h2.trans h4⟩
theorem rawRules_flag {n:Int}:∀ (l:List Rul) (lv lv':List Int) (ch:Bool),(∀ r∈l,r.pred.toNat < lv.length)→l.foldl (rawRule n) (some (lv,ch))=some (lv',false)→ch=false∧lv' = lv
 | [],lv,lv',ch,_,h=>by cases h;exact⟨rfl,rfl⟩
 | y::l,lv,lv',ch,hp,h=>by
  rw [List.foldl_cons] at h
  cases hs:rawRule n (some (lv,ch)) y with
  | none=>rw [hs,rawRule_none] at h;cases h
  | some q =>
   obtain⟨q1,q2⟩:=q
   rw [hs] at h
   have h0:q1=roundE (edgR y) lv:=rawSteps n y.fold y.pred _ lv ch _ hs
   have hl:q1.length=lv.length:=by rw [h0,roundE_len]
   obtain⟨h1,h2⟩:=rawRules_flag l q1 lv' q2 (fun r hr=>by rw [hl];exact hp r (List.mem_cons_of_mem _ hr)) h
   subst h1
   obtain⟨h3,h4⟩:=rawSteps_flag _ lv q1 ch (hp y (List.mem_cons_self ..)) hs
   exact⟨h3,h2.trans h4⟩
theorem rawIter_rest (p:Prg) (h:PrgOk p):∀ (m j:Nat) (lv:List Int),rawIter p.arity.length p.rules m (L0 (edgP p) p.arity.length j)=some lv→∃ k,lv=L0 (edgP p) p.arity.length k∧L0 (edgP p) p.arity.length (k + 1)=L0 (edgP p) p.arity.length k
 | 0,_,_,h=>nomatch h
 | m + 1,j,lv,hr=>by
  rw [rawIter] at hr
  cases hs:rawRound p.arity.length p.rules (L0 (edgP p) p.arity.length j) with
  | none=>rw [hs] at hr;cases hr
  | some q =>
   obtain⟨q1,q2⟩:=q
   rw [hs] at hr
   have h1:q1=L0 (edgP p) p.arity.length (j + 1):=rawRules _ _ _ _ _ hs
   cases q2 with
   | true =>
    rw [h1] at hr
    exact rawIter_rest p h m (j + 1) lv hr
   | false =>
    simp only [Option.some.injEq] at hr
    have h2:=(rawRules_flag p.rules _ q1 false (fun r hr=>by rw [L0_len];have:=(h.each r hr).pred;omega) hs).2
    exact⟨j,by rw [← hr,h2],by rw [← h1,h2]⟩
theorem rawSteps_some {n f pr:Int} {N:Nat} {E:List Edg} {F:List Int} (hF:FitE N E F) (hE:edgOk N E) (hb:∀ i,F.getD i 0≤n):∀ (b:List Ltl) (lv:List Int) (ch:Bool),(∀ x∈b,(⟨pr.toNat,x.pred.toNat,liftS f x⟩:Edg)∈E)→lv.length=N→(∀ i,lv.getD i 0≤F.getD i 0) →
  ∃ r,b.foldl (rawStep n f pr) (some (lv,ch))=some r∧r.1.length=N∧∀ i,r.1.getD i 0≤F.getD i 0
 | [],lv,ch,_,hl,hle=>⟨(lv,ch),rfl,hl,hle⟩
 | x::b,lv,ch,hin,hl,hle=>by
  have hx:=hin x (List.mem_cons_self ..)
  have h1:=hF.2.2 _ hx
  have h2:=hle x.pred.toNat
  have h3:=hb pr.toNat
  dsimp only at h1
  rw [List.foldl_cons,show rawStep n f pr (some (lv,ch)) x=some (rawLit f pr x lv ch) from if_neg (by omega)]
  exact rawSteps_some hF hE hb b (rawLit f pr x lv ch).1 (rawLit f pr x lv ch).2 (fun y hy=>hin y (List.mem_cons_of_mem _ hy)) (by rw [rawLit_edg,liftE_len];exact hl) (fun i=>by rw [rawLit_edg];exact liftE_below hl hF hx (hE _ hx).1 hle i)
theorem rawRules_some {n:Int} {N:Nat} {E:List Edg} {F:List Int} (hF:FitE N E F) (hE:edgOk N E) (hb:∀ i,F.getD i 0≤n):∀ (l:List Rul) (lv:List Int) (ch:Bool),(∀ r∈l,∀ e∈edgR r,e∈E)→lv.length=N→(∀ i,lv.getD i 0≤F.getD i 0) →
  ∃ r,l.foldl (rawRule n) (some (lv,ch))=some r∧r.1.length=N∧∀ i,r.1.getD i 0≤F.getD i 0
 | [],lv,ch,_,hl,hle=>⟨(lv,ch),rfl,hl,hle⟩
 | y::l,lv,ch,hin,hl,hle=>by
  obtain⟨⟨q1,q2⟩,h1,h2,h3⟩:=rawSteps_some hF hE hb (f:=y.fold) (pr:=y.pred) (y.body.filter hangsB) lv ch (fun x hx=>hin y (List.mem_cons_self ..) _ (List.mem_map.2 ⟨x,hx,rfl⟩)) hl hle
  rw [List.foldl_cons,show rawRule n (some (lv,ch)) y=some (q1,q2) from h1]
  exact rawRules_some hF hE hb l q1 q2 (fun r hr=>hin r (List.mem_cons_of_mem _ hr)) h2 h3
theorem rawRound_gap {n:Int} {l:List Rul} {N:Nat} {lv lv':List Int} {ch:Bool} (hl:lv.length=N) (hp:∀ r∈l,r.pred.toNat < N) (hv:∀ v∈lv,0≤v∧v≤n) (h:rawRound n l lv=some (lv',ch)):Rs n lv lv' ch:=by
 have steps:∀ (f pr:Int) (b:List Ltl) (lv1 lv2:List Int) (c1 c2:Bool),pr.toNat < lv.length→Rs n lv lv1 c1→b.foldl (rawStep n f pr) (some (lv1,c1))=some (lv2,c2)→Rs n lv lv2 c2:=by
  intro f pr b
  induction b with
  | nil=>intro lv1 lv2 c1 c2 _ h1 h2;cases h2;exact h1
  | cons x b ih =>
   intro lv1 lv2 c1 c2 hp h1 h2
   rw [List.foldl_cons] at h2
   by_cases hx:n < lv1.getD x.pred.toNat 0 + liftS f x
   ·rw [show rawStep n f pr (some (lv1,c1)) x=none from if_pos hx,rawStep_none] at h2
    cases h2
   ·rw [show rawStep n f pr (some (lv1,c1)) x=some (rawLit f pr x lv1 c1) from if_neg hx] at h2
    exact ih _ _ _ _ hp (h1.step hp hx) h2
 have rules:∀ (l:List Rul) (lv1 lv2:List Int) (c1 c2:Bool),(∀ r∈l,r.pred.toNat < N)→Rs n lv lv1 c1→l.foldl (rawRule n) (some (lv1,c1))=some (lv2,c2)→Rs n lv lv2 c2:=by
  intro l
  induction l with
  | nil=>intro lv1 lv2 c1 c2 _ h1 h2;cases h2;exact h1
  | cons y l ih =>
   intro lv1 lv2 c1 c2 hp h1 h2
   rw [List.foldl_cons] at h2
   cases hs:rawRule n (some (lv1,c1)) y with
   | none=>rw [hs,rawRule_none] at h2;cases h2
   | some q =>
    obtain⟨q1,q2⟩:=q
    rw [hs] at h2
    exact ih q1 lv2 q2 c2 (fun r hr=>hp r (List.mem_cons_of_mem _ hr)) (steps _ _ _ _ _ _ _ (by rw [hl];exact hp y (List.mem_cons_self ..)) h1 hs) h2
 exact rules l lv lv' false ch hp (Rs.refl hv) h
theorem rawIter_some (p:Prg) (h:PrgOk p) {F:List Int} (hF:FitE p.arity.length (edgP p) F) (hb:∀ i,F.getD i 0≤(p.arity.length:Int)):∀ (m j:Nat),(∀ v∈L0 (edgP p) p.arity.length j,0≤v∧v≤(p.arity.length:Int))→gap p.arity.length (L0 (edgP p) p.arity.length j) < m→rawIter p.arity.length p.rules m (L0 (edgP p) p.arity.length j)≠none
 | 0,_,_,hg=>by omega
 | m + 1,j,hv,hg=>by
  rw [rawIter]
  obtain⟨⟨q1,q2⟩,h1,_,_⟩:=rawRules_some hF (edgP_ok h) hb p.rules (L0 (edgP p) p.arity.length j) false (fun r hr e he=>List.mem_flatMap.2 ⟨r,hr,he⟩) (L0_len j) (L0_below (edgP_ok h) hF j)
  have h1:rawRound p.arity.length p.rules (L0 (edgP p) p.arity.length j)=some (q1,q2):=h1
  rw [h1]
  have hgap:=rawRound_gap (L0_len j) (fun r hr=>by have:=(h.each r hr).pred;omega) hv h1
  have h2:q1=L0 (edgP p) p.arity.length (j + 1):=rawRules _ _ _ _ _ h1
  cases q2 with
  | false=>simp
  | true =>
   rw [h2] at hgap ⊢
   exact rawIter_some p h hF hb m (j + 1) hgap.2.1 (by have:=hgap.2.2.2 rfl;omega)
def docLv (p:Prg):List Int:=lvIter p.rules (p.arity.length + 1) (zeros p.arity.length)
def docOk (p:Prg):Bool:=decide (lvRound p.rules (lvIter p.rules p.arity.length (zeros p.arity.length))=lvIter p.rules p.arity.length (zeros p.arity.length))
theorem docLv_eq (p:Prg) (h:PrgOk p):docLv p=L0 (edgP p) p.arity.length (p.arity.length + 1):=by
 have:=lvIter_edg p h (p.arity.length + 1) 0
 rw [Nat.zero_add] at this
 exact this
theorem docOk_eq (p:Prg) (h:PrgOk p):docOk p=decide (L0 (edgP p) p.arity.length (p.arity.length + 1)=L0 (edgP p) p.arity.length p.arity.length):=by
 have:=lvIter_edg p h p.arity.length 0
 rw [Nat.zero_add] at this
 unfold docOk
 rw [show lvIter p.rules p.arity.length (zeros p.arity.length)=L0 (edgP p) p.arity.length p.arity.length from this,lvRound_edg _ _ fun r hr x hx=>((h.each r hr).lits x hx).kind.1]
 rfl
theorem levels_same (p:Prg) (h:PrgOk p):rawL p=if docOk p then some (docLv p) else none:=by
 have hE:=edgP_ok h
 rw [docOk_eq p h,docLv_eq p h]
 by_cases hr:L0 (edgP p) p.arity.length (p.arity.length + 1)=L0 (edgP p) p.arity.length p.arity.length
 ·rw [if_pos (decide_eq_true hr),hr]
  have hfit:=fit_of_rest hE hr
  have hb:=least_bound hE hfit
  cases hs:rawL p with
  | none =>
   refine absurd hs (rawIter_some p h hfit hb _ 0 (fun v hv=>?_) ?_)
   ·rw [List.eq_of_mem_replicate hv];omega
   ·show gap p.arity.length (zeros p.arity.length) < _
    rw [gap_zeros];exact Nat.lt_succ_self _
  | some lv =>
   obtain⟨k,h1,h2⟩:=rawIter_rest p h _ 0 lv hs
   have hfk:=fit_of_rest hE h2
   rw [h1,settled hE hfk fun F hF i=>L0_below hE hF k i]
 ·rw [if_neg (by rw [decide_eq_false hr];simp)]
  cases hs:rawL p with
  | none=>rfl
  | some lv =>
   obtain⟨k,h1,h2⟩:=rawIter_rest p h _ 0 lv hs
   have hfk:=fit_of_rest hE h2
   have hset:=settled hE hfk fun F hF i=>L0_below hE hF k i
   exfalso
   apply hr
   show roundE (edgP p) (L0 (edgP p) p.arity.length p.arity.length)=_
   rw [hset]
   exact h2
theorem least_lt {n:Nat} {E:List Edg} (hE:edgOk n E) (hF:FitE n E (L0 E n n)) (i:Nat) (hi:i < n):(L0 E n n).getD i 0 < n:=by
 apply Classical.byContradiction
 intro hgt
 have hgt:(n:Int)≤(L0 E n n).getD i 0:=by omega
 have hin:∀ v:Nat,v≤n→(v:Int)∈L0 E n n:=by
  intro v hv2
  apply Classical.byContradiction
  intro hnot
  have hnv:∀ j,j < n→(L0 E n n).getD j 0≠v:=by
   intro j hj h
   apply hnot
   rw [List.getD,List.getElem?_eq_getElem (by rw [L0_len];exact hj),Option.getD_some] at h
   rw [← h]
   exact List.getElem_mem _
  let M:List Int:=(List.range n).map fun j=>if (v:Int) < (L0 E n n).getD j 0 then (L0 E n n).getD j 0 - 1 else (L0 E n n).getD j 0
  have hM:∀ j,j < n→M.getD j 0=if (v:Int) < (L0 E n n).getD j 0 then (L0 E n n).getD j 0 - 1 else (L0 E n n).getD j 0:=fun j hj=>by rw [range_map_getD,if_pos hj]
  have hfit:FitE n E M:=by
   refine⟨by simp [M],fun j=>?_,fun e he=>?_⟩
   ·rw [range_map_getD]
    split
    ·have:=hF.2.1 j
     split <;> omega
    ·exact Int.le_refl _
   ·obtain⟨hp,hq,hs0,hs1⟩:=hE e he
    have h1:=hF.2.2 e he
    have h2:=hnv e.q hq
    rw [hM _ hp,hM _ hq]
    split <;> split <;> omega
  have h3:=L0_below hE hfit n i
  have h5:=hnv i hi
  rw [hM i hi,if_pos (by omega)] at h3
  omega
 have:=pigeon (n + 1) ((L0 E n n).map (· + 1)) fun v h1 h2=>List.mem_map.2 ⟨((v - 1:Nat):Int),hin (v - 1) (by omega),by omega⟩
 rw [List.length_map,L0_len] at this
 omega
theorem prgR_of {p:Prg} (h:progE nameR p=0):PrgR p:=by
 obtain⟨h1,h2,h3,h4⟩:=progE_rule h
 exact⟨h1,h2,h3,h4⟩
theorem docLv_fit {p:Prg} (h:progE nameR p=0) (hd:docOk p=true):LvFit p (docLv p)∧∀ r∈p.rules,0≤(docLv p).getD r.pred.toNat 0∧(docLv p).getD r.pred.toNat 0 < p.arity.length:=by
 have hok:=progE_ok h
 have hE:=edgP_ok hok
 rw [docOk_eq p hok,decide_eq_true_eq] at hd
 have hfit:=fit_of_rest hE hd
 rw [docLv_eq p hok,hd]
 refine⟨⟨L0_len _,fun r hr l hl hk=>?_⟩,fun r hr=>⟨hfit.2.1 _,?_⟩⟩
 ·have hk1:=((hok.each r hr).lits l hl).kind.1
  have hh:hangsB l=true:=by
   cases hb:hangsB l with
   | true=>rfl
   | false=>exact absurd ((hangs_kind hk1).2 hb) (by omega)
  have:=hfit.2.2 ⟨r.pred.toNat,l.pred.toNat,liftS r.fold l⟩ (List.mem_flatMap.2 ⟨r,hr,List.mem_map.2 ⟨l,List.mem_filter.2 ⟨hl,hh⟩,rfl⟩⟩)
  rw [liftN_S]
  exact this
 ·have hp:=(hok.each r hr).pred
  exact least_lt hE hfit r.pred.toNat (by omega)
def mErr (p:Prg) (l:List Fct):Int:=if progE nameR p≠0 then progE nameR p else if docOk p=false then 4 else factsE p.arity l
inductive ModelR (p:Prg) (l:List Fct):Int→List Fct→Prop
 | bad (h:mErr p l≠0):ModelR p l (mErr p l) []
 | ok (m:List Fct) (h:mErr p l=0) (hr:RunTo p (docLv p) l p.arity.length m):ModelR p l 0 m
 | much (h:mErr p l=0) (hr:¬ ∃ m,RunTo p (docLv p) l p.arity.length m):ModelR p l 2 []
theorem ModelR.total (p:Prg) (l:List Fct):∃ e m,ModelR p l e m:=by
 by_cases h:mErr p l=0
 ·by_cases hr:∃ m,RunTo p (docLv p) l p.arity.length m
  ·obtain⟨m,hr⟩:=hr
   exact⟨0,m,.ok m h hr⟩
  ·exact⟨2,[],.much h hr⟩
 ·exact⟨_,[],.bad h⟩
theorem ModelR.unique {p:Prg} {l:List Fct} {e e':Int} {m m':List Fct} (h:ModelR p l e m) (h':ModelR p l e' m'):e=e'∧m=m':=by
 cases h with
 | bad h=>cases h' with
  | bad=>exact⟨rfl,rfl⟩
  | ok _ h2=>exact absurd h2 h
  | much h2=>exact absurd h2 h
 | ok _ h hr=>cases h' with
  | bad h2=>exact absurd h h2
  | ok _ _ hr'=>exact⟨rfl,hr.unique hr'⟩
  | much _ hn=>exact absurd ⟨_,hr⟩ hn
 | much h hn=>cases h' with
  | bad h2=>exact absurd h h2
  | ok _ _ hr'=>exact absurd ⟨_,hr'⟩ hn
  | much=>exact⟨rfl,rfl⟩
theorem ModelR.run {p:Prg} {l m:List Fct} (h:mErr p l=0) (hr:ModelR p l 0 m):RunTo p (docLv p) l p.arity.length m:=by
 generalize he:(0:Int)=e at hr
 cases hr with
 | bad h2=>exact absurd h h2
 | ok _ _ hr=>exact hr
 | much=>cases he
theorem ModelR.ok0 {p:Prg} {l m:List Fct} (hr:ModelR p l 0 m):mErr p l=0:=by
 generalize he:(0:Int)=e at hr
 cases hr with
 | bad h2=>exact absurd he.symm h2
 | ok _ h _=>exact h
 | much=>cases he
structure MOk (p:Prg) (l:List Fct):Prop where
 prog:progE nameR p=0
 pr:PrgR p
 fit:LvFit p (docLv p)
 lvs:∀ r∈p.rules,0≤(docLv p).getD r.pred.toNat 0∧(docLv p).getD r.pred.toNat 0 < p.arity.length
 doc:docOk p=true
 len:l.length≤60
 facts:∀ x∈l,FctOk p.arity x
theorem factsE_ok {arity:List Int} {l:List Fct} (h:factsE arity l=0):l.length≤60∧∀ x∈l,FctOk arity x:=by
 unfold factsE at h
 split at h;· cases h
 exact⟨by omega,fun x hx=>factE_ok (firstL_all0 h x hx)⟩
theorem mOk {p:Prg} {l:List Fct} (h:mErr p l=0):MOk p l:=by
 unfold mErr at h
 split at h
 ·rename_i h1;exact absurd h h1
 rename_i h1
 split at h;· cases h
 rename_i h2
 have h1:progE nameR p=0:=by simpa using h1
 have h2:docOk p=true:=by simpa using h2
 obtain⟨q1,q2⟩:=factsE_ok h
 obtain⟨f1,f2⟩:=docLv_fit h1 h2
 exact⟨h1,prgR_of h1,f1,f2,h2,q1,q2⟩
theorem ModelR.strict {p:Prg} {l:List Fct} {e:Int} {m:List Fct} (h:ModelR p l e m):Strict m∧m.length≤60∧(∀ x∈m,FctOk p.arity x):=by
 cases h with
 | bad=>exact⟨.nil,by simp,fun _ h=>by simp at h⟩
 | ok _ h hr =>
  have:=RunTo.ok (mOk h).facts (mOk h).len hr
  exact⟨this.1,this.2.1,this.2.2.1⟩
 | much=>exact⟨.nil,by simp,fun _ h=>by simp at h⟩
theorem fit_heads {p:Prg} {lv:List Int} {n:Int} {m M:List Fct} (hp:PrgR p) (hl:LvFit p lv) (h:Fit (lvV p lv n m) m M):∀ x∈M,x∈m∨∃ r∈(lvV p lv n m).rs,x∈hdW M r:=by
 have hV:=lvV_ok hp hl n m
 obtain⟨t1,t2⟩:=bw (m++((lvV p lv n m).rs.flatMap fun r=>hdW M r))
 have hTM:∀ x∈b9 (m++((lvV p lv n m).rs.flatMap fun r=>hdW M r)),x∈M:=by
  intro x hx
  rcases List.mem_append.1 ((t2 x).1 hx) with hx|hx
  ·exact h.good.sub x hx
  ·obtain⟨r,hr,hx⟩:=List.mem_flatMap.1 hx
   exact h.good.cl r hr x hx
 have hA:(lvV p lv n m).A (b9 (m++((lvV p lv n m).rs.flatMap fun r=>hdW M r))):=by
  refine⟨fun x hx=>h.good.a.1 x (hTM x hx),fun x hx=>⟨fun hxT=>(h.good.a.2 x hx).1 (hTM x hxT),fun hx0=>(t2 x).2 (List.mem_append_left _ hx0)⟩⟩
 have hgood:Good (lvV p lv n m) m (b9 (m++((lvV p lv n m).rs.flatMap fun r=>hdW M r))):=by
  refine⟨t1,hA,fun x hx=>(t2 x).2 (List.mem_append_left _ hx),fun r hr=>?_,fun r hr x hx=>?_⟩
  ·exact (hV.mono _ M hA h.good.a t1 h.good.strict hTM r hr (h.good.few r hr)).1
  ·exact (t2 x).2 (List.mem_append_right _ (List.mem_flatMap.2 ⟨r,hr,(hV.mono _ M hA h.good.a t1 h.good.strict hTM r hr (h.good.few r hr)).2 x hx⟩))
 intro x hx
 rcases List.mem_append.1 ((t2 x).1 (h.least _ hgood x hx)) with hx|hx
 ·exact .inl hx
 ·obtain⟨r,hr,hx⟩:=List.mem_flatMap.1 hx
  exact .inr ⟨r,hr,hx⟩
theorem same_ways {arity:List Int} {r:Rul} {S T:List Fct} (hr:RulR arity r) (ha:∀ i,0≤arity.getD i 0∧arity.getD i 0≤3) (hS:∀ x∈S,FctOk arity x) (hT:∀ x∈T,FctOk arity x) (nS:S.Nodup) (nT:T.Nodup)
  (hk:∀ l∈r.body,l.kind≤2→∀ x:Fct,x.pred=l.pred→(x∈S↔x∈T)):manyW S r=manyW T r∧rawW S r=rawW T r:=by
 have sS:=rulS_mk hr ha hS
 have sT:=rulS_mk hr ha hT
 obtain⟨_,p2,p3⟩:=ways_perm nS sS.ok.lit sS.bd
 obtain⟨_,q2,q3⟩:=ways_perm nT sT.ok.lit sT.bd
 have heq:∀ w,w∈fromE S r.body (yesOf r.body) (e0 r.vars.toNat)↔w∈fromE T r.body (yesOf r.body) (e0 r.vars.toNat):=by
  intro w
  rw [p3 w,q3 w]
  refine and_congr_right fun _=>forall_congr' fun l=>forall_congr' fun hl=>?_
  rw [holdE_cong (S:=S) (T:=T) fun h12=>hk l hl (by omega)]
 have hw:waysL S r.vars.toNat r.body=waysL T r.vars.toNat r.body:=waysL_eq (waysL_sort _ _ _) ((waysL_perm _ _ _).trans (same_members p2 q2 heq))
 unfold rawW manyW
 rw [hw]
 exact⟨rfl,rfl⟩
theorem RunTo.stay {p:Prg} {lv:List Int} {given:List Fct}:∀ {k n:Nat} {m M:List Fct},RunTo p lv given n m→RunTo p lv given (n + k) M→(∀ x∈m,x∈M)∧∀ x:Fct,lv.getD x.pred.toNat 0 < n→(x∈M↔x∈m)
 | 0,n,m,M,h,g=>by
  have:=RunTo.unique h g
  subst this
  exact⟨fun _ h=>h,fun _ _=>Iff.rfl⟩
 | k + 1,n,m,M,h,⟨M',g1,g2⟩=>by
  obtain⟨i1,i2⟩:=RunTo.stay (k:=k) h g1
  refine⟨fun x hx=>g2.good.sub x (i1 x hx),fun x hx=>?_⟩
  rw [g2.good.a.2 x (by show _ < ((n + k:Nat):Int);omega)]
  exact i2 x hx
theorem RunTo.back {p:Prg} {lv:List Int} {given:List Fct}:∀ {k n:Nat} {M:List Fct},RunTo p lv given (n + k) M→∃ m,RunTo p lv given n m
 | 0,_,M,h=>⟨M,h⟩
 | k + 1,_,_,⟨_,h,_⟩=>RunTo.back (k:=k) h
theorem RunTo.heads {p:Prg} {lv:List Int} {given:List Fct} (hp:PrgR p) (hl:LvFit p lv) (hg:∀ x∈given,FctOk p.arity x) (hlen:given.length≤60) {N:Nat} {M:List Fct} (h:RunTo p lv given N M) {r:Rul} (hr:r∈p.rules)
  (h0:0≤lv.getD r.pred.toNat 0) (hN:lv.getD r.pred.toNat 0 < N):manyW M r=true∧∀ x∈hdW M r,x∈M:=by
 obtain⟨n,hn⟩:∃ n:Nat,(n:Int)=lv.getD r.pred.toNat 0:=⟨(lv.getD r.pred.toNat 0).toNat,Int.toNat_of_nonneg h0⟩
 have hN':n + 1 + (N - (n + 1))=N:=by omega
 have hM:=h
 rw [← hN'] at hM
 obtain⟨m1,h1⟩:=RunTo.back hM
 obtain⟨s1,s2⟩:=RunTo.stay h1 hM
 obtain⟨m,g1,g2⟩:=h1
 have hm1:=RunTo.ok hg hlen (n:=n + 1) (m:=m1) ⟨m,g1,g2⟩
 have hMok:=RunTo.ok hg hlen h
 have hrs:r∈(lvV p lv n m).rs:=List.mem_filter.2 ⟨hr,decide_eq_true hn.symm⟩
 obtain⟨e1,e2⟩:=same_ways (hp.rul r hr) hp.ar hMok.2.2.1 hm1.2.2.1 hMok.1.nodup hm1.1.nodup fun l hlb hk x hx=>s2 x (by
  have h1:=hl.fit r hr l hlb hk
  have h2:0≤liftN r.fold l:=by unfold liftN;split <;> omega
  rw [hx];omega)
 refine⟨e1.trans (g2.good.few r hrs),fun x hx=>s1 x ?_⟩
 unfold hdW at hx
 rw [e2] at hx
 exact g2.good.cl r hrs x hx
theorem RunTo.from {p:Prg} {lv:List Int} {given:List Fct} (hp:PrgR p) (hl:LvFit p lv) (hg:∀ x∈given,FctOk p.arity x) (hlen:given.length≤60):∀ {N:Nat} {M:List Fct},RunTo p lv given N M→∀ x∈M,x∈given∨∃ r∈p.rules,0≤lv.getD r.pred.toNat 0∧lv.getD r.pred.toNat 0 < N∧x∈hdW M r
 | 0,M,h,x,hx=>by
  subst h
  exact .inl (((bw _).2 x).1 hx)
 | N + 1,M,⟨m,h1,h2⟩,x,hx=>by
  have hMall:RunTo p lv given (N + 1) M:=⟨m,h1,h2⟩
  have hMok:=RunTo.ok hg hlen hMall
  have hmok:=RunTo.ok hg hlen h1
  rcases fit_heads hp hl h2 x hx with hx|⟨r,hr,hx⟩
  ·rcases RunTo.from hp hl hg hlen h1 x hx with hx|⟨r,hr,h0,hN,hx⟩
   ·exact .inl hx
   ·refine .inr ⟨r,hr,h0,by omega,?_⟩
    obtain⟨e1,e2⟩:=same_ways (hp.rul r hr) hp.ar hMok.2.2.1 hmok.2.2.1 hMok.1.nodup hmok.1.nodup fun l hlb hk y hy=>h2.good.a.2 y (by
     have h1:=hl.fit r hr l hlb hk
     have h2:0≤liftN r.fold l:=by unfold liftN;split <;> omega
     rw [hy];omega)
    unfold hdW at hx ⊢
    rw [e2];exact hx
  ·obtain⟨hr,hn⟩:=List.mem_filter.1 hr
   have hn:=of_decide_eq_true hn
   exact .inr ⟨r,hr,by omega,by omega,hx⟩
open Go Go.RowKit
attribute [local irreducible] DW DS DL DQ Ev FnOk FnP thenD b7 DWr
def hangsX (r:Rul):List (List SV):=(r.body.filter hangsB).map fun x=>[.d (.int .i64 x.pred),.d (.bool (strictB r.fold x))]
def cntH (r:Rul) (i:Nat):Nat:=((r.body.take i).filter hangsB).length
set_option maxHeartbeats 8000000 in
theorem hangs_fn (r:Rul):Fn 120 [elRul r] (fun res=>res = .fn 153 [.pd (co r)]):=by
 refine au _ Tryz.func120 rfl rfl (by kernel_rfl) ?_
 intro O w0 E0 β0
 repeat' (first|refine z0 ?_|apply ag|apply ae|refine z16 ?_|apply aa|refine z1 ?_|fail)
 refine bl (ent_freeze (ds:=co r) 2 0 rfl rfl) ?_
 repeat' (apply ak)
 exact⟨.inl rfl,_,rfl,rfl,rfl⟩
theorem hangsX_get {r:Rul} {j:Nat} (h:j < (hangsX r).length):∃ hj:j < (r.body.filter hangsB).length,(hangsX r)[j]=[.d (.int .i64 ((r.body.filter hangsB)[j]).pred),.d (.bool (strictB r.fold (r.body.filter hangsB)[j]))]:=by
 have h':j < (r.body.filter hangsB).length:=by unfold hangsX at h;rwa [List.length_map] at h
 exact⟨h',by simp [hangsX]⟩
theorem hangsX_len (r:Rul):(hangsX r).length=(r.body.filter hangsB).length:=by unfold hangsX;rw [List.length_map]
theorem hangsX_each (r:Rul):∀ x∈hangsX r,2=x.length∧SV.lowL 0 x=true:=by
 intro x hx
 unfold hangsX at hx
 obtain⟨y,_,rfl⟩:=List.mem_map.1 hx
 exact⟨rfl,rfl⟩
theorem cntH_skip {r:Rul} {i:Nat} (hi:i < r.body.length) (h:hangsB r.body[i]=false):cntH r (i + 1)=cntH r i:=by
 unfold cntH
 rw [List.take_succ_eq_append_getElem hi,List.filter_append,List.length_append]
 simp [h]
theorem cntH_step {r:Rul} {i:Nat} (hi:i < r.body.length) (h:hangsB r.body[i]=true):cntH r (i + 1)=cntH r i + 1:=by
 unfold cntH
 rw [List.take_succ_eq_append_getElem hi,List.filter_append,List.length_append]
 simp [h]
theorem cntH_all {r:Rul} {i:Nat} (hi:r.body.length≤i):cntH r i=(hangsX r).length:=by
 unfold cntH hangsX
 rw [List.take_of_length_le hi,List.length_map]
theorem hangsX_at {r:Rul} {i:Nat} (hi:i < r.body.length) (h:hangsB r.body[i]=true):∃ hc:cntH r i < (hangsX r).length,(hangsX r)[cntH r i]=[.d (.int .i64 r.body[i].pred),.d (.bool (strictB r.fold r.body[i]))]:=by
 have hsplit:r.body.filter hangsB=(r.body.take i).filter hangsB++r.body[i]::(r.body.drop (i + 1)).filter hangsB:=by
  conv=>lhs;rw [← List.take_append_drop i r.body,List.filter_append,List.drop_eq_getElem_cons hi]
  rw [List.filter_cons_of_pos h]
 have h1:(hangsX r)[cntH r i]? = some [.d (.int .i64 r.body[i].pred),.d (.bool (strictB r.fold r.body[i]))]:=by
  unfold hangsX cntH
  rw [hsplit,List.getElem?_map,List.getElem?_append_right (Nat.le_refl _),Nat.sub_self]
  rfl
 obtain⟨h2,h3⟩:=List.getElem?_eq_some_iff.1 h1
 exact⟨h2,h3⟩
abbrev hgL (yv pv bv:Value) (n i:Nat):Sl:=[(0,.val yv),(1,.val pv),(6,.val bv),(7,.d (.int .i64 n)),(8,.d (.int .i64 i))]
set_option maxHeartbeats 4000000 in
set_option maxHeartbeats 8000000 in
theorem hangs1_seq (r:Rul):SeqD Tryz.prog 153 [.pd (co r)] (hangsX r):=by
 refine⟨by kernel_rfl,?_⟩
 intro X e0 W0 lb l J Jx hX hlb hJ0 hfr hJb hJxb hy
 match lb,hlb with
 | [pv],⟨hpd,_⟩ =>
  have hpd':=hpd
  obtain⟨b,off,hpv,hb,hnX,hcells⟩:=hpd'
  obtain⟨u3,hc3,hr3⟩:=hcells 3 (by show 3 < 5;omega)
  have hr3:RepC X W0 u3 (.slice 4 (r.body.map bp)):=hr3
  obtain⟨ao,cap,hu3,hcap,hmax,_⟩:=hr3.slice_inv
  have hlen:(r.body.map bp).length=r.body.length:=List.length_map _
  rw [hlen] at hu3 hcap
  have hbl:r.body.length≤maxLen:=by omega
  have hbm:r.body.length≤9223372036854775807:=by unfold maxLen at hbl;omega
  refine callsIn_wide.1 (callsIn_of_wp_marks (F:=Fence.wide) (n:=0) Tryz.func153 rfl trivial ?_)
  have hF0:Flat 34 [(0,.val (.func (.yield l) #[] #[])),(1,.val pv)] { tmps:=(#[.func (.yield l) #[] #[]]++[pv].toArray)++Array.replicate 32 undef,defers:=[] }:=by
   refine⟨by simp,rfl,fun t X e w=>?_⟩
   rw [Sl.get_cons]
   split
   ·rename_i h;subst h;simp [Rel]
   ·rw [Sl.get_cons]
    split
    ·rename_i h;subst h;simp [Rel]
    ·trivial
  have hret:∀ (ex:Exit) (a:Act) (W:World),(ex = .normal∨ex = .ret)→a.defers=[]→(J (hangsX r).length W∨Jx W) →
    bodyPostM Fence.wide 0 Tryz.prog Tryz.f153 (fun en W'=>(∃ v,en = .returned v)∧(J (hangsX r).length W'∨Jx W')) ex a W:=by
   rintro ex a W hx hd hj
   have:LeavesInM Fence.wide 0 Tryz.prog Tryz.f153 a.tmps (fun en W'=>(∃ v,en = .returned v)∧(J (hangsX r).length W'∨Jx W')) a.defers .returning W:=by
    rw [hd]
    exact⟨.tuple #[],by simp [results,Tryz.f153],⟨_,rfl⟩,hj⟩
   rcases hx with rfl|rfl <;> exact this
  obtain⟨QQ,hQQ⟩:∃ QQ,QQ=bodyPostM Fence.wide 0 Tryz.prog Tryz.f153 (fun en W'=>(∃ v,en = .returned v)∧(J (hangsX r).length W'∨Jx W')):=⟨_,rfl⟩
  rw [← hQQ] at hret ⊢
  clear hQQ
  refine wpIn_seq (wpIn_mono (Q:=fun ex a' w'=>ex = .normal∧Flat 34 (hgL (.func (.yield l) #[] #[]) pv u3 r.body.length 0) a'∧Below W0.heap.size W0 w') ?_ ?_)
  ·have m0:=hF0.models (P:=Tryz.prog) (τ:=tab) (τok:=b8) (O:=X) W0 hX
   refine dwr_run m0 (dwr_of rfl ?_)
   subst hpv hu3
   apply ds_region;exact rfl
   refine ds_ev (ev_fa_val (l:=[(0,3,1),(1,33,1),(2,3,1),(3,34,1),(4,3,1)]) rfl rfl rfl 1 rfl) rfl rfl ?_
   refine ds_ev (ev_ld_val (u:=.slice ao r.body.length cap) 5 rfl rfl rfl hc3 (fun _=>id)) rfl rfl ?_
   refine ds_ev (ev_len_val 6 (t':=40) rfl rfl hbl) rfl rfl ?_
   repeat' (first|refine z0 ?_|apply ag)
   intro e a w m
   exact⟨rfl,m.flatten ⟨rfl,rfl,rfl,rfl,rfl,trivial⟩ rfl,m.toHeap.it_below⟩
  rintro ex a0 w0 ⟨rfl,hf0,hbl0⟩
  refine wpIn_block (wpIn_loop_ghost (fun n a W=>∃ i,i≤r.body.length∧n=r.body.length - i∧Flat 34 (hgL (.func (.yield l) #[] #[]) pv u3 r.body.length i) a∧J (cntH r i) W) r.body.length ⟨0,Nat.zero_le _,rfl,hf0,hJb _ _ _ hJ0 hbl0⟩ ?_)
  rintro n a W ⟨i,hi,rfl,hf,hj⟩
  obtain⟨hsz,hfrW⟩:=hfr _ _ hj
  have hOW:∀ b,Oit X W0 W b→b < W.heap.size:=fun b h=>h.1
  have m0:=hf.models (P:=Tryz.prog) (τ:=tab) (τok:=b8) (O:=Oit X W0 W) W hOW
  have hv1:∀ {k:Nat} {L:Sl} {H:Hp} {e:Env} {a:Act} {w:World},Models (Γit Tryz.prog tab b8 (Oit X W0 W) W 34) (lo k) L H e a w→L.get 1 = .val pv→Models (Γit Tryz.prog tab b8 (Oit X W0 W) W 34) (lo k) ((1,.pd (co r))::L) H e a w :=
   fun m h=>m.val_as 1 h (it_rel hsz hfrW rfl hpd m.toHeap)
  have hv6:∀ {k:Nat} {L:Sl} {H:Hp} {e:Env} {a:Act} {w:World},Models (Γit Tryz.prog tab b8 (Oit X W0 W) W 34) (lo k) L H e a w→L.get 6 = .val u3→Models (Γit Tryz.prog tab b8 (Oit X W0 W) W 34) (lo k) ((6,.d (.slice 4 (r.body.map bp)))::L) H e a w :=
   fun m h=>m.val_as 6 h (it_rel (e0:=e0) (s:=.d (.slice 4 (r.body.map bp))) hsz hfrW rfl hr3 m.toHeap)
  refine dwr_run m0 ?_
  have hr5:∀ (c5:Code) (a:Act) (W':World),i < r.body.length→Flat 34 (hgL (.func (.yield l) #[] #[]) pv u3 r.body.length i) a→J (cntH r (i + 1)) W' →
    DW (Γit Tryz.prog tab b8 X W' 34) c5 (fun ex _ L _=>ex = .normal∧Kepts L (hgL (.func (.yield l) #[] #[]) pv u3 r.body.length (i + 1))) 0 (hgL (.func (.yield l) #[] #[]) pv u3 r.body.length i) [] →
    Code.wpIn Fence.wide 0 Tryz.prog c5 (Exit.then (fun a' w'=>∃ n',n' < r.body.length - i∧∃ i,i≤r.body.length∧n' = r.body.length - i∧Flat 34 (hgL (.func (.yield l) #[] #[]) pv u3 r.body.length i) a'∧J (cntH r i) w') (Exit.inBlock 0 (fun ex a w=>QQ ex a w))) a W':=by
   intro c5 a W' hlt hf' hj' h5
   have hO':∀ b,X b→b < W'.heap.size:=fun b h=>Nat.lt_of_lt_of_le (hX b h) (hfr _ _ hj').1
   have m1:=hf'.models (P:=Tryz.prog) (τ:=tab) (τok:=b8) (O:=X) W' hO'
   refine wpIn_mono (dw_run m1 h5) ?_
   rintro ex a2 w2 (⟨k2,L2,H2,e2,m2,rfl,hk2⟩|⟨_,_,_,_,hv,_⟩)
   ·exact⟨r.body.length - (i + 1),by omega,i + 1,by omega,rfl,m2.flatten hk2 rfl,hJb _ _ _ hj' m2.toHeap.it_below⟩
   ·exact hv.elim
  refine dwr_seq rfl ?_
  repeat' (first|refine z0 ?_|apply ag|refine z16 ?_|apply aa)
  refine dwr_seq rfl ?_
  by_cases hlt:i < r.body.length
  rotate_left
  ·repeat' (first|apply ai|apply aq|apply aa|apply ap|(refine z23 ?_ ?_ <;> intro hg)|fail)
   all_goals try (exfalso;omega)
   intro e a w m
   refine hret .normal a w (.inl rfl) (m.flatten (Ls:=[]) trivial rfl).defers (.inl ?_)
   rw [← cntH_all (r:=r) (i:=i) (by omega)]
   exact hJb _ _ _ hj m.toHeap.it_below
  repeat' (first|apply ai|apply aq|apply aa|apply ap|(refine z23 ?_ ?_ <;> intro hg)|fail)
  all_goals try (exfalso;omega)
  refine dwr_seqR (dwr_block ?_)
  refine dwr_seq rfl ?_
  apply ds_region;exact rfl
  refine ds_ev (ev_val ((6,.d (.slice 4 (r.body.map bp)))::_) (fun e a w m=>hv6 m rfl) (ev_index_map (f:=bp) (l:=r.body) (t':=40) rfl rfl rfl rfl rfl rfl hlt)) rfl rfl ?_
  repeat' (first|refine z0 ?_|apply ag|apply aa|refine z1 ?_|refine z3 ?_|fail)
  refine dwr_seq rfl ?_
  repeat' (first|refine z0 ?_|refine z12 ?_|apply ag|apply ae|refine z16 ?_|apply ai|apply aq|refine z19 ?_|apply aa|apply ap|(refine z23 ?_ ?_ <;> intro hg)|((fail_if_success (apply a8;exact rfl));apply a6;exact rfl;exact rfl;exact rfl;all_goals intro hg))
  ·intro e a w m
   simp only [Exit.inBlock,if_true,Exit.then]
   refine hr5 _ a w hlt (m.flatten ⟨rfl,rfl,rfl,rfl,rfl,trivial⟩ rfl) (by rw [cntH_skip hlt (by unfold hangsB;simp_all)];exact hJb _ _ _ hj m.toHeap.it_below) ?_
   repeat' (first|refine z0 ?_|apply ag|refine z16 ?_|fail)
   exact⟨rfl,rfl,rfl,rfl,rfl,rfl,trivial⟩
  all_goals
   have hyl:hangsB r.body[i]=true:=by
    have h12:r.body[i].kind=1∨r.body[i].kind=2:=by omega
    unfold hangsB
    rcases h12 with h|h <;> simp [h]
   obtain⟨hc,hx⟩:=hangsX_at hlt hyl
   refine dwr_seqR (dwr_yieldL (l:=l) (d:=31) (N:=34) (pre:=[_,_,_,_,_,_,_,_,_,_,_]) (post:=[_]) (by rfl) (by rfl) (by rfl) (by rfl) (hgL (.func (.yield l) #[] #[]) pv u3 r.body.length i) rfl (fun b=>(32,.d (.bool (!b)))::hgL (.func (.yield l) #[] #[]) pv u3 r.body.length i) (J (cntH r (i + 1))) Jx ?_ ?_ ?_)
   ·repeat' (first|(first|refine z0 ?_|refine z12 ?_|apply ag|((fail_if_success (apply a8;exact rfl));apply a6;exact rfl;exact rfl;exact rfl;all_goals intro hg))|(refine ds_ev (ev_val ((1,.pd (co r))::_) (fun e a w m=>hv1 m rfl) (ev_field_pd (l:=[(0,3,1),(1,33,1),(2,3,1),(3,34,1),(4,3,1)]) rfl rfl rfl rfl)) rfl rfl ?_))
    all_goals
     refine⟨rfl,rfl,⟨rfl,rfl,rfl,rfl,rfl,trivial⟩,fun e W' vs hb1 hvs=>?_⟩
     have:=hy (cntH r i) hc W W' vs hj hb1 ⟨e,by rw [hx];unfold strictB;first|(rw [decide_eq_true (by assumption),Bool.true_or];exact hvs)|(rw [decide_eq_false (by assumption),Bool.false_or];exact hvs)⟩
     rw [← cntH_step hlt hyl] at this
     exact this
   ·intro b W'
    repeat' (first|refine z0 ?_|apply ag)
    exact⟨rfl,⟨rfl,rfl,rfl,rfl,rfl,rfl,trivial⟩,rfl⟩
   ·rintro b a' W' hfl ⟨W1,hb1,hj1⟩
    have hfl':Flat 34 (hgL (.func (.yield l) #[] #[]) pv u3 r.body.length i) a':=⟨hfl.len,hfl.defers,fun t X e w=>by
     have:=hfl.slot t X e w
     rw [Sl.get_cons] at this
     split at this
     ·rename_i h;subst h;trivial
     ·exact this⟩
    have hv:a'.eval (.tmp 32) = .bool (!b):=by
     have h1:=hfl.slot 32 (fun _=>False) ⟨fun _=>0,fun _=>undef,lo 0⟩ W'
     have h1:RepC _ W' (a'.tmps.getD 32 undef) (.bool (!b)):=h1
     show a'.tmps.getD 32 undef=_
     generalize a'.tmps.getD 32 undef=v at h1 ⊢
     cases h1
     rfl
    rcases hj1 with ⟨rfl,hj1⟩|⟨rfl,hj1⟩
    ·refine wpIn_cond_false hv (wpIn_skip ?_)
     refine hr5 _ a' W' hlt hfl' (hJb _ _ _ hj1 hb1) ?_
     repeat' (first|refine z0 ?_|apply ag|refine z16 ?_|fail)
     exact⟨rfl,rfl,rfl,rfl,rfl,rfl,trivial⟩
    ·refine wpIn_cond_true hv (wpIn_ret ?_)
     exact hret .ret a' W' (.inr rfl) hfl.defers (.inr (hJxb _ _ hj1 hb1))
def predsOk (n:Nat) (l:List Rul):Prop:=∀ r∈l,(0≤r.pred∧r.pred < n)∧∀ x∈r.body,hangsB x=true→0≤x.pred∧x.pred < n
def rawSV:Option (List Int)→SV
 | none=>.tup [.d (.slice 1 []),.d (.bool false)]
 | some lv=>.tup [.d (.slice 1 (lv.map bf)),.d (.bool true)]
abbrev prgBk (p:Prg):HB:=.blk 26 [.d (.slice 1 (p.arity.map bf)),.d (.slice 1 (p.names.map encT)),.d (.slice 5 (p.rules.map co))]
abbrev rawH (p:Prg) (lv:List Int) (ch:Bool):Hp:=[(0,prgBk p),(1,.blk 22 [.nils]),(2,.blk 4 [.d (.bool false)]),(3,.row 3 1 (lv.map bf)),(4,.blk 22 [.row 3]),(5,.blk 4 [.d (.bool ch)])]
set_option maxHeartbeats 8000000 in
theorem sraw_fn (p:Prg) (h10:p.arity.length≤10) (h12:p.rules.length≤12) (hp:predsOk p.arity.length p.rules):Fn 97 [elPrg p] (fun res=>res=rawSV (rawL p)):=by
 refine au _ Tryz.func97 rfl rfl (by kernel_rfl) ?_
 intro O w0 E0 β0
 have la:(p.arity.map bf).length=p.arity.length:=List.length_map _
 have lr:(p.rules.map co).length=p.rules.length:=List.length_map _
 repeat' (first|refine z0 ?_|apply ag|apply ae|refine z16 ?_|apply aa|refine z1 ?_|fail)
 refine ds_mk ((zeros p.arity.length).map bf) rfl rfl (by rw [la]) rfl rfl rfl rfl rfl rfl (by show 8 * _≤_;omega) (by unfold maxLen;omega) (by unfold zeros;rw [List.map_replicate];rfl) rfl rfl ?_
 repeat' (first|apply ag|apply ae|refine z16 ?_|apply ah|apply aa|refine z1 ?_|refine z3 ?_|fail)
 refine bh (ι:=Bool × List Int × Nat) (fun x=>⟨6,[(1,.loc 0 0),(2,.loc 1 0),(3,.loc 2 0),(4,.loc 4 0),(5,.loc 5 0)],rawH p x.2.1 x.1⟩)
  (fun x=>x.2.1.length=p.arity.length∧(∀ v∈x.2.1,0≤v∧v≤p.arity.length)∧(x.1=true→rawL p=rawIter p.arity.length p.rules x.2.2 x.2.1∧gap p.arity.length x.2.1 < x.2.2)∧(x.1=false→rawL p=some x.2.1)) (fun x=>x.2.2)
  (true,zeros p.arity.length,p.arity.length * p.arity.length + 1) ⟨by simp [zeros],fun v hv=>by rw [List.eq_of_mem_replicate hv];constructor <;> omega,fun _=>⟨rfl,by rw [gap_zeros];exact Nat.lt_succ_self _⟩,fun h=>by cases h⟩
  (aj id ⟨rfl,rfl,rfl,rfl,rfl,trivial⟩ ⟨rfl,rfl,rfl,rfl,rfl,rfl,trivial⟩ rfl rfl rfl rfl rfl rfl) ?_
 rintro⟨ch,lv0,m⟩ ⟨g1,g2,g3,g4⟩
 dsimp only at g1 g2 g3 g4 ⊢
 cases ch with
 | false =>
  have g4:=g4 rfl
  repeat' (first|refine z0 ?_|apply ag|apply ae|refine z16 ?_|apply aq|refine z19 ?_|apply aa|apply ap|refine z17 ?_|refine z3 ?_|fail)
  refine bl (ent_cellseal 1 0 3 rfl rfl rfl rfl rfl) ?_
  repeat' (apply ak)
  exact⟨.inl rfl,_,rfl,rfl,by rw [g4];rfl⟩
 | true =>
  obtain⟨g5,g6⟩:=g3 rfl
  obtain⟨m,rfl⟩:∃ m',m=m' + 1:=⟨m - 1,by omega⟩
  repeat' (first|refine z0 ?_|apply ag|apply ae|refine z16 ?_|apply ah|apply ai|refine z18 ?_|apply aa|refine z3 ?_|fail)
  refine bh (ι:=Nat × List Int × Bool) (fun x=>⟨6,[(1,.loc 0 0),(2,.loc 1 0),(3,.loc 2 0),(4,.loc 4 0),(5,.loc 5 0),(17,.d (.slice 5 (p.rules.map co))),(18,.d (.int .i64 (p.rules.map co).length)),(19,.d (.int .i64 x.1))],rawH p x.2.1 x.2.2⟩)
   (fun x=>x.1≤p.rules.length∧rawRound p.arity.length p.rules lv0=(p.rules.drop x.1).foldl (rawRule p.arity.length) (some (x.2.1,x.2.2))∧Rs p.arity.length lv0 x.2.1 x.2.2) (fun x=>p.rules.length - x.1)
   (0,lv0,false) ⟨Nat.zero_le _,rfl,Rs.refl g2⟩ (aj id ⟨rfl,rfl,rfl,rfl,rfl,rfl,rfl,rfl,trivial⟩ ⟨rfl,rfl,rfl,rfl,rfl,rfl,trivial⟩ rfl rfl rfl rfl rfl rfl) ?_
  rintro⟨i,lv,ch⟩ ⟨f1,f2,f3⟩
  dsimp only at f1 f2 f3 ⊢
  have ll:(lv.map bf).length=lv.length:=List.length_map _
  by_cases hi:i < p.rules.length
  ·repeat' (first|refine z0 ?_|apply ag|apply ae|refine z16 ?_|apply ah|apply ai|apply aq|apply aa|apply ap|apply aw|refine z17 ?_|refine z21 ?_ (hc:=by apply hangs_fn)|refine z1 ?_|refine z3 ?_|(refine z23 ?_ ?_ <;> intro hg)|fail)
   all_goals try (exfalso;omega)
   obtain⟨hp1,hp2⟩:=hp p.rules[i] (List.getElem_mem hi)
   have hstep:(p.rules.drop i).foldl (rawRule p.arity.length) (some (lv,ch))=(p.rules.drop (i + 1)).foldl (rawRule p.arity.length) (((p.rules[i].body.filter hangsB).drop 0).foldl (rawStep p.arity.length p.rules[i].fold p.rules[i].pred) (some (lv,ch))):=by
    rw [List.drop_eq_getElem_cons hi,List.foldl_cons,List.drop_zero];rfl
   rw [hstep] at f2
   clear hstep
   generalize p.rules[i]=r at hp1 hp2 f2 ⊢
   refine dw_range (hangsX r) rfl rfl (hangs1_seq r) (hangsX_each r) (by simp) [(1,.loc 0 0),(2,.loc 1 0),(3,.loc 2 0),(4,.loc 4 0),(5,.loc 5 0),(7,.loc 6 0),(17,.d (.slice 5 (p.rules.map co))),(18,.d (.int .i64 (p.rules.map co).length)),(19,.d (.int .i64 i))] ⟨rfl,rfl,rfl,rfl,rfl,rfl,rfl,rfl,rfl,trivial⟩ rfl
    (ι:=List Int × Bool) (fun _ x=>(7,(6,ruleB r)::rawH p x.1 x.2))
    (fun j x=>rawRound p.arity.length p.rules lv0=(p.rules.drop (i + 1)).foldl (rawRule p.arity.length) (((r.body.filter hangsB).drop j).foldl (rawStep p.arity.length r.fold r.pred) (some x))∧Rs p.arity.length lv0 x.1 x.2)
    (lv,ch) ⟨f2,f3⟩ rfl ?_ ?_
   ·rintro j hj ⟨lv1,ch1⟩ ⟨e1,e2⟩ O1 w1 E1 β1 l
    obtain⟨hj',hx⟩:=hangsX_get hj
    rw [hx]
    dsimp only at e1 e2 ⊢
    have hxm:=List.getElem_mem hj'
    obtain⟨hxb,hxh⟩:=List.mem_filter.1 hxm
    obtain⟨q1,q2⟩:=hp2 _ hxb hxh
    rw [List.drop_eq_getElem_cons hj',List.foldl_cons] at e1
    generalize (r.body.filter hangsB)[j]=x at hxb hxh q1 q2 e1 ⊢
    have ll1:(lv1.map bf).length=lv1.length:=List.length_map _
    have hl1:=e2.1
    have hA:=e2.2.1 (lv1[x.pred.toNat]'(by omega)) (List.getElem_mem _)
    have hw:=rawStep_if (n:=p.arity.length) (fold:=r.fold) (pred:=r.pred) (ch:=ch1) (x:=x) (lv:=lv1) (by omega) (by omega)
    have hnx:=fun lv' ch'=>Rs.next (fold:=r.fold) (pred:=r.pred) (x:=x) (lv':=lv') (ch':=ch') e2 (by omega)
    unfold liftS at hw
    change DW _ _ _ _ ((26,.d (.bool (strictB r.fold x)))::(25,.d (.int .i64 x.pred))::_) _
    generalize strictB r.fold x=sb at hw ⊢
    repeat' (first|refine z0 ?_|apply ag|apply ae|refine z16 ?_|apply aa)
    refine⟨rfl,fun O2 w2 E2 β2=>?_⟩
    cases sb with
    | true =>
     rw [if_pos rfl] at hw
     repeat' (first|refine z0 ?_|apply ag|(apply ds_stP;exact rfl;exact rfl;(apply hv_get;(omega));exact rfl;exact rfl;(exact hv_set rfl);exact rfl;exact rfl;exact rfl;exact rfl;exact rfl;exact rfl)|apply ae|refine z16 ?_|apply ah|apply ai|apply ak|refine z18 ?_|apply aa|apply aw|apply bq|refine z3 ?_|(refine z23 ?_ ?_ <;> intro hg)|fail)
     all_goals try (exfalso;omega)
     all_goals first
      | exact⟨(lv1.set r.pred.toNat (lv1[x.pred.toNat]'(by omega) + 1),true),⟨by rw [e1,hw,if_neg (by omega),if_pos (by omega)],hnx _ _ (by rw [hw,if_neg (by omega),if_pos (by omega)])⟩,aj id trivial ⟨rfl,rfl,rfl,rfl,rfl,rfl,rfl,trivial⟩ rfl rfl rfl rfl rfl rfl⟩
      | exact⟨(lv1,ch1),⟨by rw [e1,hw,if_neg (by omega),if_neg (by omega)],e2⟩,aj id trivial ⟨rfl,rfl,rfl,rfl,rfl,rfl,rfl,trivial⟩ rfl rfl rfl rfl rfl rfl⟩
      | (refine⟨7,[(0,prgBk p),(1,.blk 22 [.d (.slice 1 [])]),(2,.blk 4 [.d (.bool false)])],ent_trans (ent_cellnil 1 0 1 rfl rfl rfl) (aj id trivial ⟨rfl,rfl,rfl,trivial⟩ rfl rfl rfl rfl rfl rfl),?_⟩
         repeat' (first|apply av|apply bq)
         exact⟨.inl rfl,_,rfl,rfl,by rw [g5,rawIter,e1,hw,if_pos (by omega),rawStep_none,rawRule_none];rfl⟩)
    | false =>
     simp only [Bool.false_eq_true,if_false,Int.add_zero] at hw
     repeat' (first|refine z0 ?_|apply ag|(apply ds_stP;exact rfl;exact rfl;(apply hv_get;(omega));exact rfl;exact rfl;(exact hv_set rfl);exact rfl;exact rfl;exact rfl;exact rfl;exact rfl;exact rfl)|apply ae|refine z16 ?_|apply ah|apply ai|apply ak|refine z19 ?_|apply aa|apply aw|apply bq|refine z3 ?_|(refine z23 ?_ ?_ <;> intro hg)|fail)
     all_goals try (exfalso;omega)
     all_goals first
      | exact⟨(lv1.set r.pred.toNat (lv1[x.pred.toNat]'(by omega)),true),⟨by rw [e1,hw,if_neg (by omega),if_pos (by omega)],hnx _ _ (by rw [hw,if_neg (by omega),if_pos (by omega)])⟩,aj id trivial ⟨rfl,rfl,rfl,rfl,rfl,rfl,rfl,trivial⟩ rfl rfl rfl rfl rfl rfl⟩
      | exact⟨(lv1,ch1),⟨by rw [e1,hw,if_neg (by omega),if_neg (by omega)],e2⟩,aj id trivial ⟨rfl,rfl,rfl,rfl,rfl,rfl,rfl,trivial⟩ rfl rfl rfl rfl rfl rfl⟩
      | (refine⟨7,[(0,prgBk p),(1,.blk 22 [.d (.slice 1 [])]),(2,.blk 4 [.d (.bool false)])],ent_trans (ent_cellnil 1 0 1 rfl rfl rfl) (aj id trivial ⟨rfl,rfl,rfl,trivial⟩ rfl rfl rfl rfl rfl rfl),?_⟩
         repeat' fail
         exact⟨.inl rfl,_,rfl,rfl,by rw [g5,rawIter,e1,hw,if_pos (by omega),rawStep_none,rawRule_none];rfl⟩)
   ·rintro⟨lv1,ch1⟩ ⟨e1,e2⟩
    rw [hangsX_len,List.drop_of_length_le (Nat.le_refl _)] at e1
    repeat' (first|refine z0 ?_|apply ag|refine z16 ?_|apply aa|apply aw)
    exact⟨(i + 1,lv1,ch1),⟨by dsimp only;omega,e1,e2⟩,aj id ⟨rfl,rfl,rfl,rfl,rfl,rfl,rfl,rfl,trivial⟩ ⟨rfl,rfl,rfl,rfl,rfl,rfl,trivial⟩ rfl rfl rfl rfl rfl rfl,by show p.rules.length - (i + 1) < p.rules.length - i;omega⟩
  ·rw [List.drop_of_length_le (by omega)] at f2
   have f2:rawRound p.arity.length p.rules lv0=some (lv,ch):=f2
   rw [rawIter,f2] at g5
   repeat' (first|refine z0 ?_|apply ag|apply ae|refine z16 ?_|apply ah|apply ai|apply aq|apply aa|apply ap|apply aw|refine z17 ?_|refine z1 ?_|refine z3 ?_|(refine z23 ?_ ?_ <;> intro hg)|fail)
   all_goals try (exfalso;omega)
   refine⟨(ch,lv,m),⟨by dsimp only;rw [f3.1,g1],f3.2.1,fun h=>?_,fun h=>?_⟩,aj (fun j=>match j with|5=>6|j=>j) ⟨rfl,rfl,rfl,rfl,rfl,trivial⟩ ⟨rfl,rfl,rfl,rfl,rfl,rfl,trivial⟩ rfl rfl rfl rfl rfl rfl,by show m < m + 1;omega⟩
   ·subst h
    exact⟨g5,by have:=f3.2.2.2 rfl;dsimp only;omega⟩
   ·subst h
    exact g5
abbrev svI (v:Int):SV:=.d (.int .i64 v)
def qOk (left:List Int) (off cap:Nat) (cs:List SV):Prop:=off + cap≤cs.length∧(cs.drop off).take left.length=left.map svI∧left.length≤cap
theorem qOk.head {n:Int} {left:List Int} {off cap:Nat} {cs:List SV} (h:qOk (n::left) off cap cs):cs[off]? = some (svI n):=by
 obtain⟨h1,h2,h3⟩:=h
 have:((cs.drop off).take (n::left).length)[0]? = some (svI n):=by rw [h2];rfl
 rw [List.getElem?_take,List.getElem?_drop] at this
 simpa using this
theorem qOk.tail {n:Int} {left:List Int} {off cap:Nat} {cs:List SV} (h:qOk (n::left) off cap cs):qOk left (off + 1) (cap - 1) cs:=by
 obtain⟨h1,h2,h3⟩:=h
 simp only [List.length_cons] at h2 h3
 refine⟨by omega,?_,by omega⟩
 have h4:((cs.drop off).take (left.length + 1)).drop 1=left.map svI:=by rw [h2];rfl
 rw [List.drop_take,List.drop_drop] at h4
 simpa using h4
theorem qOk.push {x:Int} {left:List Int} {off cap:Nat} {cs:List SV} (h:qOk left off cap cs) (hr:left.length + 1≤cap):qOk (left++[x]) off cap (splice cs (off + left.length * 1) [svI x]):=by
 obtain⟨h1,h2,h3⟩:=h
 have hl:left.length≤(cs.drop off).length:=by rw [List.length_drop];omega
 refine⟨by unfold splice;simp;omega,?_,by simpa using hr⟩
 unfold splice
 rw [Nat.mul_one,List.length_append,List.length_singleton,List.map_append,← h2,List.append_assoc,List.drop_append_of_le_length (by simp;omega),List.drop_take]
 rw [show off + left.length - off=left.length by omega]
 rw [← List.append_assoc,List.take_append_of_le_length (by simp;omega),List.take_of_length_le (by simp;omega)]
 rfl
theorem qOk.grow {x:Int} {left:List Int} {off cap c':Nat} {cs:List SV} (h:qOk left off cap cs) (hr:left.length + 1≤c') :
  qOk (left++[x]) 0 c' ((cs.drop off).take (left.length * 1)++[svI x]++List.replicate ((c' - (left.length + 1)) * 1) .junk):=by
 obtain⟨h1,h2,h3⟩:=h
 rw [Nat.mul_one,Nat.mul_one,h2]
 refine⟨by simp;omega,?_,by simpa using hr⟩
 rw [List.drop_zero,List.length_append,List.length_singleton,List.take_append_of_le_length (by simp),List.take_of_length_le (by simp),List.map_append]
 rfl
abbrev ndH (q:Nat) (p:Prg) (out:List Bool) (n off cap:Nat) (cs:List SV):Hp:=[(0,prgBk p),(1,.row 4 1 (out.map cu)),(2,.blk 50 [.row 1]),(q,.blk 3 cs),(4,.blk 22 [.sl q off n cap])]
structure Qst where
 out:List Bool
 left:List Int
 n:Nat
 off:Nat
 cap:Nat
 cs:List SV
abbrev Qst.ok (x:Qst):Prop:=x.n=x.left.length∧qOk x.left x.off x.cap x.cs∧x.cap≤maxLen∧SV.lowL 0 x.cs=true
abbrev Qst.H (p:Prg) (q:Nat) (x:Qst):Hp:=ndH q p x.out x.n x.off x.cap x.cs
theorem predsOk_of {p:Prg} (h:PrgOk p):predsOk p.arity.length p.rules:=fun r hr=>⟨(h.each r hr).pred,fun x hx hh=>((h.each r hr).lits x hx).pred hh⟩
def levE (p:Prg):Int:=if progE nameR p≠0 then progE nameR p else if docOk p then 0 else 4
def levL (p:Prg):List Int:=if progE nameR p=0∧docOk p=true then docLv p else []
set_option maxHeartbeats 8000000 in
theorem levels_fn (p:Prg):Fn 58 [elPrg p] (fun res=>res = .tup [.d (.slice 1 ((levL p).map bf)),.d (.int .i64 (levE p))]):=by
 refine au _ Tryz.func58 rfl rfl (by kernel_rfl) ?_
 intro O w0 E0 β0
 have hc:=scheck_fn p
 unfold levE levL
 by_cases h0:progE nameR p=0
 ·have hok:=progE_ok h0
  have hr:=sraw_fn p hok.preds hok.rules (predsOk_of hok)
  rw [levels_same p hok] at hr
  rw [h0] at hc ⊢
  cases hd:docOk p with
  | true =>
   rw [hd,if_pos rfl] at hr
   unfold rawSV at hr
   dsimp only at hr
   repeat' (first|refine z0 ?_|apply ag|apply ae|refine z16 ?_|apply ai|apply ak|refine z19 ?_|apply aa|refine z21 ?_ (hc:=by apply hc)|refine z21 ?_ (hc:=by apply hr)|refine z1 ?_|fail)
   exact ret_2 rfl ⟨by simp,by simp⟩
  | false =>
   rw [hd,if_neg (by simp)] at hr
   unfold rawSV at hr
   dsimp only at hr
   repeat' (first|refine z0 ?_|apply ag|apply ae|refine z16 ?_|apply ai|refine z18 ?_|refine z19 ?_|apply aa|refine z21 ?_ (hc:=by apply hc)|refine z21 ?_ (hc:=by apply hr)|refine z1 ?_|fail)
   refine dw_nild 2 1 rfl ?_
   repeat' (first|apply ak|apply av)
   exact ret_2 rfl ⟨by simp,by simp⟩
 ·have hn:decide (progE nameR p≠0)=true:=decide_eq_true h0
  generalize progE nameR p=q at hc h0 hn ⊢
  repeat' (first|refine z0 ?_|apply ag|apply ae|refine z16 ?_|apply ai|apply aa|refine z21 ?_ (hc:=by apply hc)|refine z1 ?_|(refine z23 ?_ ?_ <;> intro hg)|fail)
  ·refine dw_nild 2 1 rfl ?_
   repeat' (first|apply ak|apply av)
   exact ret_2 rfl ⟨by simp [h0],by simp [h0]⟩
  ·exact absurd h0 hg
theorem lvIter_succ (l:List Rul):∀ (n:Nat) (lv:List Int),lvIter l (n + 1) lv=lvRound l (lvIter l n lv)
 | 0,_=>rfl
 | n + 1,lv=>by
  rw [lvIter,lvIter_succ l n (lvRound l lv)]
  rfl
def RdL (lv0 lv:List Int) (rose:Bool) (B:Int):Prop:=leL lv0 lv∧(rose=false→lv=lv0)∧(rose=true→lv≠lv0)∧∀ v∈lv,0≤v∧v≤B
theorem RdL.refl {lv:List Int} {B:Int} (h:∀ v∈lv,0≤v∧v≤B):RdL lv lv false B:=⟨leL.refl _,fun _=>rfl,(fun h=>nomatch h),h⟩
theorem RdL.more {lv0 lv:List Int} {rose:Bool} {B C:Int} (h:RdL lv0 lv rose B) (hc:B≤C):RdL lv0 lv rose C:=⟨h.1,h.2.1,h.2.2.1,fun v hv=>⟨(h.2.2.2 v hv).1,Int.le_trans (h.2.2.2 v hv).2 hc⟩⟩
theorem RdL.set {lv0 lv:List Int} {rose:Bool} {B v:Int} {i:Nat} (h:RdL lv0 lv rose B) (hi:i < lv.length) (hv:lv[i] < v) (hb:v≤B + 1):RdL lv0 (lv.set i v) true (B + 1):=by
 obtain⟨h1,h2,h3,h4⟩:=h
 have hg:lv.getD i 0=lv[i]:=by rw [List.getD,List.getElem?_eq_getElem hi];rfl
 refine⟨⟨by rw [List.length_set];exact h1.1,fun j=>?_⟩,(fun h=>nomatch h),fun _ he=>?_,fun u hu=>?_⟩
 ·have h5:=h1.2 j
  rw [set_getD _ _ _ hi]
  split
  ·rename_i hij;subst hij;omega
  ·exact h5
 ·have h5:=h1.2 i
  rw [← he,set_getD _ _ _ hi,if_pos rfl] at h5
  omega
 ·rcases List.mem_or_eq_of_mem_set hu with h|h
  ·have:=h4 u h;omega
  ·have:=h4 _ (List.getElem_mem hi);omega
theorem lvLit_if {f pr:Int} {lv:List Int} {x:Ltl} (hk:¬ 2 < x.kind) (h1:x.pred.toNat < lv.length) (h2:pr.toNat < lv.length):lvLit f pr lv x=if lv[pr.toNat] < lv[x.pred.toNat] + liftN f x then lv.set pr.toNat (lv[x.pred.toNat] + liftN f x) else lv:=by
 simp only [lvLit,List.getD,List.getElem?_eq_getElem h1,List.getElem?_eq_getElem h2,Option.getD_some,if_neg hk]
abbrev one (n:Nat) (pred:Int):List Bool:=(List.replicate n false).set pred.toNat true
structure Nst (a b:List Bool × List Int):Prop where
 up:leB a.1 b.1
 keep:∀ v∈a.2,v∈b.2
 new:∀ i:Int,0≤i→b.1.getD i.toNat false=true→a.1.getD i.toNat false=true∨i∈b.2
theorem Nst.refl (a:List Bool × List Int):Nst a a:=⟨leB.refl _,fun _ h=>h,fun _ _ h=>.inl h⟩
theorem Nst.trans {a b c:List Bool × List Int} (h:Nst a b) (g:Nst b c):Nst a c :=
 ⟨h.up.trans g.up,fun v hv=>g.keep v (h.keep v hv),fun i hi hc=>(g.new i hi hc).elim (fun hb=>(h.new i hi hb).imp id (g.keep i)) .inr⟩

end Go.Proofs.YtapciiffpnociacGreat
