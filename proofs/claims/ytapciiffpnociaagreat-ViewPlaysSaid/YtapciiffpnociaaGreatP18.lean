/- Several texts in one: ScoD ScoF GxOrd RuP RuA RuQ RuB RuR RuC RuD RuE RuG RuK. Condition: none. -/
import Derived.Test.YtapciiffpnociaaGreatP17
import Derived.Test.YtapciiffpnociaaGreatP13
import Derived.Test.YtapciiffpnociaaGreatP02
import Derived.Test.YtapciiffpnociaaGreatP11
import Derived.Test.YtapciiffpnociaaGreatP10
import Derived.Test.YtapciiffpnociaaGreatP01
namespace Go.Proofs.YtapciiffpnociaaGreat
open Go Go.RowKit
attribute [local irreducible] DW DS DL DQ Ev FnOk FnP em b9 DT
theorem firstL_zero {α:Type} {f:α→Int}:∀ {l:List α},cu f l=0→∀ x∈l,f x=0
 | [],_,x,hx=>by simp at hx
 | y::l,h,x,hx=>by
  unfold cu at h
  split at h
  ·rename_i hn;exact absurd h hn
  ·rename_i hn
   rcases List.mem_cons.1 hx with rfl|hx
   ·exact Decidable.not_not.1 hn
   ·exact firstL_zero h x hx
theorem termE_ok {vars:Int} {t:Trm} (h0:0≤vars) (h:termE vars t=0):okT vars.toNat t:=by
 unfold termE at h
 split at h
 ·cases h
 ·rename_i hn
  rw [Bool.not_eq_false] at hn
  have:=inR_spec hn
  unfold okT
  omega
theorem litE_ok {ar:List Int} {vars:Int} {l:Ltl} (h0:0≤vars) (h:litE ar vars l=0):(∀ t∈l.terms,okT vars.toNat t)∧(l.kind=4→l.terms.length=3):=by
 have ht:termsE vars l.terms=0→∀ t∈l.terms,okT vars.toNat t:=fun h t ht=>termE_ok h0 (firstL_zero h t ht)
 unfold litE at h
 split at h
 ·cases h
 split at h
 ·cases h
 split at h
 ·split at h
  ·cases h
  split at h
  ·cases h
  exact⟨ht h,fun hk=>by omega⟩
 ·split at h
  ·cases h
  exact⟨ht h,fun hk=>by omega⟩
theorem any_false (l:List Bool):(l.any fun x=>eqB x false) = !l.all id:=by
 induction l with
 | nil=>rfl
 | cons b l ih=>rw [List.any_cons,List.all_cons,ih];cases b <;> rfl
abbrev prgB (p:Prg):HB:=.blk 26 [.d (.slice 1 (p.arity.map bi)),.d (.slice 1 (p.names.map encT)),.d (.slice 5 (p.rules.map dx))]
set_option maxHeartbeats 8000000 in
theorem rule_fn (p:Prg) (r:Rul):Fn 41 [jl p,elRul r] (fun x=>x = .d (.int .i64 (ruleE p.arity r))):=by
 refine ak _ Tryz.func41 rfl rfl (by kernel_rfl) ?_
 intro O w0 E0 β0
 have la:(p.arity.map bi).length=p.arity.length:=List.length_map _
 have lb:(r.terms.map bw).length=r.terms.length:=List.length_map _
 have lc:(r.body.map bt).length=r.body.length:=List.length_map _
 refine dw_lenA 0 0 rfl rfl (fun hk=>?_)
 refine dw_lenA 1 1 rfl rfl (fun hk2=>?_)
 refine dw_lenA 1 3 rfl rfl (fun hk3=>?_)
 have w1:=fb r.pred 0 (((p.arity.map bi).length:Int) - 1)
 have w2:=fb r.vars 0 8
 have w3:=fb r.fold 0 4
 unfold ruleE
 rw [← la,← lb,← lc]
 by_cases hp:inR r.pred 0 (((p.arity.map bi).length:Int) - 1)=true
 ·have hp':=inR_spec hp
  have hA:=arity_at (p:=p) (n:=r.pred) (by omega) (by omega)
  rw [hp] at w1 ⊢
  rw [if_neg (show ¬ (true=false) by decide),hA]
  by_cases hv:inR r.vars 0 8=true
  ·have hv':=inR_spec hv
   rw [hv] at w2 ⊢
   rw [if_neg (show ¬ (true=false) by decide)]
   have w4:=terms_fn r.terms r.vars hv'.1 hv'.2
   clear hv hp hA
   have w5:=fun l=>lit_fn p l r.vars hv'.1 hv'.2
   generalize termsE r.vars r.terms=te at w4 ⊢
   generalize inR r.fold 0 4=fo at w3 ⊢
   repeat' (first|refine z0 ?_|refine z12 ?_|apply ag|refine z5 ?_|refine z10 ?_|apply ae|refine z16 ?_|refine z20 ?_|apply ah|apply ai|apply aj|refine z18 ?_|refine z19 ?_|apply aa|apply av|apply bg|apply br|refine z21 ?_ (hc:=by apply w1)|refine z21 ?_ (hc:=by apply w2)|refine z21 ?_ (hc:=by apply w3)|refine z21 ?_ (hc:=by apply w4)|refine z1 ?_|(refine z23 ?_ ?_ <;> intro hg)|(apply c7;exact rfl;all_goals intro hg)|((fail_if_success (apply bk;exact rfl));apply bl;exact rfl;exact rfl;exact rfl;all_goals intro hg))
   all_goals try (refine cg rfl ?_;(repeat' split) <;> (first|rfl|(exfalso;omega)|(exfalso;simp_all;done)))
   all_goals
    have hfin:∀ e,cu (litE p.arity r.vars) r.body=e→(if (((r.terms.map bw).length:Nat):Int)≠p.arity[r.pred.toNat]'(by omega) then 1 else if te≠0 then te else if fo=false then 7 else if r.fold≠0∧((r.terms.map bw).length=0∨(r.body.map bt).length=0) then 1 else if 4 < (r.body.map bt).length then 2 else if cu (litE p.arity r.vars) r.body≠0 then cu (litE p.arity r.vars) r.body else if safeB r=false then 4 else 0)=if e≠0 then e else if safeB r=false then 4 else 0:=by
     rintro e rfl
     (repeat' split) <;> (first|rfl|(exfalso;omega)|(exfalso;simp_all;done))
    generalize (if (((r.terms.map bw).length:Nat):Int)≠p.arity[r.pred.toNat]'(by omega) then 1 else if te≠0 then te else if fo=false then 7 else if r.fold≠0∧((r.terms.map bw).length=0∨(r.body.map bt).length=0) then 1 else if 4 < (r.body.map bt).length then 2 else if cu (litE p.arity r.vars) r.body≠0 then cu (litE p.arity r.vars) r.body else if safeB r=false then 4 else 0)=res at hfin ⊢
    refine bh (ι:=Nat) (fun i=>⟨2,[(2,.loc 0 0),(3,.loc 1 0),(4,.d (.int .i64 0)),(69,.d (.slice 4 (r.body.map bt))),(70,.d (.int .i64 (r.body.map bt).length)),(71,.d (.int .i64 i))],[(0,prgB p),(1,ruleB r)]⟩)
     (fun i=>i≤r.body.length∧cu (litE p.arity r.vars) r.body=cu (litE p.arity r.vars) (r.body.drop i)) (fun i=>r.body.length - i) 0 ⟨Nat.zero_le _,rfl⟩ (ap id ⟨rfl,rfl,rfl,rfl,rfl,rfl,trivial⟩ ⟨rfl,rfl,trivial⟩ rfl rfl rfl rfl rfl rfl) ?_
    rintro i ⟨g1,g2⟩
    by_cases hi:i < r.body.length
    ·rw [firstL_step hi] at g2
     have w6:=w5 r.body[i]
     generalize litE p.arity r.vars r.body[i]=le at w6 g2
     repeat' (first|refine z0 ?_|apply ag|apply ae|refine z16 ?_|apply ah|apply ai|apply au|apply aj|apply aa|apply aq|apply av|apply bg|apply br|refine z17 ?_|refine z21 ?_ (hc:=by apply w6)|refine z1 ?_|refine z3 ?_|(refine z23 ?_ ?_ <;> intro hg)|fail)
     all_goals first
      | (exfalso;omega)
      | (refine cg rfl ?_;rw [hfin le (by rw [g2,if_pos (by assumption)]),if_pos (by assumption)];done)
      | exact⟨i + 1,⟨by omega,by rw [g2,if_neg (by assumption)]⟩,ap id ⟨rfl,rfl,rfl,rfl,rfl,rfl,trivial⟩ ⟨rfl,rfl,trivial⟩ rfl rfl rfl rfl rfl rfl,by show r.body.length - (i + 1) < r.body.length - i;omega⟩
    ·rw [firstL_end (by omega)] at g2
     have hall:=firstL_zero g2
     have w7:=bound_fn r hv'.1 hv'.2 (fun l hl=>(litE_ok hv'.1 (hall l hl)).1) (fun l hl=>(litE_ok hv'.1 (hall l hl)).2)
     have w8:=containsB_fn false (boundL r)
     rw [any_false] at w8
     rw [hfin 0 g2,if_neg (by decide)]
     unfold safeB
     generalize (boundL r).all id=sb at w8 ⊢
     repeat' (first|refine z0 ?_|apply ag|apply ae|refine z16 ?_|apply ah|apply ai|apply au|apply aj|apply aa|apply aq|apply av|refine z17 ?_|refine z21 ?_ (hc:=by apply w7)|refine z21 ?_ (hc:=by apply w8)|refine z1 ?_|refine z3 ?_|(refine z23 ?_ ?_ <;> intro hg)|(apply c7;exact rfl;all_goals intro hg))
     all_goals first
      | (exfalso;omega)
      | (refine cg rfl ?_;simp_all;done)
  ·rw [Bool.not_eq_true] at hv
   rw [hv] at w2 ⊢
   repeat' (first|refine z0 ?_|apply ag|refine z5 ?_|refine z10 ?_|apply ae|refine z16 ?_|refine z20 ?_|apply ah|apply aj|refine z18 ?_|refine z19 ?_|apply aa|apply av|apply br|refine z21 ?_ (hc:=by apply w1)|refine z21 ?_ (hc:=by apply w2)|refine z1 ?_|(refine z23 ?_ ?_ <;> intro hg)|fail)
   all_goals exact cg rfl (by simp_all)
 ·rw [Bool.not_eq_true] at hp
  rw [hp] at w1 ⊢
  rw [if_pos rfl]
  repeat' (first|refine z0 ?_|apply ag|apply ae|refine z16 ?_|apply ah|apply aj|refine z18 ?_|apply aa|apply av|apply br|refine z21 ?_ (hc:=by apply w1)|refine z1 ?_|fail)
  all_goals exact cg rfl rfl
set_option maxHeartbeats 8000000 in
theorem check_fn (p:Prg):Fn 23 [jl p] (fun x=>x = .d (.int .i64 (dh nameS p))):=by
 refine ak _ Tryz.func23 rfl rfl (by kernel_rfl) ?_
 intro O w0 E0 β0
 have la:(p.arity.map bi).length=p.arity.length:=List.length_map _
 have lb:(p.names.map encT).length=p.names.length:=List.length_map _
 have lc:(p.rules.map dx).length=p.rules.length:=List.length_map _
 refine dw_lenA 0 0 rfl rfl (fun hk=>?_)
 refine dw_lenA 0 2 rfl rfl (fun hk2=>?_)
 unfold dh
 by_cases h1:10 < p.arity.length∨12 < p.rules.length
 ·rw [if_pos h1]
  repeat' (first|refine z0 ?_|refine z12 ?_|apply ag|apply ae|refine z16 ?_|apply ah|apply ai|apply aj|refine z18 ?_|apply aa|apply av|apply bg|apply br|refine z1 ?_|(refine z23 ?_ ?_ <;> intro hg)|((fail_if_success (apply bk;exact rfl));apply bl;exact rfl;exact rfl;exact rfl;all_goals intro hg))
  all_goals first
   | (exfalso;omega)
   | exact cg rfl rfl
 ·rw [if_neg h1]
  by_cases h2:p.names.length≠p.arity.length
  ·rw [if_pos h2]
   repeat' (first|refine z0 ?_|refine z12 ?_|apply ag|apply ae|refine z16 ?_|apply ah|apply ai|apply aj|refine z18 ?_|apply aa|apply av|apply bg|apply br|refine z1 ?_|(refine z23 ?_ ?_ <;> intro hg)|((fail_if_success (apply bk;exact rfl));apply bl;exact rfl;exact rfl;exact rfl;all_goals intro hg))
   all_goals first
    | (exfalso;omega)
    | exact cg rfl rfl
  ·rw [if_neg h2]
   have w1:=preds_fn p (by omega)
   generalize firstI (nameE nameS p) 0 p.names.length=ne at w1 ⊢
   repeat' (first|refine z0 ?_|refine z12 ?_|apply ag|apply ae|refine z16 ?_|apply ah|apply ai|apply aj|refine z18 ?_|apply aa|apply av|apply bg|apply br|refine z21 ?_ (hc:=by apply w1)|refine z1 ?_|(refine z23 ?_ ?_ <;> intro hg)|((fail_if_success (apply bk;exact rfl));apply bl;exact rfl;exact rfl;exact rfl;all_goals intro hg))
   all_goals try (exfalso;omega)
   ·exact cg rfl (by rw [if_pos hg])
   rw [if_neg hg]
   refine bh (ι:=Nat) (fun i=>⟨1,[(1,.loc 0 0),(2,.d (.int .i64 0)),(32,.d (.slice 5 (p.rules.map dx))),(33,.d (.int .i64 (p.rules.map dx).length)),(34,.d (.int .i64 i))],[(0,prgB p)]⟩)
    (fun i=>i≤p.rules.length∧cu (ruleE p.arity) p.rules=cu (ruleE p.arity) (p.rules.drop i)) (fun i=>p.rules.length - i) 0 ⟨Nat.zero_le _,rfl⟩ (ap id ⟨rfl,rfl,rfl,rfl,rfl,trivial⟩ ⟨rfl,trivial⟩ rfl rfl rfl rfl rfl rfl) ?_
   rintro i ⟨g1,g2⟩
   by_cases hi:i < p.rules.length
   ·rw [firstL_step hi] at g2
    have w6:=rule_fn p p.rules[i]
    generalize ruleE p.arity p.rules[i]=le at w6 g2
    repeat' (first|refine z0 ?_|apply ag|apply ae|refine z16 ?_|apply ah|apply ai|apply au|apply aj|apply aa|apply aq|apply av|apply bg|apply br|refine z17 ?_|refine z21 ?_ (hc:=by apply w6)|refine z1 ?_|refine z3 ?_|(refine z23 ?_ ?_ <;> intro hg)|fail)
    all_goals first
     | (exfalso;omega)
     | (refine cg rfl ?_;rw [g2,if_pos (by assumption)];done)
     | exact⟨i + 1,⟨by omega,by rw [g2,if_neg (by assumption)]⟩,ap id ⟨rfl,rfl,rfl,rfl,rfl,trivial⟩ ⟨rfl,trivial⟩ rfl rfl rfl rfl rfl rfl,by show p.rules.length - (i + 1) < p.rules.length - i;omega⟩
   ·rw [firstL_end (by omega)] at g2
    repeat' (first|refine z0 ?_|apply ag|apply ae|refine z16 ?_|apply ah|apply ai|apply au|apply aj|apply aa|apply aq|refine z17 ?_|refine z1 ?_|refine z3 ?_|(refine z23 ?_ ?_ <;> intro hg)|fail)
    all_goals first
     | (exfalso;omega)
     | exact cg rfl g2.symm
def du (s:ByteArray):Bool:=isTok 1 s && !wordB s
abbrev litB (l:Ltl):HB:=.blk 74 [.d (.int .i64 l.kind),.d (.int .i64 l.op),.d (.int .i64 l.pred),.d (.slice 2 (l.terms.map bw))]
end Go.Proofs.YtapciiffpnociaaGreat
namespace Go.Proofs.YtapciiffpnociaaGreat
open Go Go.RowKit
section
variable {Γ : Ctx} {l : List Oper} {κ : Nat}
structure GoO (l:List Oper) (listed:Array Bool) (rem:List (Nat × Oper)):Prop where
 size:listed.size=l.length
 closed:∀ j o,l[j]? = some o→listed.getD j false=true→∀ e∈o.after,Region.binds .any e=true→listed.getD e.on false=true
 left:∀ q,q∈rem↔l[q.1]? = some q.2∧listed.getD q.1 true=false
 sorted:rem.Pairwise (fun p q=>p.1≠q.1∧edgeB l p.1 q.1=false)
theorem GoO.rest {listed:Array Bool} {rem pre post:List (Nat × Oper)} {i:Nat} {o:Oper} (g:GoO l listed rem) (hr:i∈Region.ready .any l.toArray listed) (he:rem=pre++(i,o)::post) (hi:l[i]? = some o):GoO l (listed.setIfInBounds i true) (pre++post) where
 size:=by simp [g.size]
 closed j oj hj hl e he' hb:=by
  have key:∀ x,listed.getD x false=true→(listed.setIfInBounds i true).getD x false=true:=by
   intro x hx
   by_cases hix:i=x
   ·subst hix
    have:i < listed.size:=by rw [g.size];exact cz hi
    simp [this]
   ·rw [getD_set_ne false hix];exact hx
  by_cases hij:i=j
  ·subst hij
   obtain⟨_,o',ho',hall⟩:=mem_ready.1 hr
   have ho2:l[i]? = some o':=by simpa using ho'
   rw [hj] at ho2
   cases ho2
   exact key _ (hall e he' hb)
  ·rw [getD_set_ne false hij] at hl
   exact key _ (g.closed j oj hj hl e he' hb)
 left q:=by
  have hs:=g.sorted
  rw [he] at hs
  have hne:∀ q∈pre++post,q.1≠i:=by
   intro q hq hqi
   rw [List.pairwise_append] at hs
   obtain⟨_,h2,h3⟩:=hs
   rcases List.mem_append.1 hq with h|h
   ·exact (h3 q h (i,o) (List.mem_cons_self ..)).1 hqi
   ·exact ((List.pairwise_cons.1 h2).1 q h).1 hqi.symm
  constructor
  ·intro hq
   have h1:q∈rem:=by rw [he];rcases List.mem_append.1 hq with h|h <;> simp [h]
   obtain⟨a,b⟩:=(g.left q).1 h1
   exact⟨a,by rw [getD_set_ne true (Ne.symm (hne q hq))];exact b⟩
  ·rintro⟨a,b⟩
   have hqi:i≠q.1:=by
    intro h
    have:i < listed.size:=by rw [g.size];exact cz hi
    rw [← h] at b
    simp [this] at b
   rw [getD_set_ne true hqi] at b
   have h1:=(g.left q).2 ⟨a,b⟩
   rw [he] at h1
   simp only [List.mem_append,List.mem_cons] at h1 ⊢
   rcases h1 with h|h|h
   ·exact .inl h
   ·exact absurd (by rw [h]) hqi
   ·exact .inr h
 sorted:=by
  have hs:=g.sorted
  rw [he] at hs
  exact hs.sublist (List.Sublist.append (List.Sublist.refl _) (List.sublist_cons_self _ _))
end
abbrev RE:=List (Option Int)
def vOf (e:RE) (t:Trm):Option Int:=if t.var < 0 then some t.n else e.getD t.var.toNat none
def vA (a:List Int) (t:Trm):Int:=if t.var < 0 then t.n else a.getD t.var.toNat 0
def da (e:RE):List Bool:=e.map Option.isSome
def cx (e:RE):List Int:=e.map fun x=>x.getD 0
def jk (e:RE) (a:List Int):Prop:=a.length=e.length∧∀ (v:Nat) (x:Int),e[v]? = some (some x)→a[v]? = some x
def di:RE→List Trm→List Int→Option RE
 | e,t::ts,n::ns=>match vOf e t with
  | some x=>if x=n then di e ts ns else none
  | none=>di (e.set t.var.toNat (some n)) ts ns
 | e,_,_=>some e
theorem ew (e:RE):(da e).length=e.length:=List.length_map _
theorem j9 (e:RE):(cx e).length=e.length:=List.length_map _
theorem isT_hasE (e:RE) (t:Trm):isT (da e) t=(vOf e t).isSome:=by
 unfold isT vOf da
 by_cases h:t.var < 0
 ·simp [h]
 ·simp only [h,decide_false,Bool.false_or,if_false,List.getD,List.getElem?_map]
  cases e[t.var.toNat]? <;> rfl
theorem vOf_out {e:RE} {t:Trm} {x:Int} (h:vOf e t=some x):vA (cx e) t=x:=by
 unfold vOf at h
 unfold vA cx
 by_cases hv:t.var < 0
 ·simp [hv] at h ⊢;exact h
 ·simp only [hv,if_false,List.getD,List.getElem?_map] at h ⊢
  cases he:e[t.var.toNat]? with
  | none=>rw [he] at h;simp at h
  | some y=>rw [he] at h;simp at h;subst h;rfl
theorem vOf_ext {e:RE} {a:List Int} {t:Trm} {x:Int} (h:jk e a) (hx:vOf e t=some x):vA a t=x:=by
 unfold vOf at hx
 unfold vA
 by_cases hv:t.var < 0
 ·simp [hv] at hx ⊢;exact hx
 ·simp only [hv,if_false,List.getD] at hx ⊢
  cases he:e[t.var.toNat]? with
  | none=>rw [he] at hx;simp at hx
  | some y =>
   rw [he] at hx
   simp at hx
   subst hx
   rw [h.2 _ _ he];rfl
theorem vA_same {e:RE} {a:List Int} {t:Trm} (h:jk e a) (hx:(vOf e t).isSome=true):vA a t=vA (cx e) t:=by
 obtain⟨x,hx⟩:=Option.isSome_iff_exists.1 hx
 rw [vOf_ext h hx,vOf_out hx]
theorem set_ext' {e:RE} {a:List Int} {t:Trm} {n:Int} (ho:okT e.length t) (hn:vOf e t=none):jk (e.set t.var.toNat (some n)) a↔jk e a∧vA a t=n:=by
 unfold vOf at hn
 unfold okT at ho
 have hv:¬ t.var < 0:=fun h=>by simp [h] at hn
 simp only [hv,if_false,List.getD] at hn
 have hlt:t.var.toNat < e.length:=by omega
 have he:e[t.var.toNat]? = some none:=by
  rw [List.getElem?_eq_getElem hlt] at hn ⊢
  simpa using hn
 unfold jk vA
 rw [List.length_set]
 simp only [hv,if_false]
 constructor
 ·rintro⟨h1,h2⟩
  have h3:=h2 t.var.toNat n (by rw [List.getElem?_set_self hlt])
  refine⟨⟨h1,fun v x hx=>?_⟩,by rw [List.getD,h3];rfl⟩
  by_cases hq:t.var.toNat=v
  ·subst hq;rw [he] at hx;cases hx
  ·exact h2 v x (by rw [List.getElem?_set_ne hq];exact hx)
 ·rintro⟨⟨h1,h2⟩,h3⟩
  refine⟨h1,fun v x hx=>?_⟩
  by_cases hq:t.var.toNat=v
  ·subst hq
   rw [List.getElem?_set_self hlt] at hx
   simp at hx
   subst hx
   rw [List.getD,List.getElem?_eq_getElem (by omega)] at h3
   rw [List.getElem?_eq_getElem (by omega)]
   simpa using h3
  ·exact h2 v x (by rw [List.getElem?_set_ne hq] at hx;exact hx)
theorem set_has {e:RE} {t:Trm} {n:Int} (hn:vOf e t=none):da (e.set t.var.toNat (some n))=ki (da e) t:=by
 have hv:¬ t.var < 0:=fun h=>by unfold vOf at hn;simp [h] at hn
 unfold da ki
 rw [if_neg hv,List.map_set];rfl
theorem fk:∀ {ts:List Trm} {ns:List Int} {e e':RE},ts.length=ns.length→(∀ t∈ts,okT e.length t)→di e ts ns=some e' →
  e'.length=e.length∧(∀ a,jk e' a↔jk e a∧ts.map (vA a)=ns)∧da e' = ts.foldl ki (da e)
 | [],[],e,e',_,_,h=>by
  simp only [di,Option.some.injEq] at h
  subst h
  exact⟨rfl,fun a=>by simp,rfl⟩
 | t::ts,n::ns,e,e',hl,ho,h=>by
  have hl':ts.length=ns.length:=by simpa using hl
  rw [di] at h
  cases hv:vOf e t with
  | some x =>
   rw [hv] at h
   simp only at h
   split at h
   ·rename_i hx
    subst hx
    obtain⟨h1,h2,h3⟩:=fk hl' (fun y hy=>ho y (List.mem_cons_of_mem _ hy)) h
    refine⟨h1,fun a=>?_,?_⟩
    ·rw [h2,List.map_cons,List.cons.injEq]
     exact⟨fun⟨g1,g2⟩=>⟨g1,vOf_ext g1 hv,g2⟩,fun⟨g1,_,g2⟩=>⟨g1,g2⟩⟩
    ·rw [h3,List.foldl_cons,setT_same (by rw [isT_hasE,hv];rfl)]
   ·cases h
  | none =>
   rw [hv] at h
   simp only at h
   obtain⟨h1,h2,h3⟩:=fk hl' (fun y hy=>by rw [List.length_set];exact ho y (List.mem_cons_of_mem _ hy)) h
   refine⟨by rw [h1,List.length_set],fun a=>?_,?_⟩
   ·rw [h2,set_ext' (ho t (List.mem_cons_self ..)) hv,List.map_cons,List.cons.injEq,and_assoc]
   ·rw [h3,List.foldl_cons,set_has hv]
 | [],_::_,_,_,hl,_,_=>by simp at hl
 | _::_,[],_,_,hl,_,_=>by simp at hl
theorem matchE_none:∀ {ts:List Trm} {ns:List Int} {e:RE},ts.length=ns.length→(∀ t∈ts,okT e.length t)→di e ts ns=none→∀ a,jk e a→ts.map (vA a)≠ns
 | [],[],e,_,_,h,_,_=>by simp [di] at h
 | t::ts,n::ns,e,hl,ho,h,a,ha=>by
  have hl':ts.length=ns.length:=by simpa using hl
  rw [di] at h
  intro hm
  rw [List.map_cons,List.cons.injEq] at hm
  cases hv:vOf e t with
  | some x =>
   rw [hv] at h
   simp only at h
   split at h
   ·exact matchE_none hl' (fun y hy=>ho y (List.mem_cons_of_mem _ hy)) h a ha hm.2
   ·rename_i hx
    exact hx ((vOf_ext ha hv).symm.trans hm.1)
  | none =>
   rw [hv] at h
   simp only at h
   exact matchE_none hl' (fun y hy=>by rw [List.length_set];exact ho y (List.mem_cons_of_mem _ hy)) h a ((set_ext' (ho t (List.mem_cons_self ..)) hv).2 ⟨ha,hm.1⟩) hm.2
 | [],_::_,_,hl,_,_,_,_=>by simp at hl
 | _::_,[],_,hl,_,_,_,_=>by simp at hl
def testE (op a b:Int):Bool:=if op=1 then decide (a < b) else if op=2 then decide (a≤b) else if op=3 then decide (a=b) else decide (a≠b)
def calcE (op a b:Int):Int:=if op=5 then a + b else if op=6 then a - b else a * b
def ju (l:Ltl) (a:List Int):Int:=calcE l.op ((l.terms.map (vA a)).getD 0 0) ((l.terms.map (vA a)).getD 1 0)
def holdE (S:List Fct) (l:Ltl) (a:List Int):Bool :=
 if l.kind=1 then hasF S ⟨l.pred,l.terms.map (vA a)⟩
 else if l.kind=2 then !hasF S ⟨l.pred,l.terms.map (vA a)⟩
 else if l.kind=3 then testE l.op ((l.terms.map (vA a)).getD 0 0) ((l.terms.map (vA a)).getD 1 0)
 else numB (ju l a) && decide (ju l a=(l.terms.map (vA a)).getD 2 0)
theorem map_same {e:RE} {a:List Int} (h:jk e a) {ts:List Trm} (hr:∀ t∈ts,(vOf e t).isSome=true):ts.map (vA a)=ts.map (vA (cx e)) :=
 List.map_congr_left fun t ht=>vA_same h (hr t ht)
theorem holdE_same {S:List Fct} {l:Ltl} {e:RE} {a:List Int} (h:jk e a) (hr:∀ t∈l.terms,(vOf e t).isSome=true):holdE S l a=holdE S l (cx e):=by
 unfold holdE ju
 rw [map_same h hr]
structure okL (S:List Fct) (v:Nat) (l:Ltl):Prop where
 kind:1≤l.kind∧l.kind≤4
 terms:∀ t∈l.terms,okT v t
 test2:l.kind=3→l.terms.length=2
 calc3:l.kind=4→l.terms.length=3
 facts:l.kind=1→∀ x∈S,x.pred=l.pred→x.args.length=l.terms.length
def closedB (body:List Ltl) (bs:List Bool):Prop:=∀ l∈body,cy bs l=true→∀ t∈dz l,isT bs t=true
def Bd (body:List Ltl) (bs:List Bool):Prop:=∀ cs,leB bs cs→closedB body cs→∀ v,v < cs.length→cs.getD v false=true
theorem full_out {e:RE} (h:∀ v,v < (da e).length→(da e).getD v false=true) (a:List Int):jk e a↔a=cx e:=by
 rw [ew] at h
 have he:∀ v,v < e.length→∃ x,e[v]? = some (some x):=fun v hv=>by
  have:=h v hv
  unfold da at this
  rw [List.getD,List.getElem?_map,List.getElem?_eq_getElem hv] at this
  simp at this
  obtain⟨x,hx⟩:=Option.isSome_iff_exists.1 this
  exact⟨x,by rw [List.getElem?_eq_getElem hv,hx]⟩
 constructor
 ·rintro⟨h1,h2⟩
  refine List.ext_getElem? fun v=>?_
  by_cases hv:v < e.length
  ·obtain⟨x,hx⟩:=he v hv
   rw [h2 v x hx]
   unfold cx
   rw [List.getElem?_map,hx];rfl
  ·rw [List.getElem?_eq_none (by omega),List.getElem?_eq_none (by rw [j9];omega)]
 ·rintro rfl
  refine⟨j9 e,fun v x hx=>?_⟩
  unfold cx
  rw [List.getElem?_map,hx];rfl
theorem full_some {e:RE} (h:∀ v,v < (da e).length→(da e).getD v false=true) {t:Trm} (ho:okT e.length t):(vOf e t).isSome=true:=by
 rw [← isT_hasE]
 unfold isT
 unfold okT at ho
 by_cases hv:t.var < 0
 ·rw [decide_eq_true hv];rfl
 ·rw [h _ (by rw [ew];omega),Bool.or_true]
theorem numB_iff {n:Int}:numB n=true↔-1000000≤n∧n≤1000000:=by unfold numB inR;simp
attribute [local irreducible] DW DS DL DQ Ev FnOk FnP em b9 DT
def needT (l:Ltl):List Trm:=if l.kind=4 then l.terms.take 2 else l.terms
def rdyL (e:RE) (l:Ltl):Bool:=(needT l).all fun t=>(vOf e t).isSome
def eu (e:RE) (left:List Ltl):Nat:=if left.findIdx (rdyL e) < left.length then left.findIdx (rdyL e) else left.findIdx fun l=>decide (l.kind=1)
def litW (S:List Fct) (go:RE→List (List Int)) (l:Ltl) (e:RE):List (List Int) :=
 if l.kind=1 then S.flatMap fun x=>if x.pred=l.pred then (match di e l.terms x.args with|some e'=>go e'|none=>[]) else []
 else if l.kind=4 then (if numB (ju l (cx e)) then (match di e (l.terms.drop 2) [ju l (cx e)] with|some e'=>go e'|none=>[]) else [])
 else if holdE S l (cx e) then go e else []
def gz (S:List Fct):Nat→List Ltl→RE→List (List Int)
 | _,[],e=>[cx e]
 | 0,_::_,_=>[]
 | k + 1,l0::ls,e=>match (l0::ls)[eu e (l0::ls)]? with
  | none=>[]
  | some l=>litW S (gz S k ((l0::ls).eraseIdx (eu e (l0::ls)))) l e
theorem mem_erase {α:Type} {l:List α} {i:Nat} (h:i < l.length) (x:α):x∈l↔x=l[i]∨x∈l.eraseIdx i:=by
 rw [List.mem_eraseIdx_iff_getElem]
 constructor
 ·intro hx
  obtain⟨j,hj,rfl⟩:=List.mem_iff_getElem.1 hx
  by_cases hq:j=i
  ·subst hq;exact .inl rfl
  ·exact .inr ⟨j,hj,hq,rfl⟩
 ·rintro (rfl|⟨j,hj,_,rfl⟩)
  ·exact List.getElem_mem h
  ·exact List.getElem_mem hj
theorem next_lt {S:List Fct} {e:RE} {left:List Ltl} (h0:left≠[]) (hok:∀ l∈left,okL S e.length l) (hB:Bd left (da e)):eu e left < left.length:=by
 unfold eu
 split
 ·assumption
 ·rename_i h1
  refine List.findIdx_lt_length_of_exists ?_
  apply Classical.byContradiction
  intro h2
  have h1':∀ l∈left,rdyL e l=false:=by
   intro l hl
   cases h:rdyL e l with
   | false=>rfl
   | true=>exact absurd (List.findIdx_lt_length_of_exists ⟨l,hl,h⟩) h1
  have hcl:closedB left (da e):=by
   intro l hl hf
   exfalso
   unfold cy at hf
   rw [Bool.or_eq_true,Bool.and_eq_true] at hf
   rcases hf with hf|⟨hf,hg⟩
   ·exact h2 ⟨l,hl,hf⟩
   ·have:=h1' l hl
    unfold rdyL needT at this
    rw [if_pos (of_decide_eq_true hf)] at this
    have hg':(l.terms.take 2).all (fun t=>(vOf e t).isSome)=true:=by
     rw [List.all_eq_true] at hg ⊢
     intro t ht
     rw [← isT_hasE];exact hg t ht
    rw [hg'] at this;cases this
  have hfull:=hB _ (leB.refl _) hcl
  obtain⟨l,hl⟩:=List.exists_mem_of_ne_nil left h0
  have:=h1' l hl
  unfold rdyL at this
  have hall:(needT l).all (fun t=>(vOf e t).isSome)=true:=by
   rw [List.all_eq_true]
   intro t ht
   refine full_some hfull ((hok l hl).terms t ?_)
   unfold needT at ht
   split at ht
   ·exact List.mem_of_mem_take ht
   ·exact ht
  rw [hall] at this;cases this
theorem next_is {e:RE} {left:List Ltl} (h:eu e left < left.length):rdyL e (left[eu e left])=true∨(left[eu e left]).kind=1:=by
 unfold eu at h ⊢
 split
 ·left;exact List.findIdx_getElem
 ·rename_i h1
  rw [if_neg h1] at h
  right
  have:=List.findIdx_getElem (xs:=left) (p:=fun l=>decide (l.kind=1)) (w:=h)
  exact of_decide_eq_true this
theorem Bd_rest {left:List Ltl} {i:Nat} (hi:i < left.length) {bs cs:List Bool} (hB:Bd left bs) (hle:leB bs cs) (hd:(∀ t∈dz left[i],isT cs t=true)∨∀ ds,cy ds left[i]=false):Bd (left.eraseIdx i) cs:=by
 intro ds h1 h2
 refine hB ds (hle.trans h1) fun l hl hf t ht=>?_
 rcases (mem_erase hi l).1 hl with rfl|hl
 ·rcases hd with hd|hd
  ·exact isT_mono h1 (hd t ht)
  ·rw [hd ds] at hf;cases hf
 ·exact h2 l hl hf t ht
theorem holdE_calc {S:List Fct} {l:Ltl} {a:List Int} (h4:l.kind=4) (h3:l.terms.length=3):holdE S l a=true↔numB (ju l a)=true∧(l.terms.drop 2).map (vA a)=[ju l a]:=by
 unfold holdE
 rw [if_neg (by omega),if_neg (by omega),if_neg (by omega),Bool.and_eq_true,decide_eq_true_eq]
 match hl:l.terms,h3 with
 | [t1,t2,t3],_ =>
  simp only [List.map_cons,List.map_nil,List.drop_succ_cons,List.drop_zero,List.getD_cons_succ,List.getD_cons_zero,List.cons.injEq,and_true]
  exact and_congr Iff.rfl eq_comm
theorem calcL_same {l:Ltl} {e:RE} {a:List Int} (h:jk e a) (h3:l.terms.length=3) (hr:∀ t∈l.terms.take 2,(vOf e t).isSome=true):ju l a=ju l (cx e):=by
 unfold ju
 match hl:l.terms,h3 with
 | [t1,t2,t3],_ =>
  rw [hl] at hr
  simp only [List.map_cons,List.getD_cons_zero,List.getD_cons_succ]
  rw [vA_same h (hr t1 (by simp)),vA_same h (hr t2 (by simp))]
theorem litW_mem {S:List Fct} {go:RE→List (List Int)} {l:Ltl} {e:RE} (hok:okL S e.length l) (hr:rdyL e l=true∨l.kind=1) (a:List Int) {P:List Int→Prop}
  (hgo:∀ e',e'.length=e.length→leB (da e) (da e')→((∀ t∈dz l,isT (da e') t=true)∨∀ ds,cy ds l=false)→(a∈go e'↔jk e' a∧P a)) :
  a∈litW S go l e↔(jk e a∧holdE S l a=true)∧P a:=by
 unfold litW
 by_cases h1:l.kind=1
 ·rw [if_pos h1,List.mem_flatMap]
  have hlit:dz l=l.terms:=by unfold dz;rw [if_pos h1]
  have hho:holdE S l a=true↔(⟨l.pred,l.terms.map (vA a)⟩:Fct)∈S:=by unfold holdE;rw [if_pos h1,hasF_iff]
  constructor
  ·rintro⟨x,hx,ha⟩
   split at ha
   ·rename_i hp
    have hlen:=(hok.facts h1 x hx hp).symm
    split at ha
    ·rename_i e' he'
     obtain⟨g1,g2,g3⟩:=fk hlen hok.terms he'
     have g4:=(hgo e' g1 (by rw [g3];exact j7 _ _) (.inl (by rw [hlit,g3];exact lk (by rw [ew];exact hok.terms)))).1 ha
     obtain⟨g5,g6⟩:=(g2 a).1 g4.1
     refine⟨⟨g5,hho.2 ?_⟩,g4.2⟩
     rw [g6,← hp];exact hx
    ·simp at ha
   ·simp at ha
  ·rintro⟨⟨ha,hh⟩,hP⟩
   refine⟨_,hho.1 hh,?_⟩
   rw [if_pos rfl]
   have hlen:l.terms.length=(l.terms.map (vA a)).length:=(List.length_map _).symm
   cases he':di e l.terms (l.terms.map (vA a)) with
   | none=>exact absurd rfl (matchE_none hlen hok.terms he' a ha)
   | some e' =>
    obtain⟨g1,g2,g3⟩:=fk hlen hok.terms he'
    exact (hgo e' g1 (by rw [g3];exact j7 _ _) (.inl (by rw [hlit,g3];exact lk (by rw [ew];exact hok.terms)))).2 ⟨(g2 a).2 ⟨ha,rfl⟩,hP⟩
 ·rw [if_neg h1]
  have hr:=hr.resolve_right h1
  unfold rdyL needT at hr
  by_cases h4:l.kind=4
  ·rw [if_pos h4] at hr ⊢
   have h3:=hok.calc3 h4
   have hr':∀ t∈l.terms.take 2,(vOf e t).isSome=true:=List.all_eq_true.1 hr
   have hdl:(l.terms.drop 2).length=[ju l (cx e)].length:=by rw [List.length_drop,h3];rfl
   have hdo:∀ t∈l.terms.drop 2,okT e.length t:=fun t ht=>hok.terms t (List.mem_of_mem_drop ht)
   have hlit:dz l=l.terms.drop 2:=by unfold dz;rw [if_neg h1]
   rw [holdE_calc h4 h3]
   constructor
   ·intro ha
    split at ha
    ·rename_i hn
     split at ha
     ·rename_i e' he'
      obtain⟨g1,g2,g3⟩:=fk hdl hdo he'
      have g4:=(hgo e' g1 (by rw [g3];exact j7 _ _) (.inl (by rw [hlit,g3];exact lk (by rw [ew];exact hdo)))).1 ha
      obtain⟨g5,g6⟩:=(g2 a).1 g4.1
      rw [calcL_same g5 h3 hr']
      exact⟨⟨g5,hn,g6⟩,g4.2⟩
     ·simp at ha
    ·simp at ha
   ·rintro⟨⟨ha,hn,hm⟩,hP⟩
    rw [calcL_same ha h3 hr'] at hn hm
    rw [if_pos hn]
    cases he':di e (l.terms.drop 2) [ju l (cx e)] with
    | none=>exact absurd hm (matchE_none hdl hdo he' a ha)
    | some e' =>
     obtain⟨g1,g2,g3⟩:=fk hdl hdo he'
     exact (hgo e' g1 (by rw [g3];exact j7 _ _) (.inl (by rw [hlit,g3];exact lk (by rw [ew];exact hdo)))).2 ⟨(g2 a).2 ⟨ha,hm⟩,hP⟩
  ·rw [if_neg h4] at hr ⊢
   have hr':∀ t∈l.terms,(vOf e t).isSome=true:=List.all_eq_true.1 hr
   have hnf:∀ ds,cy ds l=false:=fun ds=>by unfold cy;rw [decide_eq_false h1,decide_eq_false h4];rfl
   have hg:=hgo e rfl (leB.refl _) (.inr hnf)
   constructor
   ·intro ha
    split at ha
    ·rename_i hh
     obtain⟨g1,g2⟩:=hg.1 ha
     exact⟨⟨g1,by rw [holdE_same g1 hr'];exact hh⟩,g2⟩
    ·simp at ha
   ·rintro⟨⟨ha,hh⟩,hP⟩
    rw [if_pos (by rw [← holdE_same ha hr'];exact hh)]
    exact hg.2 ⟨ha,hP⟩
theorem findE_mem (S:List Fct):∀ (k:Nat) (left:List Ltl) (e:RE),left.length≤k→(∀ l∈left,okL S e.length l)→Bd left (da e)→∀ a,a∈gz S k left e↔jk e a∧∀ l∈left,holdE S l a=true
 | k,[],e,_,_,hB,a=>by
  have h:gz S k [] e=[cx e]:=by cases k <;> rfl
  rw [h,List.mem_singleton,full_out (hB _ (leB.refl _) (by intro l hl;simp at hl))]
  simp
 | 0,_::_,_,hk,_,_,_=>by simp at hk
 | k + 1,l0::ls,e,hk,hok,hB,a=>by
  have hlt:=next_lt (by simp) hok hB
  have hnx:=next_is hlt
  rw [gz]
  generalize hi:eu e (l0::ls)=i at hlt hnx
  rw [List.getElem?_eq_getElem hlt]
  generalize hL:l0::ls=left at *
  have hlen:(left.eraseIdx i).length≤k:=by rw [List.length_eraseIdx,if_pos hlt];omega
  have hsub:∀ l∈left.eraseIdx i,l∈left:=fun l hl=>(mem_erase hlt l).2 (.inr hl)
  simp only
  rw [litW_mem (P:=fun a=>∀ l∈left.eraseIdx i,holdE S l a=true) (hok _ (List.getElem_mem hlt)) hnx a fun e' g1 g2 g3=>findE_mem S k (left.eraseIdx i) e' hlen (fun l hl=>by rw [g1];exact hok l (hsub l hl)) (Bd_rest hlt hB g2 g3) a]
  constructor
  ·rintro⟨⟨g1,g2⟩,g3⟩
   exact⟨g1,fun l hl=>((mem_erase hlt l).1 hl).elim (fun h=>h▸g2) (g3 l)⟩
  ·rintro⟨g1,g2⟩
   exact⟨⟨g1,g2 _ (List.getElem_mem hlt)⟩,fun l hl=>g2 l (hsub l hl)⟩
theorem litW_nodup {S:List Fct} {go:RE→List (List Int)} {l:Ltl} {e:RE} (hS:S.Nodup) (hok:okL S e.length l) (hgo:∀ e',e'.length=e.length→leB (da e) (da e')→((∀ t∈dz l,isT (da e') t=true)∨∀ ds,cy ds l=false)→(go e').Nodup∧∀ a∈go e',jk e' a):(litW S go l e).Nodup:=by
 unfold litW
 by_cases h1:l.kind=1
 ·rw [if_pos h1]
  have hlit:dz l=l.terms:=by unfold dz;rw [if_pos h1]
  have key:∀ x∈S,x.pred=l.pred→∀ e',di e l.terms x.args=some e'→(go e').Nodup∧∀ a∈go e',l.terms.map (vA a)=x.args:=by
   intro x hx hp e' he'
   obtain⟨g1,g2,g3⟩:=fk (hok.facts h1 x hx hp).symm hok.terms he'
   obtain⟨g4,g5⟩:=hgo e' g1 (by rw [g3];exact j7 _ _) (.inl (by rw [hlit,g3];exact lk (by rw [ew];exact hok.terms)))
   exact⟨g4,fun a ha=>((g2 a).1 (g5 a ha)).2⟩
  refine List.pairwise_flatMap.2 ⟨fun x hx=>?_,hS.imp_of_mem fun {x y} hx hy hne u hu v hv=>?_⟩
  ·split
   ·rename_i hp
    split
    ·rename_i e' he';exact (key x hx hp e' he').1
    ·exact .nil
   ·exact .nil
  ·rintro rfl
   split at hu
   ·rename_i hp
    split at hu
    ·rename_i e' he'
     split at hv
     ·rename_i hq
      split at hv
      ·rename_i f' hf'
       have g1:=(key x hx hp e' he').2 u hu
       have g2:=(key y hy hq f' hf').2 u hv
       apply hne
       obtain⟨xp,xa⟩:=x
       obtain⟨yp,ya⟩:=y
       simp only at hp hq g1 g2
       rw [hp,hq,← g1,← g2]
      ·simp at hv
     ·simp at hv
    ·simp at hu
   ·simp at hu
 ·rw [if_neg h1]
  by_cases h4:l.kind=4
  ·rw [if_pos h4]
   have h3:=hok.calc3 h4
   have hdl:(l.terms.drop 2).length=[ju l (cx e)].length:=by rw [List.length_drop,h3];rfl
   have hdo:∀ t∈l.terms.drop 2,okT e.length t:=fun t ht=>hok.terms t (List.mem_of_mem_drop ht)
   have hlit:dz l=l.terms.drop 2:=by unfold dz;rw [if_neg h1]
   split
   ·split
    ·rename_i e' he'
     obtain⟨g1,g2,g3⟩:=fk hdl hdo he'
     exact (hgo e' g1 (by rw [g3];exact j7 _ _) (.inl (by rw [hlit,g3];exact lk (by rw [ew];exact hdo)))).1
    ·exact .nil
   ·exact .nil
  ·rw [if_neg h4]
   have hnf:∀ ds,cy ds l=false:=fun ds=>by unfold cy;rw [decide_eq_false h1,decide_eq_false h4];rfl
   split
   ·exact (hgo e rfl (leB.refl _) (.inr hnf)).1
   ·exact .nil
theorem findE_nodup (S:List Fct) (hS:S.Nodup):∀ (k:Nat) (left:List Ltl) (e:RE),left.length≤k→(∀ l∈left,okL S e.length l)→Bd left (da e)→(gz S k left e).Nodup
 | k,[],e,_,_,_=>by
  have h:gz S k [] e=[cx e]:=by cases k <;> rfl
  rw [h];exact List.nodup_cons.2 ⟨by simp,.nil⟩
 | 0,_::_,_,hk,_,_=>by simp at hk
 | k + 1,l0::ls,e,hk,hok,hB=>by
  have hlt:=next_lt (by simp) hok hB
  rw [gz]
  generalize hi:eu e (l0::ls)=i at hlt
  rw [List.getElem?_eq_getElem hlt]
  generalize hL:l0::ls=left at *
  have hlen:(left.eraseIdx i).length≤k:=by rw [List.length_eraseIdx,if_pos hlt];omega
  have hsub:∀ l∈left.eraseIdx i,l∈left:=fun l hl=>(mem_erase hlt l).2 (.inr hl)
  exact litW_nodup hS (hok _ (List.getElem_mem hlt)) fun e' g1 g2 g3=>⟨findE_nodup S hS k _ e' hlen (fun l hl=>by rw [g1];exact hok l (hsub l hl)) (Bd_rest hlt hB g2 g3),
   fun a ha=>((findE_mem S k _ e' hlen (fun l hl=>by rw [g1];exact hok l (hsub l hl)) (Bd_rest hlt hB g2 g3) a).1 ha).1⟩

def recL (e:RE) (l:Ltl):Option RE :=
 if l.kind=4∧(l.terms.take 2).all (fun t=>(vOf e t).isSome)=true∧(l.terms.drop 2).all (fun t=>(vOf e t).isSome)=false then
  (if numB (ju l (cx e)) then some ((l.terms.drop 2).foldl (fun e t=>e.set t.var.toNat (some (ju l (cx e)))) e) else none)
 else some e
def recP (body:List Ltl) (e:RE):Option RE:=body.foldlM recL e
def recN (body:List Ltl):Nat→RE→Option RE
 | 0,e=>some e
 | n + 1,e=>(recP body e).bind (recN body n)
def wrongE (S:List Fct) (body:List Ltl) (e:RE):Bool:=body.any fun l=>l.terms.all (fun t=>(vOf e t).isSome) && !holdE S l (cx e)
def ij (S:List Fct) (body:List Ltl):List Ltl→RE→List (List Int)
 | [],e=>match recN body (body.length + 1) e with
  | none=>[]
  | some e'=>if wrongE S body e' then [] else [cx e']
 | l::ys,e=>match recN body (body.length + 1) e with
  | none=>[]
  | some e'=>if wrongE S body e' then [] else litW S (ij S body ys) l e'
theorem drop2 {l:Ltl} (h3:l.terms.length=3):∃ t1 t2 t3,l.terms=[t1,t2,t3]:=by
 match h:l.terms,h3 with
 | [t1,t2,t3],_=>exact⟨t1,t2,t3,rfl⟩
theorem recL_some {S:List Fct} {e e':RE} {l:Ltl} (hok:okL S e.length l) (h:recL e l=some e') :
  e'.length=e.length∧(∀ a,holdE S l a=true→(jk e' a↔jk e a))∧da e' = (if l.kind=4 then bLit (da e) l else da e)∧∀ a,jk e' a→jk e a:=by
 unfold recL at h
 by_cases h4:l.kind=4
 ·have h3:=hok.calc3 h4
  obtain⟨t1,t2,t3,hT⟩:=drop2 h3
  have o3:okT e.length t3:=hok.terms t3 (by rw [hT];simp)
  have hdr:l.terms.drop 2=[t3]:=by rw [hT];rfl
  have hlit:dz l=[t3]:=by unfold dz;rw [if_neg (by omega),hdr]
  rw [if_pos h4]
  by_cases h12:(l.terms.take 2).all (fun t=>(vOf e t).isSome)=true
  ·have hfire:cy (da e) l=true:=by
    unfold cy
    rw [decide_eq_true h4,Bool.true_and,Bool.or_eq_true]
    right
    rw [List.all_eq_true] at h12 ⊢
    intro t ht
    rw [isT_hasE];exact h12 t ht
   have hbl:bLit (da e) l=ki (da e) t3:=by unfold bLit;rw [if_pos hfire,hlit];rfl
   cases hv:vOf e t3 with
   | some x =>
    rw [if_neg (by rw [hdr];simp [hv])] at h
    simp only [Option.some.injEq] at h
    subst h
    exact⟨rfl,fun a _=>Iff.rfl,by rw [hbl,setT_same (by rw [isT_hasE,hv];rfl)],fun a ha=>ha⟩
   | none =>
    rw [if_pos ⟨h4,h12,by rw [hdr];simp [hv]⟩] at h
    split at h
    ·rw [hdr] at h
     simp only [List.foldl_cons,List.foldl_nil,Option.some.injEq] at h
     subst h
     have hx:=fun a=>set_ext' (a:=a) (n:=ju l (cx e)) o3 hv
     refine⟨List.length_set ..,fun a ha=>?_,by rw [set_has hv,hbl],fun a ha=>((hx a).1 ha).1⟩
     rw [hx a]
     refine⟨fun g=>g.1,fun g=>⟨g,?_⟩⟩
     have:=((holdE_calc h4 h3).1 ha).2
     rw [hdr,calcL_same g h3 (List.all_eq_true.1 h12)] at this
     simpa using this
    ·cases h
  ·rw [if_neg (by rintro⟨_,g,_⟩;exact h12 g)] at h
   simp only [Option.some.injEq] at h
   subst h
   refine⟨rfl,fun a _=>Iff.rfl,?_,fun a ha=>ha⟩
   have hnf:¬ cy (da e) l=true:=by
    unfold cy
    rw [decide_eq_false (by omega),Bool.false_or,Bool.and_eq_true]
    rintro⟨_,g⟩
    apply h12
    rw [List.all_eq_true] at g ⊢
    intro t ht
    rw [← isT_hasE];exact g t ht
   unfold bLit;rw [if_neg hnf]
 ·rw [if_neg (by rintro⟨g,_⟩;exact h4 g)] at h
  simp only [Option.some.injEq] at h
  subst h
  rw [if_neg h4]
  exact⟨rfl,fun a _=>Iff.rfl,rfl,fun a ha=>ha⟩
theorem recL_none {S:List Fct} {e:RE} {l:Ltl} (hok:okL S e.length l) (h:recL e l=none) (a:List Int) (ha:jk e a):holdE S l a=false:=by
 unfold recL at h
 split at h
 ·rename_i hc
  obtain⟨h4,h12,_⟩:=hc
  split at h
  ·cases h
  ·rename_i hn
   have h3:=hok.calc3 h4
   cases hh:holdE S l a with
   | false=>rfl
   | true =>
    have:=((holdE_calc h4 h3).1 hh).1
    rw [calcL_same ha h3 (List.all_eq_true.1 h12)] at this
    exact absurd this hn
 ·cases h
def calcs (body:List Ltl):List Ltl:=body.filter fun l=>decide (l.kind=4)
theorem calcs_round (l:Ltl) (body:List Ltl) (bs:List Bool):gy (calcs (l::body)) bs=gy (calcs body) (if l.kind=4 then bLit bs l else bs):=by
 unfold calcs
 rw [List.filter_cons]
 by_cases h:l.kind=4
 ·simp only [h,decide_true,if_true];rfl
 ·simp only [h,decide_false,if_false];rfl
theorem recP_some {S:List Fct}:∀ {body:List Ltl} {e e':RE},(∀ l∈body,okL S e.length l)→recP body e=some e' →
  e'.length=e.length∧(∀ a,(∀ l∈body,holdE S l a=true)→(jk e' a↔jk e a))∧da e' = gy (calcs body) (da e)∧∀ a,jk e' a→jk e a
 | [],e,e',_,h=>by
  simp only [recP,List.foldlM_nil] at h
  cases h
  exact⟨rfl,fun a _=>Iff.rfl,rfl,fun a ha=>ha⟩
 | l::body,e,e',hok,h=>by
  simp only [recP,List.foldlM_cons] at h
  cases h1:recL e l with
  | none=>rw [h1] at h;cases h
  | some e1 =>
   rw [h1] at h
   obtain⟨g1,g2,g3,g4⟩:=recL_some (hok l (List.mem_cons_self ..)) h1
   obtain⟨k1,k2,k3,k4⟩:=recP_some (body:=body) (e:=e1) (fun x hx=>by rw [g1];exact hok x (List.mem_cons_of_mem _ hx)) h
   refine⟨k1.trans g1,fun a ha=>?_,by rw [k3,g3,calcs_round],fun a ha=>g4 a (k4 a ha)⟩
   rw [k2 a fun x hx=>ha x (List.mem_cons_of_mem _ hx),g2 a (ha l (List.mem_cons_self ..))]
theorem recP_none {S:List Fct}:∀ {body:List Ltl} {e:RE},(∀ l∈body,okL S e.length l)→recP body e=none→∀ a,jk e a→¬ ∀ l∈body,holdE S l a=true
 | [],e,_,h,_,_,_=>by simp [recP] at h
 | l::body,e,hok,h,a,ha,hall=>by
  simp only [recP,List.foldlM_cons] at h
  cases h1:recL e l with
  | none =>
   have:=recL_none (hok l (List.mem_cons_self ..)) h1 a ha
   rw [hall l (List.mem_cons_self ..)] at this;cases this
  | some e1 =>
   rw [h1] at h
   obtain⟨g1,g2,_,_⟩:=recL_some (hok l (List.mem_cons_self ..)) h1
   exact recP_none (body:=body) (e:=e1) (fun x hx=>by rw [g1];exact hok x (List.mem_cons_of_mem _ hx)) h a ((g2 a (hall l (List.mem_cons_self ..))).2 ha) fun x hx=>hall x (List.mem_cons_of_mem _ hx)
theorem recN_some {S:List Fct} {body:List Ltl}:∀ {n:Nat} {e e':RE},(∀ l∈body,okL S e.length l)→recN body n e=some e' →
  e'.length=e.length∧(∀ a,(∀ l∈body,holdE S l a=true)→(jk e' a↔jk e a))∧da e' = fm (calcs body) n (da e)∧∀ a,jk e' a→jk e a
 | 0,e,e',_,h=>by
  simp only [recN,Option.some.injEq] at h
  subst h
  exact⟨rfl,fun a _=>Iff.rfl,rfl,fun a ha=>ha⟩
 | n + 1,e,e',hok,h=>by
  rw [recN,Option.bind_eq_some_iff] at h
  obtain⟨e1,h1,h2⟩:=h
  obtain⟨g1,g2,g3,g4⟩:=recP_some hok h1
  obtain⟨k1,k2,k3,k4⟩:=recN_some (fun x hx=>by rw [g1];exact hok x hx) h2
  refine⟨k1.trans g1,fun a ha=>by rw [k2 a ha,g2 a ha],by rw [k3,g3];rfl,fun a ha=>g4 a (k4 a ha)⟩
theorem recN_none {S:List Fct} {body:List Ltl}:∀ {n:Nat} {e:RE},(∀ l∈body,okL S e.length l)→recN body n e=none→∀ a,jk e a→¬ ∀ l∈body,holdE S l a=true
 | 0,e,_,h,_,_,_=>by simp [recN] at h
 | n + 1,e,hok,h,a,ha,hall=>by
  rw [recN] at h
  cases h1:recP body e with
  | none=>exact recP_none hok h1 a ha hall
  | some e1 =>
   rw [h1] at h
   obtain⟨g1,g2,_,_⟩:=recP_some hok h1
   exact recN_none (fun x hx=>by rw [g1];exact hok x hx) h a ((g2 a hall).2 ha) hall
theorem recN_closed {S:List Fct} {body:List Ltl} {e e':RE} (hok:∀ l∈body,okL S e.length l) (h:recN body (body.length + 1) e=some e'):closedB (calcs body) (da e'):=by
 obtain⟨_,_,h3,_⟩:=recN_some hok h
 have hsub:∀ l∈calcs body,l∈body:=fun l hl=>(List.mem_filter.1 hl).1
 have hokT:∀ l∈calcs body,∀ t∈dz l,okT (da e).length t:=by
  intro l hl t ht
  rw [ew]
  refine (hok l (hsub l hl)).terms t ?_
  unfold dz at ht
  split at ht
  ·exact ht
  ·exact List.mem_of_mem_drop ht
 have hle:(calcs body).length≤body.length:=List.length_filter_le _ _
 have hr:=bRound_rest hokT
 have hfix:gy (calcs body) (da e')=da e':=by
  obtain⟨d,hd⟩:=Nat.exists_eq_add_of_le (show (calcs body).length≤body.length + 1 by omega)
  rw [h3,hd,bIter_add,bIter_fix hr,hr]
 intro l hl hf t ht
 rw [← hfix]
 exact bRound_done (fun l hl t ht=>by
  have:=hokT l hl t ht
  rw [ew] at this ⊢
  rw [(recN_some hok h).1];exact this) l hl hf t ht
theorem wrong_false {S:List Fct} {body:List Ltl} {e:RE} {a:List Int} (ha:jk e a) (hall:∀ l∈body,holdE S l a=true):wrongE S body e=false:=by
 unfold wrongE
 rw [List.any_eq_false]
 intro l hl hc
 rw [Bool.and_eq_true,List.all_eq_true] at hc
 have:=holdE_same (S:=S) ha hc.1
 rw [hall l hl] at this
 rw [← this] at hc
 exact absurd hc.2 (by simp)
theorem fromE_spec (S:List Fct) (hS:S.Nodup) (body:List Ltl):∀ (ys:List Ltl) (e:RE),(∀ l∈ys,l∈body∧l.kind=1)→(∀ l∈body,okL S e.length l)→Bd body (da e)→(∀ l∈body,l.kind=1→l∈ys∨∀ t∈l.terms,isT (da e) t=true) →
  (∀ a,a∈ij S body ys e↔jk e a∧∀ l∈body,holdE S l a=true)∧(ij S body ys e).Nodup
 | [],e,_,hok,hB,hy=>by
  rw [ij]
  cases hr:recN body (body.length + 1) e with
  | none=>exact⟨fun a=>⟨fun h=>by simp at h,fun⟨h1,h2⟩=>absurd h2 (recN_none hok hr a h1)⟩,.nil⟩
  | some e' =>
   simp only
   obtain⟨g1,g2,g3,g4⟩:=recN_some hok hr
   have hcl:=recN_closed hok hr
   have hle:leB (da e) (da e'):=by
    rw [g3]
    have:∀ n bs,leB bs (fm (calcs body) n bs):=by
     intro n
     induction n with
     | zero=>intro bs;exact leB.refl _
     | succ n ih=>intro bs;exact (bRound_le _ _).trans (ih _)
    exact this _ _
   have hfull:∀ v,v < (da e').length→(da e').getD v false=true:=by
    refine hB _ hle fun l hl hf t ht=>?_
    by_cases h1:l.kind=1
    ·have hl1:dz l=l.terms:=by unfold dz;rw [if_pos h1]
     rw [hl1] at ht
     rcases hy l hl h1 with h|h
     ·simp at h
     ·exact isT_mono hle (h t ht)
    ·have h4:l.kind=4:=by
      unfold cy at hf
      rw [decide_eq_false h1,Bool.false_or,Bool.and_eq_true] at hf
      exact of_decide_eq_true hf.1
     exact hcl l (List.mem_filter.2 ⟨hl,decide_eq_true h4⟩) hf t ht
   have hsome:∀ l∈body,∀ t∈l.terms,(vOf e' t).isSome=true:=fun l hl t ht=>full_some hfull (by rw [g1];exact (hok l hl).terms t ht)
   split
   ·rename_i hw
    refine⟨fun a=>⟨fun h=>by simp at h,fun⟨h1,h2⟩=>?_⟩,.nil⟩
    rw [wrong_false ((g2 a h2).2 h1) h2] at hw;cases hw
   ·rename_i hw
    refine⟨fun a=>?_,List.nodup_cons.2 ⟨by simp,.nil⟩⟩
    rw [List.mem_singleton]
    constructor
    ·rintro rfl
     have hx:=(full_out hfull (cx e')).2 rfl
     refine⟨g4 _ hx,fun l hl=>?_⟩
     cases hh:holdE S l (cx e') with
     | true=>rfl
     | false =>
      exfalso;apply hw
      unfold wrongE
      rw [List.any_eq_true]
      exact⟨l,hl,by rw [hh,Bool.and_eq_true,List.all_eq_true];exact⟨fun t ht=>hsome l hl t ht,rfl⟩⟩
    ·rintro⟨h1,h2⟩
     exact (full_out hfull a).1 ((g2 a h2).2 h1)
 | l::ys,e,hys,hok,hB,hy=>by
  rw [ij]
  cases hr:recN body (body.length + 1) e with
  | none=>exact⟨fun a=>⟨fun h=>by simp at h,fun⟨h1,h2⟩=>absurd h2 (recN_none hok hr a h1)⟩,.nil⟩
  | some e' =>
   simp only
   obtain⟨g1,g2,g3,g4⟩:=recN_some hok hr
   have hle:leB (da e) (da e'):=by
    rw [g3]
    have:∀ n bs,leB bs (fm (calcs body) n bs):=by
     intro n
     induction n with
     | zero=>intro bs;exact leB.refl _
     | succ n ih=>intro bs;exact (bRound_le _ _).trans (ih _)
    exact this _ _
   obtain⟨hl,hl1⟩:=hys l (List.mem_cons_self ..)
   have hlit:dz l=l.terms:=by unfold dz;rw [if_pos hl1]
   split
   ·rename_i hw
    refine⟨fun a=>⟨fun h=>by simp at h,fun⟨h1,h2⟩=>?_⟩,.nil⟩
    rw [wrong_false ((g2 a h2).2 h1) h2] at hw;cases hw
   ·have ih:∀ e'',e''.length=e'.length→leB (da e') (da e'')→((∀ t∈dz l,isT (da e'') t=true)∨∀ ds,cy ds l=false)→(∀ a,a∈ij S body ys e''↔jk e'' a∧∀ l∈body,holdE S l a=true)∧(ij S body ys e'').Nodup:=by
     intro e'' k1 k2 k3
     refine fromE_spec S hS body ys e'' (fun x hx=>hys x (List.mem_cons_of_mem _ hx)) (fun x hx=>by rw [k1,g1];exact hok x hx) (fun cs c1 c2=>hB cs ((hle.trans k2).trans c1) c2) fun x hx hx1=>?_
     rcases hy x hx hx1 with h|h
     ·rcases List.mem_cons.1 h with rfl|h
      ·right
       rcases k3 with k3|k3
       ·rw [hlit] at k3;exact k3
       ·have:=k3 []
        unfold cy at this
        rw [decide_eq_true hl1] at this
        simp at this
      ·exact .inl h
     ·exact .inr fun t ht=>isT_mono (hle.trans k2) (h t ht)
    have hok':okL S e'.length l:=by rw [g1];exact hok l hl
    refine⟨fun a=>?_,litW_nodup hS hok' fun e'' k1 k2 k3=>⟨(ih e'' k1 k2 k3).2,fun a ha=>(((ih e'' k1 k2 k3).1 a).1 ha).1⟩⟩
    rw [litW_mem (P:=fun a=>∀ l∈body,holdE S l a=true) hok' (.inr hl1) a fun e'' k1 k2 k3=>(ih e'' k1 k2 k3).1 a]
    constructor
    ·rintro⟨⟨h1,_⟩,h2⟩;exact⟨(g2 a h2).1 h1,h2⟩
    ·rintro⟨h1,h2⟩;exact⟨⟨(g2 a h2).2 h1,h2 l hl⟩,h2⟩
def jp (a:List Int):List D:=[.slice 1 (a.map bi)]
structure okB (S:List Fct) (v:Nat) (body:List Ltl):Prop where
 lit:∀ l∈body,okL S v l
 op:∀ l∈body,l.kind=3→1≤l.op∧l.op≤4
 nums:∀ l∈body,∀ t∈l.terms,-1000000≤t.n∧t.n≤1000000
 facts:∀ x∈S,∀ y∈x.args,-1000000≤y∧y≤1000000
 len:body.length≤4
 vle:v≤8
 tlen:∀ l∈body,l.terms.length≤3
def numE (e:RE):Prop:=∀ (v:Nat) (x:Int),e[v]? = some (some x)→-1000000≤x∧x≤1000000
theorem vA_num {e:RE} (h:numE e) {t:Trm} (ht:-1000000≤t.n∧t.n≤1000000):-1000000≤vA (cx e) t∧vA (cx e) t≤1000000:=by
 unfold vA cx
 split
 ·exact ht
 ·rw [List.getD,List.getElem?_map]
  cases hx:e[t.var.toNat]? with
  | none=>simp
  | some y =>
   cases y with
   | none=>simp
   | some z=>simpa using h _ _ hx
theorem numE_set {e:RE} (h:numE e) {v:Nat} {n:Int} (hn:numB n=true):numE (e.set v (some n)):=by
 intro u x hx
 by_cases hq:v=u
 ·subst hq
  by_cases hl:v < e.length
  ·rw [List.getElem?_set_self hl] at hx
   simp at hx;subst hx
   exact numB_iff.1 hn
  ·rw [List.getElem?_eq_none (by rw [List.length_set];omega)] at hx;cases hx
 ·rw [List.getElem?_set_ne hq] at hx
  exact h u x hx
theorem recL_num {S:List Fct} {e e':RE} {l:Ltl} (hok:okL S e.length l) (hn:numE e) (h:recL e l=some e'):numE e':=by
 unfold recL at h
 split at h
 ·rename_i hc
  split at h
  ·rename_i hb
   obtain⟨t1,t2,t3,hT⟩:=drop2 (hok.calc3 hc.1)
   rw [hT] at h
   simp only [List.drop_succ_cons,List.drop_zero,List.foldl_cons,List.foldl_nil,Option.some.injEq] at h
   subst h
   exact numE_set hn hb
  ·cases h
 ·simp only [Option.some.injEq] at h;subst h;exact hn
theorem recP_num {S:List Fct}:∀ {body:List Ltl} {e e':RE},(∀ l∈body,okL S e.length l)→numE e→recP body e=some e'→numE e'
 | [],e,e',_,hn,h=>by simp only [recP,List.foldlM_nil] at h;cases h;exact hn
 | l::body,e,e',hok,hn,h=>by
  simp only [recP,List.foldlM_cons] at h
  cases h1:recL e l with
  | none=>rw [h1] at h;cases h
  | some e1 =>
   rw [h1] at h
   have g1:=(recL_some (hok l (List.mem_cons_self ..)) h1).1
   exact recP_num (body:=body) (e:=e1) (fun x hx=>by rw [g1];exact hok x (List.mem_cons_of_mem _ hx)) (recL_num (hok l (List.mem_cons_self ..)) hn h1) h
theorem recN_num' {S:List Fct} {body:List Ltl}:∀ {n:Nat} {e e':RE},(∀ l∈body,okL S e.length l)→numE e→recN body n e=some e'→numE e'
 | 0,e,e',_,hn,h=>by simp only [recN,Option.some.injEq] at h;subst h;exact hn
 | n + 1,e,e',hok,hn,h=>by
  rw [recN,Option.bind_eq_some_iff] at h
  obtain⟨e1,h1,h2⟩:=h
  have g1:=(recP_some hok h1).1
  exact recN_num' (fun x hx=>by rw [g1];exact hok x hx) (recP_num hok hn h1) h2
theorem recN_num {S:List Fct} {body:List Ltl} {n:Nat} {e e':RE} (hok:okB S e.length body) (hn:numE e) (h:recN body n e=some e'):numE e':=recN_num' hok.lit hn h
def SortW (l:List (List Int)):Prop:=l.Pairwise fun a b=>ep a b≤0
theorem ordL_le_trans {a b c:List Int} (h:ep a b≤0) (g:ep b c≤0):ep a c≤0:=by
 by_cases h1:ep a b=0
 ·rw [ordL_eq0 h1];exact g
 ·by_cases g1:ep b c=0
  ·rw [← ordL_eq0 g1];exact h
  ·have:=ordL_trans (l:=a) (m:=b) (n:=c) (by omega) (by omega)
   omega
theorem ordL_antisymm {a b:List Int} (h:ep a b≤0) (g:ep b a≤0):a=b:=by
 rw [ku] at g
 exact ordL_eq0 (by omega)
theorem sortW_unique:∀ {a b:List (List Int)},SortW a→SortW b→a.Perm b→a=b
 | [],b,_,_,h=>by rw [List.nil_perm.1 h]
 | x::a,b,ha,hb,h=>by
  match b,h,hb with
  | [],h,_=>simp at h
  | y::b,h,hb =>
   obtain⟨a1,a2⟩:=List.pairwise_cons.1 ha
   obtain⟨b1,b2⟩:=List.pairwise_cons.1 hb
   have hxy:x=y:=by
    rcases List.mem_cons.1 (h.mem_iff.1 List.mem_cons_self) with h1|h1
    ·exact h1
    ·rcases List.mem_cons.1 (h.mem_iff.2 (List.mem_cons_self (a:=y) (l:=b))) with h2|h2
     ·exact h2.symm
     ·exact ordL_antisymm (a1 y h2) (b1 x h1)
   subst hxy
   rw [sortW_unique a2 b2 (List.perm_cons x |>.1 h)]
theorem same_members {a b:List (List Int)} (ha:a.Nodup) (hb:b.Nodup) (h:∀ x,x∈a↔x∈b):a.Perm b:=(List.perm_ext_iff_of_nodup ha hb).2 h
def ky (arity:List Int) (x:Fct):Int :=
 if inR x.pred 0 ((arity.length:Int) - 1)=false then 5
 else if (x.args.length:Int)≠arity.getD x.pred.toNat 0 then 1
 else if x.args.any (fun n=>!numB n) then 3
 else 0
structure FctOk (arity:List Int) (x:Fct):Prop where
 pred:0≤x.pred∧x.pred < arity.length
 len:(x.args.length:Int)=arity.getD x.pred.toNat 0
 nums:∀ n∈x.args,-1000000≤n∧n≤1000000
theorem numB_in {n:Int} (h:numB n=true):-1000000≤n∧n≤1000000:=by unfold numB inR at h;simpa using h
theorem factE_ok {arity:List Int} {x:Fct} (h:ky arity x=0):FctOk arity x:=by
 unfold ky at h
 split at h;· cases h
 rename_i h1
 split at h;· cases h
 rename_i h2
 split at h;· cases h
 rename_i h3
 refine⟨by unfold inR at h1;simp at h1;omega,by simpa using h2,fun n hn=>?_⟩
 have h3':x.args.any (fun n=>!numB n)=false:=by simpa using h3
 rw [List.any_eq_false] at h3'
 have:=h3' n hn
 exact numB_in (by simpa using this)
theorem gv {α:Type} {f:α→Int}:∀ {l:List α},cu f l=0→∀ x∈l,f x=0
 | [],_,_,h=>by simp at h
 | y::l,h,x,hx=>by
  unfold cu at h
  split at h
  ·rename_i h1;exact absurd h h1
  ·rename_i h1
   rcases List.mem_cons.1 hx with rfl|hx
   ·exact Classical.byContradiction h1
   ·exact gv h x hx
theorem firstI_all0 {f:Nat→Int}:∀ {k i:Nat},firstI f i k=0→∀ j,i≤j→j < i + k→f j=0
 | 0,_,_,j,h1,h2=>by omega
 | k + 1,i,h,j,h1,h2=>by
  unfold firstI at h
  split at h
  ·rename_i h3;exact absurd h h3
  ·rename_i h3
   by_cases hj:j=i
   ·subst hj;exact Classical.byContradiction h3
   ·exact firstI_all0 h j (by omega) (by omega)
theorem termE_zero {vars:Int} {t:Trm} (h:termE vars t=0):t.var < vars∧-1≤t.var∧(-1000000≤t.n∧t.n≤1000000):=by
 unfold termE at h
 split at h;· cases h
 rename_i h1
 split at h;· cases h
 rename_i h2
 have h1':inR t.var (-1) (vars - 1)=true:=by simpa using h1
 have h3:numB t.n=true:=by
  cases hn:numB t.n with
  | true=>rfl
  | false=>exact absurd (.inl hn) h2
 unfold inR at h1'
 simp at h1'
 exact⟨by omega,by omega,numB_in h3⟩
structure RulR (arity:List Int) (r:Rul):Prop where
 pred:0≤r.pred∧r.pred < arity.length
 tlen:(r.terms.length:Int)=arity.getD r.pred.toNat 0
 vars:0≤r.vars∧r.vars≤8
 terms:∀ t∈r.terms,t.var < r.vars∧-1≤t.var∧(-1000000≤t.n∧t.n≤1000000)
 fold:0≤r.fold∧r.fold≤4
 folded:r.fold≠0→0 < r.terms.length∧0 < r.body.length
 body:r.body.length≤4
 lits:∀ l∈r.body,litE arity r.vars l=0
 safe:safeB r=true
theorem ruleE_right {arity:List Int} {r:Rul} (h:ruleE arity r=0):RulR arity r:=by
 unfold ruleE at h
 split at h;· cases h
 rename_i h1
 split at h;· cases h
 rename_i h2
 split at h;· cases h
 rename_i h3
 split at h
 ·rename_i h4;exact absurd h h4
 rename_i h4
 split at h;· cases h
 rename_i h5
 split at h;· cases h
 rename_i h6
 split at h;· cases h
 rename_i h7
 split at h
 ·rename_i h8;exact absurd h h8
 rename_i h8
 split at h;· cases h
 rename_i h9
 have h1':inR r.pred 0 ((arity.length:Int) - 1)=true:=by simpa using h1
 have h3':inR r.vars 0 8=true:=by simpa using h3
 have h5':inR r.fold 0 4=true:=by simpa using h5
 unfold inR at h1' h3' h5'
 simp at h1' h3' h5'
 refine⟨by omega,by simpa using h2,by omega,fun t ht=>?_,by omega,fun hf=>?_,by omega,fun l hl=>?_,by simpa using h9⟩
 ·have:cu (termE r.vars) r.terms=0:=by unfold termsE at h4;simpa using h4
  exact termE_zero (gv this t ht)
 ·have:¬ (r.terms.length=0∨r.body.length=0):=fun hc=>h6 ⟨hf,hc⟩
  omega
 ·have:cu (litE arity r.vars) r.body=0:=by simpa using h8
  exact gv this l hl
theorem progE_rule {nameB:ByteArray→Bool} {p:Prg} (h:dh nameB p=0):(∀ r∈p.rules,RulR p.arity r)∧(∀ i,0≤p.arity.getD i 0∧p.arity.getD i 0≤3)∧p.arity.length≤10∧p.rules.length≤12:=by
 unfold dh at h
 split at h;· cases h
 rename_i h1
 split at h;· cases h
 rename_i h2
 split at h
 ·rename_i h3;exact absurd h h3
 rename_i h3
 refine⟨fun r hr=>ruleE_right (gv h r hr),fun i=>?_,by omega,by omega⟩
 by_cases hi:i < p.names.length
 ·have h3':firstI (nameE nameB p) 0 p.names.length=0:=by simpa using h3
  have:=firstI_all0 h3' i (Nat.zero_le _) (by omega)
  unfold nameE at this
  split at this;· cases this
  rename_i h4
  have h4':inR (p.arity.getD i 0) 0 3=true:=by simpa using h4
  unfold inR at h4'
  simp only [Bool.and_eq_true,decide_eq_true_eq] at h4'
  exact h4'
 ·rw [List.getD,List.getElem?_eq_none (by omega)]
  exact⟨by simp,by simp⟩
theorem litE_right {arity:List Int} {vars:Int} {l:Ltl} (h:litE arity vars l=0):(1≤l.kind∧l.kind≤4)∧opB l.kind l.op=true∧((l.kind=1∨l.kind=2)→(0≤l.pred∧l.pred < arity.length)∧(l.terms.length:Int)=arity.getD l.pred.toNat 0)∧(¬ (l.kind=1∨l.kind=2)→l.pred=0∧(l.terms.length:Int)=l.kind - 1)∧∀ t∈l.terms,t.var < vars∧-1≤t.var∧(-1000000≤t.n∧t.n≤1000000):=by
 unfold litE at h
 split at h;· cases h
 rename_i h1
 split at h;· cases h
 rename_i h2
 have h1':inR l.kind 1 4=true:=by simpa using h1
 unfold inR at h1'
 simp at h1'
 have h2':opB l.kind l.op=true:=by simpa using h2
 split at h
 ·rename_i hk
  split at h;· cases h
  rename_i h3
  split at h;· cases h
  rename_i h4
  have h3':inR l.pred 0 ((arity.length:Int) - 1)=true:=by simpa using h3
  unfold inR at h3'
  simp at h3'
  exact⟨by omega,h2',fun _=>⟨by omega,by simpa using h4⟩,fun hn=>absurd hk hn,fun t ht=>termE_zero (gv h t ht)⟩
 ·rename_i hk
  split at h;· cases h
  rename_i h3
  refine⟨by omega,h2',fun hc=>absurd hc hk,fun _=>?_,fun t ht=>termE_zero (gv h t ht)⟩
  exact⟨Classical.byContradiction fun hc=>h3 (.inl hc),Classical.byContradiction fun hc=>h3 (.inr hc)⟩
theorem lit_okL {arity:List Int} {vars:Int} {l:Ltl} {S:List Fct} (h:litE arity vars l=0) (hv:0≤vars) (hS:∀ x∈S,FctOk arity x):okL S vars.toNat l:=by
 obtain⟨h1,h2,h3,h4,h5⟩:=litE_right h
 refine⟨h1,fun t ht=>?_,fun hk=>?_,fun hk=>?_,fun hk x hx hp=>?_⟩
 ·have:=h5 t ht;unfold okT;omega
 ·have:=h4 (by omega);omega
 ·have:=h4 (by omega);omega
 ·have g1:=(h3 (.inl hk)).2
  have g2:=(hS x hx).len
  rw [hp] at g2;omega
theorem setT_into {bs cs:List Bool} {t:Trm} (h:leB bs cs) (ht:isT cs t=true):leB (ki bs t) cs:=by
 refine⟨(setT_len bs t).trans h.1,fun i hi=>?_⟩
 unfold ki at hi
 split at hi
 ·exact h.2 i hi
 ·rename_i hv
  by_cases hq:t.var.toNat=i
  ·subst hq
   unfold isT at ht
   rw [decide_eq_false hv,Bool.false_or] at ht
   exact ht
  ·rw [List.getD,List.getElem?_set_ne hq,← List.getD] at hi
   exact h.2 i hi
theorem setTs_into {cs:List Bool}:∀ {l:List Trm} {bs:List Bool},leB bs cs→(∀ t∈l,isT cs t=true)→leB (l.foldl ki bs) cs
 | [],_,h,_=>h
 | t::l,_,h,ht=>setTs_into (l:=l) (setT_into h (ht t (List.mem_cons_self ..))) fun x hx=>ht x (List.mem_cons_of_mem _ hx)
theorem bLit_into {body:List Ltl} {bs cs:List Bool} {l:Ltl} (hl:l∈body) (h:leB bs cs) (hc:closedB body cs):leB (bLit bs l) cs:=by
 unfold bLit
 split
 ·rename_i hf;exact setTs_into h (hc l hl (fires_mono h hf))
 ·exact h
theorem bRound_into {body:List Ltl} {cs:List Bool} (hc:closedB body cs):∀ (ls:List Ltl) {bs:List Bool},(∀ l∈ls,l∈body)→leB bs cs→leB (gy ls bs) cs
 | [],_,_,h=>h
 | l::ls,_,hs,h=>bRound_into hc ls (fun x hx=>hs x (List.mem_cons_of_mem _ hx)) (bLit_into (hs l (List.mem_cons_self ..)) h hc)
theorem bIter_into {body:List Ltl} {cs:List Bool} (hc:closedB body cs):∀ (n:Nat) {bs:List Bool},leB bs cs→leB (fm body n bs) cs
 | 0,_,h=>h
 | n + 1,_,h=>bIter_into hc n (bRound_into hc body (fun _ hl=>hl) h)
theorem safe_Bd {r:Rul} (h:safeB r=true):Bd r.body (List.replicate r.vars.toNat false):=by
 intro cs h1 h2 v hv
 refine (bIter_into h2 (r.body.length + 1) h1).2 v ?_
 unfold safeB boundL at h
 rw [List.all_eq_true] at h
 have hl:v < (fm r.body (r.body.length + 1) (List.replicate r.vars.toNat false)).length:=by rw [bIter_len,h1.1];exact hv
 rw [List.getD,List.getElem?_eq_getElem hl]
 exact h _ (List.getElem_mem hl)
abbrev e0 (v:Nat):RE:=List.replicate v none
theorem hasE_e0 (v:Nat):da (e0 v)=List.replicate v false:=by unfold da e0;rw [List.map_replicate];rfl
theorem outE_e0 (v:Nat):cx (e0 v)=List.replicate v 0:=by unfold cx e0;rw [List.map_replicate];rfl
def ld (body:List Ltl):List Ltl:=body.filter fun l=>decide (l.kind=1)
theorem ways_perm {S:List Fct} {v:Nat} {body:List Ltl} (hS:S.Nodup) (hok:∀ l∈body,okL S v l) (hB:Bd body (List.replicate v false)) :
  (gz S body.length body (e0 v)).Perm (ij S body (ld body) (e0 v))∧(ij S body (ld body) (e0 v)).Nodup∧(∀ a,a∈ij S body (ld body) (e0 v)↔a.length=v∧∀ l∈body,holdE S l a=true):=by
 have hl:(e0 v).length=v:=List.length_replicate
 have hok':∀ l∈body,okL S (e0 v).length l:=fun l h=>by rw [hl];exact hok l h
 have hB':Bd body (da (e0 v)):=by rw [hasE_e0];exact hB
 obtain⟨g1,g2⟩:=fromE_spec S hS body (ld body) (e0 v) (fun l h=>⟨(List.mem_filter.1 h).1,of_decide_eq_true (List.mem_filter.1 h).2⟩) hok' hB' (fun l h h1=>.inl (List.mem_filter.2 ⟨h,decide_eq_true h1⟩))
 have g3:=findE_mem S body.length body (e0 v) (Nat.le_refl _) hok' hB'
 have g4:=findE_nodup S hS body.length body (e0 v) (Nat.le_refl _) hok' hB'
 refine⟨same_members g4 g2 fun a=>(g3 a).trans (g1 a).symm,g2,fun a=>(g1 a).trans (and_congr_left fun _=>?_)⟩
 unfold jk
 rw [hl]
 refine⟨fun h=>h.1,fun h=>⟨h,fun u x hx=>?_⟩⟩
 unfold e0 at hx
 rw [List.getElem?_replicate] at hx
 split at hx <;> simp at hx
def waysL (S:List Fct) (v:Nat) (body:List Ltl):List (List Int):=(ij S body (ld body) (e0 v)).mergeSort fun a b=>decide (ep a b≤0)
theorem jd (S:List Fct) (v:Nat) (body:List Ltl):(waysL S v body).Perm (ij S body (ld body) (e0 v)):=List.mergeSort_perm _ _
theorem waysL_sort (S:List Fct) (v:Nat) (body:List Ltl):SortW (waysL S v body):=by
 have:=List.pairwise_mergeSort (le:=fun a b=>decide (ep a b≤0)) (fun a b c h g=>decide_eq_true (ordL_le_trans (of_decide_eq_true h) (of_decide_eq_true g))) (fun a b=>by
  rw [Bool.or_eq_true,decide_eq_true_eq,decide_eq_true_eq,ku b a];omega) (ij S body (ld body) (e0 v))
 exact this.imp fun h=>of_decide_eq_true h
theorem waysL_eq {S:List Fct} {v:Nat} {body:List Ltl} {o:List (List Int)} (h:SortW o) (hp:o.Perm (ij S body (ld body) (e0 v))):o=waysL S v body :=
 sortW_unique h (waysL_sort S v body) (hp.trans (jd S v body).symm)
end Go.Proofs.YtapciiffpnociaaGreat
