/- Several texts in one: MoR VwP StrC StrD StrE StrF StrR StrI MoS MoT RuGp RuZ. Condition: none. -/
import Derived.Test.YtapciiffpnociadGreatT23
import Derived.Test.YtapciiffpnociadGreatT17
import Derived.Test.YtapciiffpnociadGreatT16
import Derived.Test.YtapciiffpnociadGreatT12
import Derived.Test.YtapciiffpnociadGreatT10
import Derived.Test.YtapciiffpnociadGreatT18
import Derived.Test.YtapciiffpnociadGreatT09
import Derived.Test.YtapciiffpnociadGreatT22
import Derived.Test.YtapciiffpnociadGreatT15
import Derived.Test.YtapciiffpnociadGreatT21
set_option maxHeartbeats 8000000
open Classical renaming byContradiction→Bc,choose→Hu,choose_spec→Gp
open List renaming append_assoc→Cf,drop_eq_getElem_cons→Am,drop_of_length_le→As,drop_take→H9,drop_zero→E3,filter_append→Du,foldl_cons→Bf,getD→A6,getElem?_append_right→A4,getElem?_eq_getElem→Ad,getElem_mem→Aj,length_append→Af,length_cons→Bj,length_map→Aa,length_singleton→Au,length_take→Aq,map_append→Ar,mem_append→Cj,mem_append_left→Ax,mem_append_right→B1,mem_cons_of_mem→Ag,mem_cons_self→Ac,mem_singleton→A1,replicate→Ap,take_append_of_le_length→Bl,take_of_length_le→Ai,take_succ_eq_append_getElem→An
open Nat renaming le_refl→Ah,mul_one→Dv,zero_le→Ak
open Option renaming getD_some→B6
namespace Go.Proofs.YtapciiffpnociadGreat
section
theorem least_lt {n:Nat} {E:List Edg} (hE:x4 n E) (hF:yh n E (L0 E n n)) (i:Nat) (hi:i<n):(L0 E n n).getD i 0<n:=by
 apply Bc;intro hgt;have hgt:(n:Int)<=(L0 E n n).getD i 0:=by omega
 have hin:∀ v:Nat,v<=n->(v:Int)∈L0 E n n:=by
  intro v hv2;apply Bc;intro hnot;have hnv:∀ j,j<n->(L0 E n n).getD j 0≠v:=by
   intro j hj h;apply hnot;rw [A6,Ad (by rw [k0];exact hj),B6] at h;rw [<- h];exact Aj _
  let M:List Int:=(List.range n).map λj=>if (v:Int)<(L0 E n n).getD j 0 then (L0 E n n).getD j 0-1 else (L0 E n n).getD j 0
  have hM:∀ j,j<n->M.getD j 0=if (v:Int)<(L0 E n n).getD j 0 then (L0 E n n).getD j 0-1 else (L0 E n n).getD j 0:=λj hj=>by rw [i6,if_pos hj]
  have hfit:yh n E M:=by
   refine⟨by simp [M],λj=>?_,λe he=>?_⟩
   ·rw [i6];split
    ·have:=hF.2.1 j
     split<;>omega
    ·exact Int.le_refl _
   ·obtain⟨hp,hq,hs0,hs1⟩:=hE e he;have h1:=hF.2.2 e he;have h2:=hnv e.q hq;rw [hM _ hp,hM _ hq];split<;>split<;>omega
  have h3:=rc hE hfit n i;have h5:=hnv i hi;rw [hM i hi,if_pos (by omega)] at h3;omega
 have:=pigeon (n+1) ((L0 E n n).map (· + 1)) λv h1 h2=>List.mem_map.2 ⟨((v-1:Nat):Int),hin (v-1) (by omega),by omega⟩
 rw [Aa,k0] at this;omega
theorem prgR_of {p:Prg} (h:dc cz p=0):PrgR p:=by
 obtain⟨h1,h2,h3,h4⟩:=progE_rule h;exact⟨h1,h2,h3,h4⟩
theorem docLv_fit {p:Prg} (h:dc cz p=0) (hd:q8 p=true):LvFit p (fa p)/\∀ r∈p.rules,0<=(fa p).getD r.pred.toNat 0/\(fa p).getD r.pred.toNat 0<p.arity.length:=by
 have hok:=progE_ok h;have hE:=edgP_ok hok;rw [docOk_eq p hok,decide_eq_true_eq] at hd;have hfit:=rt hE hd;rw [docLv_eq p hok,hd];refine⟨⟨k0 _,λr hr l hl hk=>?_⟩,λr hr=>⟨hfit.2.1 _,?_⟩⟩
 ·have hk1:=((hok.each r hr).lits l hl).kind.1;have hh:dw l=true:=by
   cases hb:dw l with
   | true=>rfl
   | false=>exact absurd ((hangs_kind hk1).2 hb) (by omega)
  have:=hfit.2.2 ⟨r.pred.toNat,l.pred.toNat,ku r.fold l⟩ (List.mem_flatMap.2 ⟨r,hr,List.mem_map.2 ⟨l,List.mem_filter.2 ⟨hl,hh⟩,rfl⟩⟩)
  rw [liftN_S];exact this
 ·have hp:=(hok.each r hr).pred;exact least_lt hE hfit r.pred.toNat (by omega)
def rg (p:Prg) (l:List Fct):Int:=if dc cz p≠0 then dc cz p else if q8 p=false then 4 else qz p.arity l
inductive ModelR (p:Prg) (l:List Fct):Int->List Fct->Prop
 | bad (h:rg p l≠0):ModelR p l (rg p l) []
 | ok (m:List Fct) (h:rg p l=0) (hr:RunTo p (fa p) l p.arity.length m):ModelR p l 0 m
 | much (h:rg p l=0) (hr:¬ ∃ m,RunTo p (fa p) l p.arity.length m):ModelR p l 2 []
theorem ModelR.total (p:Prg) (l:List Fct):∃ e m,ModelR p l e m:=by
 by_cases h:rg p l=0
 ·by_cases hr:∃ m,RunTo p (fa p) l p.arity.length m
  ·obtain⟨m,hr⟩:=hr;exact⟨0,m,.ok m h hr⟩
  ·exact⟨2,[],.much h hr⟩
 ·exact⟨_,[],.bad h⟩
theorem ModelR.unique {p:Prg} {l:List Fct} {e e':Int} {m m':List Fct} (h:ModelR p l e m) (h':ModelR p l e' m'):e=e'/\m=m':=by
 cases h with
 | bad h=>cases h' with
  | bad=>exact⟨rfl,rfl⟩
  | ok _ h2=>exact absurd h2 h
  | much h2=>exact absurd h2 h
 | ok _ h hr=>cases h' with
  | bad h2=>exact absurd h h2
  | ok _ _ hr'=>exact⟨rfl,hr.unique hr'⟩
  | much _ hn=>exact absurd ⟨_,hr⟩ hn
 | much h hn=>cases h' with
  | bad h2=>exact absurd h h2
  | ok _ _ hr'=>exact absurd ⟨_,hr'⟩ hn
  | much=>exact⟨rfl,rfl⟩
theorem ModelR.run {p:Prg} {l m:List Fct} (h:rg p l=0) (hr:ModelR p l 0 m):RunTo p (fa p) l p.arity.length m:=by
 generalize he:(0:Int)=e at hr;cases hr with
 | bad h2=>exact absurd h h2
 | ok _ _ hr=>exact hr
 | much=>cases he
theorem ModelR.ok0 {p:Prg} {l m:List Fct} (hr:ModelR p l 0 m):rg p l=0:=by
 generalize he:(0:Int)=e at hr;cases hr with
 | bad h2=>exact absurd he.symm h2
 | ok _ h _=>exact h
 | much=>cases he
structure MOk (p:Prg) (l:List Fct):Prop where
 prog:dc cz p=0
 pr:PrgR p
 fit:LvFit p (fa p)
 lvs:∀ r∈p.rules,0<=(fa p).getD r.pred.toNat 0/\(fa p).getD r.pred.toNat 0<p.arity.length
 doc:q8 p=true
 len:l.length<=60
 facts:∀ x∈l,FctOk p.arity x
theorem factsE_ok {arity:List Int} {l:List Fct} (h:qz arity l=0):l.length<=60/\∀ x∈l,FctOk arity x:=by
 unfold qz at h;split at h;· cases h
 exact⟨by omega,λx hx=>factE_ok (im h x hx)⟩
theorem mOk {p:Prg} {l:List Fct} (h:rg p l=0):MOk p l:=by
 unfold rg at h;split at h
 ·rename_i h1;exact absurd h h1
 rename_i h1;split at h;· cases h
 rename_i h2;have h1:dc cz p=0:=by simpa using h1
 have h2:q8 p=true:=by simpa using h2
 obtain⟨q1,q2⟩:=factsE_ok h;obtain⟨f1,f2⟩:=docLv_fit h1 h2;exact⟨h1,prgR_of h1,f1,f2,h2,q1,q2⟩
theorem ModelR.strict {p:Prg} {l:List Fct} {e:Int} {m:List Fct} (h:ModelR p l e m):Strict m/\m.length<=60/\(∀ x∈m,FctOk p.arity x):=by
 cases h with
 | bad=>exact⟨.nil,by simp,λ_ h=>by simp at h⟩
 | ok _ h hr =>
  have:=RunTo.ok (mOk h).facts (mOk h).len hr
  exact⟨this.1,this.2.1,this.2.2.1⟩
 | much=>exact⟨.nil,by simp,λ_ h=>by simp at h⟩
theorem fit_heads {p:Prg} {lv:List Int} {n:Int} {m M:List Fct} (hp:PrgR p) (hl:LvFit p lv) (h:Fit (lvV p lv n m) m M):∀ x∈M,x∈m∨∃ r∈(lvV p lv n m).rs,x∈hdW M r:=by
 have hV:=lvV_ok hp hl n m;obtain⟨t1,t2⟩:=bp (m++((lvV p lv n m).rs.flatMap λr=>hdW M r));have hTM:∀ x∈a8 (m++((lvV p lv n m).rs.flatMap λr=>hdW M r)),x∈M:=by
  intro x hx;rcases List.mem_append.1 ((t2 x).1 hx) with hx|hx
  ·exact h.good.sub x hx
  ·obtain⟨r,hr,hx⟩:=List.mem_flatMap.1 hx;exact h.good.cl r hr x hx
 have hA:(lvV p lv n m).A (a8 (m++((lvV p lv n m).rs.flatMap λr=>hdW M r))):=by
  refine⟨λx hx=>h.good.a.1 x (hTM x hx),λx hx=>⟨λhxT=>(h.good.a.2 x hx).1 (hTM x hxT),λhx0=>(t2 x).2 (Ax _ hx0)⟩⟩
 have hgood:Good (lvV p lv n m) m (a8 (m++((lvV p lv n m).rs.flatMap λr=>hdW M r))):=by
  refine⟨t1,hA,λx hx=>(t2 x).2 (Ax _ hx),λr hr=>?_,λr hr x hx=>?_⟩
  ·exact (hV.mono _ M hA h.good.a t1 h.good.strict hTM r hr (h.good.few r hr)).1
  ·exact (t2 x).2 (B1 _ (List.mem_flatMap.2 ⟨r,hr,(hV.mono _ M hA h.good.a t1 h.good.strict hTM r hr (h.good.few r hr)).2 x hx⟩))
 intro x hx;rcases List.mem_append.1 ((t2 x).1 (h.least _ hgood x hx)) with hx|hx
 ·exact .inl hx
 ·obtain⟨r,hr,hx⟩:=List.mem_flatMap.1 hx;exact .inr ⟨r,hr,hx⟩
theorem same_ways {arity:List Int} {r:Rul} {S T:List Fct} (hr:RulR arity r) (ha:∀ i,0<=arity.getD i 0/\arity.getD i 0<=3) (hS:∀ x∈S,FctOk arity x) (hT:∀ x∈T,FctOk arity x) (nS:S.Nodup) (nT:T.Nodup)
  (hk:∀ l∈r.body,l.kind<=2->∀ x:Fct,x.pred=l.pred->(x∈S↔x∈T)):manyW S r=manyW T r/\fm S r=fm T r:=by
 have sS:=rl hr ha hS;have sT:=rl hr ha hT;obtain⟨_,p2,p3⟩:=mh nS sS.ok.lit sS.bd;obtain⟨_,q2,q3⟩:=mh nT sT.ok.lit sT.bd;have heq:∀ w,w∈ed S r.body (jz r.body) (e0 r.vars.toNat)↔w∈ed T r.body (jz r.body) (e0 r.vars.toNat):=by
  intro w;rw [p3 w,q3 w];refine and_congr_right λ_=>forall_congr' λl=>forall_congr' λhl=>?_
  rw [holdE_cong (S:=S) (T:=T) λh12=>hk l hl (by omega)]
 have hw:rj S r.vars.toNat r.body=rj T r.vars.toNat r.body:=vo (waysL_sort _ _ _) ((jg _ _ _).trans (tq p2 q2 heq));unfold fm manyW;rw [hw];exact⟨rfl,rfl⟩
theorem RunTo.stay {p:Prg} {lv:List Int} {given:List Fct}:∀ {k n:Nat} {m M:List Fct},RunTo p lv given n m->RunTo p lv given (n+k) M->(∀ x∈m,x∈M)/\∀ x:Fct,lv.getD x.pred.toNat 0<n->(x∈M↔x∈m)
 | 0,n,m,M,h,g=>by
  have:=RunTo.unique h g
  subst this
  exact⟨λ_ h=>h,λ_ _=>Iff.rfl⟩
 | k+1,n,m,M,h,⟨M',g1,g2⟩=>by
  obtain⟨i1,i2⟩:=RunTo.stay (k:=k) h g1
  refine⟨λx hx=>g2.good.sub x (i1 x hx),λx hx=>?_⟩
  rw [g2.good.a.2 x (by show _<((n+k:Nat):Int);omega)]
  exact i2 x hx
theorem RunTo.back {p:Prg} {lv:List Int} {given:List Fct}:∀ {k n:Nat} {M:List Fct},RunTo p lv given (n+k) M->∃ m,RunTo p lv given n m
 | 0,_,M,h=>⟨M,h⟩
 | k+1,_,_,⟨_,h,_⟩=>RunTo.back (k:=k) h
theorem RunTo.heads {p:Prg} {lv:List Int} {given:List Fct} (hp:PrgR p) (hl:LvFit p lv) (hg:∀ x∈given,FctOk p.arity x) (hlen:given.length<=60) {N:Nat} {M:List Fct} (h:RunTo p lv given N M) {r:Rul} (hr:r∈p.rules)
  (h0:0<=lv.getD r.pred.toNat 0) (hN:lv.getD r.pred.toNat 0<N):manyW M r=true/\∀ x∈hdW M r,x∈M:=by
 obtain⟨n,hn⟩:∃ n:Nat,(n:Int)=lv.getD r.pred.toNat 0:=⟨(lv.getD r.pred.toNat 0).toNat,Int.toNat_of_nonneg h0⟩;have hN':n+1+(N-(n+1))=N:=by omega
 have hM:=h;rw [<- hN'] at hM;obtain⟨m1,h1⟩:=RunTo.back hM;obtain⟨s1,s2⟩:=RunTo.stay h1 hM;obtain⟨m,g1,g2⟩:=h1;have hm1:=RunTo.ok hg hlen (n:=n+1) (m:=m1) ⟨m,g1,g2⟩;have hMok:=RunTo.ok hg hlen h;have hrs:r∈(lvV p lv n m).rs:=List.mem_filter.2 ⟨hr,decide_eq_true hn.symm⟩;obtain⟨e1,e2⟩:=same_ways (hp.rul r hr) hp.ar hMok.2.2.1 hm1.2.2.1 hMok.1.nodup hm1.1.nodup λl hlb hk x hx=>s2 x (by
  have h1:=hl.fit r hr l hlb hk;have h2:0<=kv r.fold l:=by unfold kv;split<;>omega
  rw [hx];omega)
 refine⟨e1.trans (g2.good.few r hrs),λx hx=>s1 x ?_⟩
 unfold hdW at hx;rw [e2] at hx;exact g2.good.cl r hrs x hx
theorem RunTo.from {p:Prg} {lv:List Int} {given:List Fct} (hp:PrgR p) (hl:LvFit p lv) (hg:∀ x∈given,FctOk p.arity x) (hlen:given.length<=60):∀ {N:Nat} {M:List Fct},RunTo p lv given N M->∀ x∈M,x∈given∨∃ r∈p.rules,0<=lv.getD r.pred.toNat 0/\lv.getD r.pred.toNat 0<N/\x∈hdW M r
 | 0,M,h,x,hx=>by
  subst h;exact .inl (((bp _).2 x).1 hx)
 | N+1,M,⟨m,h1,h2⟩,x,hx=>by
  have hMall:RunTo p lv given (N+1) M:=⟨m,h1,h2⟩
  have hMok:=RunTo.ok hg hlen hMall;have hmok:=RunTo.ok hg hlen h1;rcases fit_heads hp hl h2 x hx with hx|⟨r,hr,hx⟩
  ·rcases RunTo.from hp hl hg hlen h1 x hx with hx|⟨r,hr,h0,hN,hx⟩
   ·exact .inl hx
   ·refine .inr ⟨r,hr,h0,by omega,?_⟩;obtain⟨e1,e2⟩:=same_ways (hp.rul r hr) hp.ar hMok.2.2.1 hmok.2.2.1 hMok.1.nodup hmok.1.nodup λl hlb hk y hy=>h2.good.a.2 y (by
     have h1:=hl.fit r hr l hlb hk;have h2:0<=kv r.fold l:=by unfold kv;split<;>omega
     rw [hy];omega)
    unfold hdW at hx ⊢;rw [e2];exact hx
  ·obtain⟨hr,hn⟩:=List.mem_filter.1 hr;have hn:=of_decide_eq_true hn;exact .inr ⟨r,hr,by omega,by omega,hx⟩
open Go Go.RowKit
theorem mdl_ex (p:Prg) (l:List Fct):∃ x:Int×List Fct,ModelR p l x.1 x.2:=by
 obtain⟨e,m,h⟩:=ModelR.total p l;exact⟨(e,m),h⟩
noncomputable def mdl (p:Prg) (l:List Fct):Int×List Fct:=Hu (mdl_ex p l)
theorem mdl_is (p:Prg) (l:List Fct):ModelR p l (mdl p l).1 (mdl p l).2:=Gp (mdl_ex p l)
theorem mdl_none {p:Prg} {l:List Fct} (h:(mdl p l).1≠0):(mdl p l).2=[]:=by
 have hm:=mdl_is p l;generalize mdl p l=x at h hm;obtain⟨e,m⟩:=x;dsimp only at h hm ⊢;cases hm with
 | bad _=>rfl
 | ok _ _ _=>exact absurd rfl h
 | much _ _=>rfl
def saidF (r:Rpl):List Fct:=a8 ((keptU r.has).flatMap Upd.says)
def cq (p:Prg) (r:Rpl):List Fct:=(saidF r).filter λf=>decide (e8 p.arity f=0)
noncomputable def putR (r:Rpl) (u:Upd):Rpl:=open Classical in if h:∃ r2,RplOk (u::r.both) r2 then Hu h else r
theorem putR_is {r r2:Rpl} {u:Upd} (h:RplOk (u::r.both) r2):putR r u=r2:=by
 unfold putR;rw [dif_pos ⟨r2,h⟩];exact RplOk.unique (Gp (⟨r2,h⟩:∃ r2,RplOk (u::r.both) r2)) h
noncomputable def openV (p:Prg) (r:Rpl):List Fct×Int:=if dc cz p≠0 then ([],dc cz p) else if dp r≠0 then ([],dp r) else ((mdl p (cq p r)).2,(mdl p (cq p r)).1)
theorem openV_none {p:Prg} {r:Rpl} (h:(openV p r).2≠0):(openV p r).1=[]:=by
 unfold openV at h ⊢;split
 ·rfl
 ·rename_i h1;rw [if_neg h1] at h;split
  ·rfl
  ·rename_i h2;rw [if_neg h2] at h;exact mdl_none h
abbrev Chg:=List Fct×List Fct
noncomputable def stepV (p:Prg) (r:Rpl) (m:List Fct) (u:Upd):Rpl×List Fct×Chg×Int :=
 if db u≠0 then (r,m,([],[]),db u)
 else if hasU r.both u.id=true then (r,m,([],[]),0)
 else if 200<=r.both.length then (r,m,([],[]),2)
 else if (mdl p (cq p (putR r u))).1≠0 then (putR r u,(mdl p (cq p (putR r u))).2,([],[]),(mdl p (cq p (putR r u))).1)
 else (putR r u,(mdl p (cq p (putR r u))).2,(a8 (dm (mdl p (cq p (putR r u))).2 m),a8 (dm m (mdl p (cq p (putR r u))).2)),0)
noncomputable def runV (p:Prg):List Upd->Rpl->List Fct->List Chg->Rpl×List Fct×List Chg×Int
 | [],r,m,acc=>(r,m,acc,0)
 | u::l,r,m,acc=>if (stepV p r m u).2.2.2≠0 then ((stepV p r m u).1,(stepV p r m u).2.1,acc++[(stepV p r m u).2.2.1],(stepV p r m u).2.2.2)
  else runV p l (stepV p r m u).1 (stepV p r m u).2.1 (acc++[(stepV p r m u).2.2.1])
abbrev rplO:Rpl:=⟨[],[]⟩
noncomputable def delivV (p:Prg) (r:Rpl) (l:List Upd):Rpl×List Chg×Int :=
 if (openV p r).2≠0 then (rplO,[],(openV p r).2)
 else if 200<l.length then (rplO,[],2)
 else if (runV p l r (openV p r).1 []).2.2.2≠0 then (rplO,[],(runV p l r (openV p r).1 []).2.2.2)
 else ((runV p l r (openV p r).1 []).1,(runV p l r (openV p r).1 []).2.2.1,0)
structure RpGood (r:Rpl):Prop where
 ok:RplOk r.both r
 len:r.has.length+r.waits.length<=200
 each:∀ u∈r.both,db u=0
theorem RpGood.of {r:Rpl} (h:dp r=0):RpGood r:=by
 obtain⟨h1,h2,h3⟩:=checkR_ok h;exact⟨h3,h1,h2⟩
theorem RpGood.check {r:Rpl} (h:RpGood r):dp r=0:=checkR_zero h.ok h.len h.each
attribute [local irreducible] DW DS DL DQ Ev FnOk FnP ef bt DWr
def jb (r:Rul):List (List SV):=(r.body.filter dw).map λx=>[.d (.int .i64 x.pred),.d (.bool (pi r.fold x))]
def x7 (r:Rul) (i:Nat):Nat:=((r.body.take i).filter dw).length
theorem hangs_fn (r:Rul):Fn 123 [vf r] (λres=>res = .fn 174 [.pd (dj r)]):=by
 refine fqE Tryz.func123 ?_;intro O w0 E0 β0;repeat' (first|refine zs ?_|fail)
 refine ak (ent_freeze (ds:=dj r) 2 0 rfl rfl) ?_;repeat' (apply c9)
 exact⟨.inl rfl,_,rfl,rfl,rfl⟩
theorem hangsX_get {r:Rul} {j:Nat} (h:j<(jb r).length):∃ hj:j<(r.body.filter dw).length,(jb r)[j]=[.d (.int .i64 ((r.body.filter dw)[j]).pred),.d (.bool (pi r.fold (r.body.filter dw)[j]))]:=by
 have h':j<(r.body.filter dw).length:=by unfold jb at h;rwa [Aa] at h
 exact⟨h',by simp [jb]⟩
theorem hangsX_len (r:Rul):(jb r).length=(r.body.filter dw).length:=by unfold jb;rw [Aa]
theorem hangsX_each (r:Rul):∀ x∈jb r,2=x.length/\SV.lowL 0 x=true:=by
 intro x hx;unfold jb at hx;obtain⟨y,_,rfl⟩:=List.mem_map.1 hx;exact⟨rfl,rfl⟩
theorem cntH_skip {r:Rul} {i:Nat} (hi:i<r.body.length) (h:dw r.body[i]=false):x7 r (i+1)=x7 r i:=by
 unfold x7;rw [An hi,Du,Af];simp [h]
theorem cntH_step {r:Rul} {i:Nat} (hi:i<r.body.length) (h:dw r.body[i]=true):x7 r (i+1)=x7 r i+1:=by
 unfold x7;rw [An hi,Du,Af];simp [h]
theorem cntH_all {r:Rul} {i:Nat} (hi:r.body.length<=i):x7 r i=(jb r).length:=by
 unfold x7 jb;rw [Ai hi,Aa]
theorem hangsX_at {r:Rul} {i:Nat} (hi:i<r.body.length) (h:dw r.body[i]=true):∃ hc:x7 r i<(jb r).length,(jb r)[x7 r i]=[.d (.int .i64 r.body[i].pred),.d (.bool (pi r.fold r.body[i]))]:=by
 have hsplit:r.body.filter dw=(r.body.take i).filter dw++r.body[i]::(r.body.drop (i+1)).filter dw:=by
  conv=>lhs;rw [<- List.take_append_drop i r.body,Du,Am hi]
  rw [List.filter_cons_of_pos h]
 have h1:(jb r)[x7 r i]?=some [.d (.int .i64 r.body[i].pred),.d (.bool (pi r.fold r.body[i]))]:=by
  unfold jb x7;rw [hsplit,List.getElem?_map,A4 (Ah _),Nat.sub_self];rfl
 obtain⟨h2,h3⟩:=List.getElem?_eq_some_iff.1 h1;exact⟨h2,h3⟩
abbrev hgL (yv pv bv:Value) (n i:Nat):Sl:=[(0,.val yv),(1,.val pv),(6,.val bv),(7,.d (.int .i64 n)),(8,.d (.int .i64 i))]
set_option maxHeartbeats 4000000 in
theorem hangs1_seq (r:Rul):SeqD Tryz.prog 174 [.pd (dj r)] (jb r):=by
 refine⟨by kernel_rfl,?_⟩
 intro X e0 W0 lb l J Jx hX hlb hJ0 hfr hJb hJxb hy;match lb,hlb with
 | [pv],⟨hpd,_⟩ =>
  have hpd':=hpd;obtain⟨b,off,hpv,hb,hnX,hcells⟩:=hpd';obtain⟨u3,hc3,hr3⟩:=hcells 3 (by show 3<5;omega);have hr3:RepC X W0 u3 (.slice 4 (r.body.map ay)):=hr3;obtain⟨ao,cap,hu3,hcap,hmax,_⟩:=hr3.slice_inv;have hlen:(r.body.map ay).length=r.body.length:=Aa _;rw [hlen] at hu3 hcap;have hbl:r.body.length<=maxLen:=by omega
  have hbm:r.body.length<=9223372036854775807:=by unfold maxLen at hbl;omega
  refine callsIn_wide.1 (callsIn_of_wp_marks (F:=Fence.wide) (n:=0) Tryz.func174 rfl trivial ?_);have hF0:Flat 34 [(0,.val (.func (.yield l) #[] #[])),(1,.val pv)] { tmps:=(#[.func (.yield l) #[] #[]]++[pv].toArray)++Array.replicate 32 undef,defers:=[] }:=by
   refine⟨by simp,rfl,λt X e w=>?_⟩
   rw [Sl.get_cons];split
   ·rename_i h;subst h;simp [Rel]
   ·rw [Sl.get_cons];split
    ·rename_i h;subst h;simp [Rel]
    ·trivial
  have hret:∀ (ex:Exit) (a:Act) (W:World),(ex = .normal∨ex = .ret)->a.defers=[]->(J (jb r).length W∨Jx W) ->
    bodyPostM Fence.wide 0 Tryz.prog Tryz.f174 (λen W'=>(∃ v,en = .returned v)/\(J (jb r).length W'∨Jx W')) ex a W:=by
   rintro ex a W hx hd hj;have:LeavesInM Fence.wide 0 Tryz.prog Tryz.f174 a.tmps (λen W'=>(∃ v,en = .returned v)/\(J (jb r).length W'∨Jx W')) a.defers .returning W:=by
    rw [hd];exact⟨.tuple #[],by simp [results,Tryz.f174],⟨_,rfl⟩,hj⟩
   rcases hx with rfl|rfl<;>exact this
  obtain⟨QQ,hQQ⟩:∃ QQ,QQ=bodyPostM Fence.wide 0 Tryz.prog Tryz.f174 (λen W'=>(∃ v,en = .returned v)/\(J (jb r).length W'∨Jx W')):=⟨_,rfl⟩;rw [<- hQQ] at hret ⊢;clear hQQ;refine wpIn_seq (wpIn_mono (Q:=λex a' w'=>ex = .normal/\Flat 34 (hgL (.func (.yield l) #[] #[]) pv u3 r.body.length 0) a'/\Below W0.heap.size W0 w') ?_ ?_)
  ·have m0:=hF0.models (P:=Tryz.prog) (τ:=tab) (τok:=b9) (O:=X) W0 hX;refine dwr_run m0 (dwr_of rfl ?_);subst hpv hu3;apply ds_region;exact rfl;refine je (ev_fa_val (l:=[(0,3,1),(1,61,1),(2,3,1),(3,62,1),(4,3,1)]) rfl rfl rfl 1 rfl) rfl rfl ?_;refine je (ev_ld_val (u:=.slice ao r.body.length cap) 5 rfl rfl rfl hc3 (λ_=>id)) rfl rfl ?_;refine je (ev_len_val 6 (t':=68) rfl rfl hbl) rfl rfl ?_;repeat' (first|refine zs ?_|fail)
   intro e a w m;exact⟨rfl,m.flatten ⟨rfl,rfl,rfl,rfl,rfl,trivial⟩ rfl,m.toHeap.it_below⟩
  rintro ex a0 w0 ⟨rfl,hf0,hbl0⟩;refine wpIn_block (wpIn_loop_ghost (λn a W=>∃ i,i<=r.body.length/\n=r.body.length-i/\Flat 34 (hgL (.func (.yield l) #[] #[]) pv u3 r.body.length i) a/\J (x7 r i) W) r.body.length ⟨0,Ak _,rfl,hf0,hJb _ _ _ hJ0 hbl0⟩ ?_);rintro n a W ⟨i,hi,rfl,hf,hj⟩;obtain⟨hsz,hfrW⟩:=hfr _ _ hj;have hOW:∀ b,Oit X W0 W b->b<W.heap.size:=λb h=>h.1
  have m0:=hf.models (P:=Tryz.prog) (τ:=tab) (τok:=b9) (O:=Oit X W0 W) W hOW;have hv1:∀ {k:Nat} {L:Sl} {H:Hp} {e:Env} {a:Act} {w:World},Models (Γit Tryz.prog tab b9 (Oit X W0 W) W 34) (lo k) L H e a w->L.get 1 = .val pv->Models (Γit Tryz.prog tab b9 (Oit X W0 W) W 34) (lo k) ((1,.pd (dj r))::L) H e a w :=
   λm h=>m.val_as 1 h (it_rel hsz hfrW rfl hpd m.toHeap)
  have hv6:∀ {k:Nat} {L:Sl} {H:Hp} {e:Env} {a:Act} {w:World},Models (Γit Tryz.prog tab b9 (Oit X W0 W) W 34) (lo k) L H e a w->L.get 6 = .val u3->Models (Γit Tryz.prog tab b9 (Oit X W0 W) W 34) (lo k) ((6,.d (.slice 4 (r.body.map ay)))::L) H e a w :=
   λm h=>m.val_as 6 h (it_rel (e0:=e0) (s:=.d (.slice 4 (r.body.map ay))) hsz hfrW rfl hr3 m.toHeap)
  refine dwr_run m0 ?_;have hr5:∀ (c5:Code) (a:Act) (W':World),i<r.body.length->Flat 34 (hgL (.func (.yield l) #[] #[]) pv u3 r.body.length i) a->J (x7 r (i+1)) W' ->
    DW (Γit Tryz.prog tab b9 X W' 34) c5 (λex _ L _=>ex = .normal/\Kepts L (hgL (.func (.yield l) #[] #[]) pv u3 r.body.length (i+1))) 0 (hgL (.func (.yield l) #[] #[]) pv u3 r.body.length i) [] ->
    Code.wpIn Fence.wide 0 Tryz.prog c5 (Exit.then (λa' w'=>∃ n',n'<r.body.length-i/\∃ i,i<=r.body.length/\n'=r.body.length-i/\Flat 34 (hgL (.func (.yield l) #[] #[]) pv u3 r.body.length i) a'/\J (x7 r i) w') (Exit.inBlock 0 (λex a w=>QQ ex a w))) a W':=by
   intro c5 a W' hlt hf' hj' h5;have hO':∀ b,X b->b<W'.heap.size:=λb h=>Nat.lt_of_lt_of_le (hX b h) (hfr _ _ hj').1
   have m1:=hf'.models (P:=Tryz.prog) (τ:=tab) (τok:=b9) (O:=X) W' hO';refine wpIn_mono (dw_run m1 h5) ?_;rintro ex a2 w2 (⟨k2,L2,H2,e2,m2,rfl,hk2⟩|⟨_,_,_,_,_,_,hv,_⟩)
   ·exact⟨r.body.length-(i+1),by omega,i+1,by omega,rfl,m2.flatten hk2 rfl,hJb _ _ _ hj' m2.toHeap.it_below⟩
   ·exact hv.elim
  refine dwr_seq rfl ?_;repeat' (first|refine zs ?_|fail)
  refine dwr_seq rfl ?_;by_cases hlt:i<r.body.length
  rotate_left
  ·repeat' (first|refine zs ?_|(refine zm ?_ ?_<;>intro hg)|(exfalso;omega))
   intro e a w m;refine hret .normal a w (.inl rfl) (m.flatten (Ls:=[]) trivial rfl).defers (.inl ?_);rw [<- cntH_all (r:=r) (i:=i) (by omega)];exact hJb _ _ _ hj m.toHeap.it_below
  repeat' (first|refine zs ?_|(refine zm ?_ ?_<;>intro hg)|(exfalso;omega))
  refine dwr_seqR (dwr_block ?_);refine dwr_seq rfl ?_;apply ds_region;exact rfl;refine je (ev_val ((6,.d (.slice 4 (r.body.map ay)))::_) (λe a w m=>hv6 m rfl) (ev_index_map (f:=ay) (l:=r.body) (t':=68) rfl rfl rfl rfl rfl rfl hlt)) rfl rfl ?_;repeat' (first|refine zs ?_|fail)
  refine dwr_seq rfl ?_;repeat' (first|refine zs ?_|(refine zm ?_ ?_<;>intro hg)|fail)
  ·intro e a w m;simp only [Exit.inBlock,if_true,Exit.then];refine hr5 _ a w hlt (m.flatten ⟨rfl,rfl,rfl,rfl,rfl,trivial⟩ rfl) (by rw [cntH_skip hlt (by unfold dw;simp_all)];exact hJb _ _ _ hj m.toHeap.it_below) ?_;repeat' (first|refine zs ?_|fail)
   exact⟨rfl,rfl,rfl,rfl,rfl,rfl,trivial⟩
  all_goals
   have hyl:dw r.body[i]=true:=by
    have h12:r.body[i].kind=1∨r.body[i].kind=2:=by omega
    unfold dw;rcases h12 with h|h<;>simp [h]
   obtain⟨hc,hx⟩:=hangsX_at hlt hyl;refine dwr_seqR (dwr_yieldL (l:=l) (d:=31) (N:=34) (pre:=[_,_,_,_,_,_,_,_,_,_,_]) (post:=[_]) (by rfl) (by rfl) (by rfl) (by rfl) (hgL (.func (.yield l) #[] #[]) pv u3 r.body.length i) rfl (λb=>(32,.d (.bool (!b)))::hgL (.func (.yield l) #[] #[]) pv u3 r.body.length i) (J (x7 r (i+1))) Jx ?_ ?_ ?_)
   ·repeat' (first|(first|refine zs ?_|(refine zm ?_ ?_<;>intro hg)|fail)|(refine je (ev_val ((1,.pd (dj r))::_) (λe a w m=>hv1 m rfl) (ev_field_pd (l:=[(0,3,1),(1,61,1),(2,3,1),(3,62,1),(4,3,1)]) rfl rfl rfl rfl)) rfl rfl ?_))
    all_goals
     refine⟨rfl,rfl,⟨rfl,rfl,rfl,rfl,rfl,trivial⟩,λe W' vs hb1 hvs=>?_⟩
     have:=hy (x7 r i) hc W W' vs hj hb1 ⟨e,by rw [hx];unfold pi;first|(rw [decide_eq_true (by assumption),Bool.true_or];exact hvs)|(rw [decide_eq_false (by assumption),Bool.false_or];exact hvs)⟩
     rw [<- cntH_step hlt hyl] at this;exact this
   ·intro b W';repeat' (first|refine zs ?_|fail)
    exact⟨rfl,⟨rfl,rfl,rfl,rfl,rfl,rfl,trivial⟩,rfl⟩
   ·rintro b a' W' hfl ⟨W1,hb1,hj1⟩;have hfl':Flat 34 (hgL (.func (.yield l) #[] #[]) pv u3 r.body.length i) a':=⟨hfl.len,hfl.defers,λt X e w=>by
     have:=hfl.slot t X e w
     rw [Sl.get_cons] at this;split at this
     ·rename_i h;subst h;trivial
     ·exact this⟩
    have hv:a'.eval (.tmp 32) = .bool (!b):=by
     have h1:=hfl.slot 32 (λ_=>False) ⟨λ_=>0,λ_=>undef,lo 0⟩ W';have h1:RepC _ W' (a'.tmps.getD 32 undef) (.bool (!b)):=h1;show a'.tmps.getD 32 undef=_;generalize a'.tmps.getD 32 undef=v at h1 ⊢;cases h1;rfl
    rcases hj1 with ⟨rfl,hj1⟩|⟨rfl,hj1⟩
    ·refine wpIn_cond_false hv (wpIn_skip ?_);refine hr5 _ a' W' hlt hfl' (hJb _ _ _ hj1 hb1) ?_;repeat' (first|refine zs ?_|fail)
     exact⟨rfl,rfl,rfl,rfl,rfl,rfl,trivial⟩
    ·refine wpIn_cond_true hv (wpIn_ret ?_);exact hret .ret a' W' (.inr rfl) hfl.defers (.inr (hJxb _ _ hj1 hb1))
def predsOk (n:Nat) (l:List Rul):Prop:=∀ r∈l,(0<=r.pred/\r.pred<n)/\∀ x∈r.body,dw x=true->0<=x.pred/\x.pred<n
def rawSV:Option (List Int)->SV
 | none=>.tup [.d (.slice 1 []),.d (.bool false)]
 | some lv=>.tup [.d (.slice 1 (lv.map aq)),.d (.bool true)]
abbrev prgBk (p:Prg):HB:=.blk 26 [.d (.slice 1 (p.arity.map aq)),.d (.slice 1 (p.names.map oq)),.d (.slice 5 (p.rules.map dj))]
abbrev rawH (p:Prg) (lv:List Int) (ch:Bool):Hp:=[(0,prgBk p),(1,.blk 22 [.nils]),(2,.blk 4 [.d (.bool false)]),(3,.row 3 1 (lv.map aq)),(4,.blk 22 [.row 3]),(5,.blk 4 [.d (.bool ch)])]
theorem sraw_fn (p:Prg) (h10:p.arity.length<=10) (h12:p.rules.length<=12) (hp:predsOk p.arity.length p.rules):Fn 110 [gu p] (λres=>res=rawSV (rawL p)):=by
 refine fqE Tryz.func110 ?_;intro O w0 E0 β0;have la:(p.arity.map aq).length=p.arity.length:=Aa _;have lr:(p.rules.map dj).length=p.rules.length:=Aa _;repeat' (first|refine zs ?_|fail)
 refine ds_mk ((iw p.arity.length).map aq) rfl rfl (by rw [la]) rfl rfl rfl rfl rfl rfl (by show 8*_<=_;omega) (by unfold maxLen;omega) (by unfold iw;rw [List.map_replicate];rfl) rfl rfl ?_;repeat' (first|refine zs ?_|fail)
 refine ag (ι:=Bool×List Int×Nat) (λx=>⟨6,[(1,.loc 0 0),(2,.loc 1 0),(3,.loc 2 0),(4,.loc 4 0),(5,.loc 5 0)],rawH p x.2.1 x.1⟩)
  (λx=>x.2.1.length=p.arity.length/\(∀ v∈x.2.1,0<=v/\v<=p.arity.length)/\(x.1=true->rawL p=od p.arity.length p.rules x.2.2 x.2.1/\gap p.arity.length x.2.1<x.2.2)/\(x.1=false->rawL p=some x.2.1)) (λx=>x.2.2)
  (true,iw p.arity.length,p.arity.length*p.arity.length+1) ⟨by simp [iw],λv hv=>by rw [List.eq_of_mem_replicate hv];constructor<;>omega,λ_=>⟨rfl,by rw [gap_zeros];exact Nat.lt_succ_self _⟩,λh=>by cases h⟩
  (er id) ?_
 rintro⟨ch,lv0,m⟩ ⟨g1,g2,g3,g4⟩;dsimp only at g1 g2 g3 g4 ⊢;cases ch with
 | false =>
  have g4:=g4 rfl;repeat' (first|refine zs ?_|fail)
  refine ak (pq 1 0 3 rfl rfl rfl rfl rfl) ?_;repeat' (apply c9)
  exact⟨.inl rfl,_,rfl,rfl,by rw [g4];rfl⟩
 | true =>
  obtain⟨g5,g6⟩:=g3 rfl;obtain⟨m,rfl⟩:∃ m',m=m'+1:=⟨m-1,by omega⟩;repeat' (first|refine zs ?_|fail)
  refine ag (ι:=Nat×List Int×Bool) (λx=>⟨6,[(1,.loc 0 0),(2,.loc 1 0),(3,.loc 2 0),(4,.loc 4 0),(5,.loc 5 0),(17,.d (.slice 5 (p.rules.map dj))),(18,.d (.int .i64 (p.rules.map dj).length)),(19,.d (.int .i64 x.1))],rawH p x.2.1 x.2.2⟩)
   (λx=>x.1<=p.rules.length/\qo p.arity.length p.rules lv0=(p.rules.drop x.1).foldl (jl p.arity.length) (some (x.2.1,x.2.2))/\Rs p.arity.length lv0 x.2.1 x.2.2) (λx=>p.rules.length-x.1)
   (0,lv0,false) ⟨Ak _,rfl,Rs.refl g2⟩ (er id) ?_
  rintro⟨i,lv,ch⟩ ⟨f1,f2,f3⟩;dsimp only at f1 f2 f3 ⊢;have ll:(lv.map aq).length=lv.length:=Aa _;by_cases hi:i<p.rules.length
  ·repeat' (first|refine zs ?_|refine z21 ?_ (hc:=by apply hangs_fn)|(refine zm ?_ ?_<;>intro hg)|(exfalso;omega))
   obtain⟨hp1,hp2⟩:=hp p.rules[i] (Aj hi);have hstep:(p.rules.drop i).foldl (jl p.arity.length) (some (lv,ch))=(p.rules.drop (i+1)).foldl (jl p.arity.length) (((p.rules[i].body.filter dw).drop 0).foldl (fu p.arity.length p.rules[i].fold p.rules[i].pred) (some (lv,ch))):=by
    rw [Am hi,Bf,E3];rfl
   rw [hstep] at f2;clear hstep;generalize p.rules[i]=r at hp1 hp2 f2 ⊢;refine dw_range (jb r) rfl rfl (hangs1_seq r) (hangsX_each r) (by simp) [(1,.loc 0 0),(2,.loc 1 0),(3,.loc 2 0),(4,.loc 4 0),(5,.loc 5 0),(7,.loc 6 0),(17,.d (.slice 5 (p.rules.map dj))),(18,.d (.int .i64 (p.rules.map dj).length)),(19,.d (.int .i64 i))] ⟨rfl,rfl,rfl,rfl,rfl,rfl,rfl,rfl,rfl,trivial⟩ rfl
    (ι:=List Int×Bool) (λ_ x=>(7,(6,sg r)::rawH p x.1 x.2))
    (λj x=>qo p.arity.length p.rules lv0=(p.rules.drop (i+1)).foldl (jl p.arity.length) (((r.body.filter dw).drop j).foldl (fu p.arity.length r.fold r.pred) (some x))/\Rs p.arity.length lv0 x.1 x.2)
    (lv,ch) ⟨f2,f3⟩ rfl ?_ ?_
   ·rintro j hj ⟨lv1,ch1⟩ ⟨e1,e2⟩ O1 w1 E1 β1 l;obtain⟨hj',hx⟩:=hangsX_get hj;rw [hx];dsimp only at e1 e2 ⊢;have hxm:=Aj hj';obtain⟨hxb,hxh⟩:=List.mem_filter.1 hxm;obtain⟨q1,q2⟩:=hp2 _ hxb hxh;rw [Am hj',Bf] at e1;generalize (r.body.filter dw)[j]=x at hxb hxh q1 q2 e1 ⊢;have ll1:(lv1.map aq).length=lv1.length:=Aa _;have hl1:=e2.1;have hA:=e2.2.1 (lv1[x.pred.toNat]'(by omega)) (Aj _);have hw:=rawStep_if (n:=p.arity.length) (fold:=r.fold) (pred:=r.pred) (ch:=ch1) (x:=x) (lv:=lv1) (by omega) (by omega);have hnx:=λlv' ch'=>Rs.next (fold:=r.fold) (pred:=r.pred) (x:=x) (lv':=lv') (ch':=ch') e2 (by omega)
    unfold ku at hw;change DW _ _ _ _ ((26,.d (.bool (pi r.fold x)))::(25,.d (.int .i64 x.pred))::_) _;generalize pi r.fold x=sb at hw ⊢;repeat' (first|refine zs ?_|fail)
    refine⟨rfl,λO2 w2 E2 β2=>?_⟩
    cases sb with
    | true =>
     rw [if_pos rfl] at hw;repeat' (first|refine z0 ?_|apply gy|(apply kh;exact rfl;exact rfl;(apply iq;(omega));exact rfl;exact rfl;(exact kb rfl);exact rfl;exact rfl;exact rfl;exact rfl;exact rfl;exact rfl)|refine zr ?_|(refine zm ?_ ?_<;>intro hg)|(exfalso;omega))
     all_goals first
      | exact⟨(lv1.set r.pred.toNat (lv1[x.pred.toNat]'(by omega)+1),true),⟨by rw [e1,hw,if_neg (by omega),if_pos (by omega)],hnx _ _ (by rw [hw,if_neg (by omega),if_pos (by omega)])⟩,er id⟩
      | exact⟨(lv1,ch1),⟨by rw [e1,hw,if_neg (by omega),if_neg (by omega)],e2⟩,er id⟩
      | (refine⟨7,[(0,prgBk p),(1,.blk 22 [.d (.slice 1 [])]),(2,.blk 4 [.d (.bool false)])],mr (bi 1 0 1 rfl rfl rfl) (er id),?_⟩
         repeat' (first|refine zs ?_|fail)
         exact⟨.inl rfl,_,rfl,rfl,by rw [g5,od,e1,hw,if_pos (by omega),jk,kn];rfl⟩)
    | false =>
     simp only [Bool.false_eq_true,if_false,Int.add_zero] at hw;repeat' (first|refine z0 ?_|apply gy|(apply kh;exact rfl;exact rfl;(apply iq;(omega));exact rfl;exact rfl;(exact kb rfl);exact rfl;exact rfl;exact rfl;exact rfl;exact rfl;exact rfl)|refine zr ?_|(refine zm ?_ ?_<;>intro hg)|(exfalso;omega))
     all_goals first
      | exact⟨(lv1.set r.pred.toNat (lv1[x.pred.toNat]'(by omega)),true),⟨by rw [e1,hw,if_neg (by omega),if_pos (by omega)],hnx _ _ (by rw [hw,if_neg (by omega),if_pos (by omega)])⟩,er id⟩
      | exact⟨(lv1,ch1),⟨by rw [e1,hw,if_neg (by omega),if_neg (by omega)],e2⟩,er id⟩
      | (refine⟨7,[(0,prgBk p),(1,.blk 22 [.d (.slice 1 [])]),(2,.blk 4 [.d (.bool false)])],mr (bi 1 0 1 rfl rfl rfl) (er id),?_⟩
         repeat' fail
         exact⟨.inl rfl,_,rfl,rfl,by rw [g5,od,e1,hw,if_pos (by omega),jk,kn];rfl⟩)
   ·rintro⟨lv1,ch1⟩ ⟨e1,e2⟩;rw [hangsX_len,As (Ah _)] at e1;repeat' (first|refine zs ?_|fail)
    exact⟨(i+1,lv1,ch1),⟨by dsimp only;omega,e1,e2⟩,er id,by show p.rules.length-(i+1)<p.rules.length-i;omega⟩
  ·rw [As (by omega)] at f2;have f2:qo p.arity.length p.rules lv0=some (lv,ch):=f2;rw [od,f2] at g5;repeat' (first|refine zs ?_|(refine zm ?_ ?_<;>intro hg)|(exfalso;omega))
   refine⟨(ch,lv,m),⟨by dsimp only;rw [f3.1,g1],f3.2.1,λh=>?_,λh=>?_⟩,er (λj=>match j with|5=>6|j=>j),by show m<m+1;omega⟩
   ·subst h;exact⟨g5,by have:=f3.2.2.2 rfl;dsimp only;omega⟩
   ·subst h;exact g5
abbrev svI (v:Int):SV:=.d (.int .i64 v)
def qOk (left:List Int) (off cap:Nat) (cs:List SV):Prop:=off+cap<=cs.length/\(cs.drop off).take left.length=left.map svI/\left.length<=cap
theorem qOk.head {n:Int} {left:List Int} {off cap:Nat} {cs:List SV} (h:qOk (n::left) off cap cs):cs[off]?=some (svI n):=by
 obtain⟨h1,h2,h3⟩:=h;have:((cs.drop off).take (n::left).length)[0]?=some (svI n):=by rw [h2];rfl
 rw [List.getElem?_take,List.getElem?_drop] at this;simpa using this
theorem qOk.tail {n:Int} {left:List Int} {off cap:Nat} {cs:List SV} (h:qOk (n::left) off cap cs):qOk left (off+1) (cap-1) cs:=by
 obtain⟨h1,h2,h3⟩:=h;simp only [Bj] at h2 h3;refine⟨by omega,?_,by omega⟩
 have h4:((cs.drop off).take (left.length+1)).drop 1=left.map svI:=by rw [h2];rfl
 rw [H9,List.drop_drop] at h4;simpa using h4
theorem qOk.push {x:Int} {left:List Int} {off cap:Nat} {cs:List SV} (h:qOk left off cap cs) (hr:left.length+1<=cap):qOk (left++[x]) off cap (ky cs (off+left.length*1) [svI x]):=by
 obtain⟨h1,h2,h3⟩:=h;have hl:left.length<=(cs.drop off).length:=by rw [List.length_drop];omega
 refine⟨by unfold ky;simp;omega,?_,by simpa using hr⟩
 unfold ky;rw [Dv,Af,Au,Ar,<- h2,Cf,List.drop_append_of_le_length (by simp;omega),H9];rw [show off+left.length-off=left.length by omega];rw [<- Cf,Bl (by simp;omega),Ai (by simp;omega)];rfl
theorem qOk.grow {x:Int} {left:List Int} {off cap c':Nat} {cs:List SV} (h:qOk left off cap cs) (hr:left.length+1<=c') :
  qOk (left++[x]) 0 c' ((cs.drop off).take (left.length*1)++[svI x]++Ap ((c'-(left.length+1))*1) .junk):=by
 obtain⟨h1,h2,h3⟩:=h;rw [Dv,Dv,h2];refine⟨by simp;omega,?_,by simpa using hr⟩
 rw [E3,Af,Au,Bl (by simp),Ai (by simp),Ar];rfl
abbrev ndH (q:Nat) (p:Prg) (out:List Bool) (n off cap:Nat) (cs:List SV):Hp:=[(0,prgBk p),(1,.row 4 1 (out.map cu)),(2,.blk 95 [.row 1]),(q,.blk 3 cs),(4,.blk 22 [.sl q off n cap])]
structure Qst where
 out:List Bool
 left:List Int
 n:Nat
 off:Nat
 cap:Nat
 cs:List SV
abbrev Qst.ok (x:Qst):Prop:=x.n=x.left.length/\qOk x.left x.off x.cap x.cs/\x.cap<=maxLen/\SV.lowL 0 x.cs=true
abbrev Qst.H (p:Prg) (q:Nat) (x:Qst):Hp:=ndH q p x.out x.n x.off x.cap x.cs
theorem predsOk_of {p:Prg} (h:PrgOk p):predsOk p.arity.length p.rules:=λr hr=>⟨(h.each r hr).pred,λx hx hh=>((h.each r hr).lits x hx).pred hh⟩
def levE (p:Prg):Int:=if dc cz p≠0 then dc cz p else if q8 p then 0 else 4
def levL (p:Prg):List Int:=if dc cz p=0/\q8 p=true then fa p else []
theorem levels_fn (p:Prg):Fn 54 [gu p] (λres=>res = .tup [.d (.slice 1 ((levL p).map aq)),.d (.int .i64 (levE p))]):=by
 refine fqE Tryz.func54 ?_;intro O w0 E0 β0;have hc:=scheck_fn p;unfold levE levL;by_cases h0:dc cz p=0
 ·have hok:=progE_ok h0;have hr:=sraw_fn p hok.preds hok.rules (predsOk_of hok);rw [levels_same p hok] at hr;rw [h0] at hc ⊢;cases hd:q8 p with
  | true =>
   rw [hd,if_pos rfl] at hr;unfold rawSV at hr;dsimp only at hr;repeat' (first|refine zr ?_|refine z21 ?_ (hc:=by apply hc)|refine z21 ?_ (hc:=by apply hr)|fail)
   exact wy rfl ⟨by simp,by simp⟩
  | false =>
   rw [hd,if_neg (by simp)] at hr;unfold rawSV at hr;dsimp only at hr;repeat' (first|refine zs ?_|refine z21 ?_ (hc:=by apply hc)|refine z21 ?_ (hc:=by apply hr)|fail)
   refine dw_nild 2 1 rfl ?_;repeat' (first|refine zr ?_|fail)
   exact wy rfl ⟨by simp,by simp⟩
 ·have hn:decide (dc cz p≠0)=true:=decide_eq_true h0;generalize dc cz p=q at hc h0 hn ⊢;repeat' (first|refine zs ?_|refine z21 ?_ (hc:=by apply hc)|(refine zm ?_ ?_<;>intro hg)|fail)
  ·refine dw_nild 2 1 rfl ?_;repeat' (first|refine zr ?_|fail)
   exact wy rfl ⟨by simp [h0],by simp [h0]⟩
  ·exact absurd h0 hg
theorem xl (l:List Rul):∀ (n:Nat) (lv:List Int),nd l (n+1) lv=kq l (nd l n lv)
 | 0,_=>rfl
 | n+1,lv=>by
  rw [nd,xl l n (kq l lv)]
  rfl
def RdL (lv0 lv:List Int) (rose:Bool) (B:Int):Prop:=leL lv0 lv/\(rose=false->lv=lv0)/\(rose=true->lv≠lv0)/\∀ v∈lv,0<=v/\v<=B
theorem RdL.refl {lv:List Int} {B:Int} (h:∀ v∈lv,0<=v/\v<=B):RdL lv lv false B:=⟨leL.refl _,λ_=>rfl,(λh=>nomatch h),h⟩
theorem RdL.more {lv0 lv:List Int} {rose:Bool} {B C:Int} (h:RdL lv0 lv rose B) (hc:B<=C):RdL lv0 lv rose C:=⟨h.1,h.2.1,h.2.2.1,λv hv=>⟨(h.2.2.2 v hv).1,Int.le_trans (h.2.2.2 v hv).2 hc⟩⟩
theorem RdL.set {lv0 lv:List Int} {rose:Bool} {B v:Int} {i:Nat} (h:RdL lv0 lv rose B) (hi:i<lv.length) (hv:lv[i]<v) (hb:v<=B+1):RdL lv0 (lv.set i v) true (B+1):=by
 obtain⟨h1,h2,h3,h4⟩:=h;have hg:lv.getD i 0=lv[i]:=by rw [A6,Ad hi];rfl
 refine⟨⟨by rw [List.length_set];exact h1.1,λj=>?_⟩,(λh=>nomatch h),λ_ he=>?_,λu hu=>?_⟩
 ·have h5:=h1.2 j;rw [v6 _ _ _ hi];split
  ·rename_i hij;subst hij;omega
  ·exact h5
 ·have h5:=h1.2 i;rw [<- he,v6 _ _ _ hi,if_pos rfl] at h5;omega
 ·rcases List.mem_or_eq_of_mem_set hu with h|h
  ·have:=h4 u h;omega
  ·have:=h4 _ (Aj hi);omega
theorem lvLit_if {f pr:Int} {lv:List Int} {x:Ltl} (hk:¬ 2<x.kind) (h1:x.pred.toNat<lv.length) (h2:pr.toNat<lv.length):lvLit f pr lv x=if lv[pr.toNat]<lv[x.pred.toNat]+kv f x then lv.set pr.toNat (lv[x.pred.toNat]+kv f x) else lv:=by
 simp only [lvLit,A6,Ad h1,Ad h2,B6,if_neg hk]
abbrev one (n:Nat) (pred:Int):List Bool:=(Ap n false).set pred.toNat true
structure Nst (a b:List Bool×List Int):Prop where
 up:leB a.1 b.1
 keep:∀ v∈a.2,v∈b.2
 new:∀ i:Int,0<=i->b.1.getD i.toNat false=true->a.1.getD i.toNat false=true∨i∈b.2
theorem Nst.refl (a:List Bool×List Int):Nst a a:=⟨leB.refl _,λ_ h=>h,λ_ _ h=>.inl h⟩
theorem Nst.trans {a b c:List Bool×List Int} (h:Nst a b) (g:Nst b c):Nst a c :=
 ⟨h.up.trans g.up,λv hv=>g.keep v (h.keep v hv),λi hi hc=>(g.new i hi hc).elim (λhb=>(h.new i hi hb).imp id (g.keep i)) .inr⟩

structure Stp where
 fact:Fct
 rule:Int
 vars:List Int
def kW (r:Rul):Nat:=if r.fold=0 then r.terms.length else r.terms.length-1
def isW (r:Rul) (f:Fct) (w:List Int):Bool:=decide ((aW r w).take (kW r)=f.args.take (kW r))
def vp (r:Rul) (f:Fct) (ways:List (List Int)):List Int:=ways.getD (ways.findIdx (isW r f)) []
def mi (r:Rul) (n:Int) (ways:List (List Int)):List Fct->List Fct->List Stp->Bool×List Fct×List Stp
 | [],S,hw=>(true,S,hw)
 | f::l,S,hw=>if hasF S f then mi r n ways l S hw else if S.length=60 then (false,S,hw)
  else mi r n ways l (a8 (S++[f])) (hw++[⟨f,n,vp r f ways⟩])
theorem aW_len (r:Rul) (w:List Int):(aW r w).length=r.terms.length:=Aa _
theorem kW_le (r:Rul):kW r<=r.terms.length:=by unfold kW;split<;>omega
theorem head_way {r:Rul} {ways:List (List Int)} {f:Fct} (h:f∈jm r ways) (hf:r.fold≠0->0<r.terms.length):f.args.length=r.terms.length/\∃ w∈ways,isW r f w=true:=by
 rw [qa] at h;obtain⟨w,hw,h⟩:=List.mem_filterMap.1 h;unfold headD at h;split at h
 ·rename_i h0;simp only [Option.some.injEq] at h;subst h;exact⟨aW_len r w,w,hw,decide_eq_true rfl⟩
 ·rename_i h0;split at h
  ·simp only [Option.some.injEq] at h;subst h;have hl:=hf h0;have h1:(pW r w).1=(aW r w).take (r.terms.length-1):=rfl;have h2:(pW r w).1.length=r.terms.length-1:=by rw [h1,Aq,aW_len];omega
   refine⟨?_,w,hw,decide_eq_true ?_⟩
   ·rw [Af,h2,Au];omega
   ·unfold kW;rw [if_neg h0,<- h1];show _=List.take _ _;rw [Bl (by rw [h2];exact Ah _),Ai (by rw [h2];exact Ah _)]
  ·cases h
theorem wayOf_mem {r:Rul} {f:Fct} {ways:List (List Int)} (h:∃ w∈ways,isW r f w=true):vp r f ways∈ways/\isW r f (vp r f ways)=true:=by
 obtain⟨w,hw,h⟩:=h;have hlt:=List.findIdx_lt_length_of_exists (xs:=ways) (p:=isW r f) ⟨w,hw,h⟩;unfold vp;rw [List.getD_eq_getElem?_getD,Ad hlt];exact⟨Aj hlt,List.findIdx_getElem (w:=hlt)⟩
structure StpOk (p:Prg) (lv:List Int) (n:Int) (given:List Fct) (hw:List Stp) (T:List Fct) (i:Nat) (h:Stp):Prop where
 lo:0<=h.rule
 hi:h.rule.toNat<p.rules.length
 level:lv.getD (p.rules[h.rule.toNat]'hi).pred.toNat 0<n
 way:h.vars∈fm T (p.rules[h.rule.toNat]'hi)
 head:h.fact∈hdW T (p.rules[h.rule.toNat]'hi)
 is:isW (p.rules[h.rule.toNat]'hi) h.fact h.vars=true
 ahead:(p.rules[h.rule.toNat]'hi).fold=0->∀ l∈(p.rules[h.rule.toNat]'hi).body,l.kind=1->(⟨l.pred,l.terms.map (vA h.vars)⟩:Fct)∈given∨∃ g∈hw.take i,g.fact=⟨l.pred,l.terms.map (vA h.vars)⟩
structure HwOk (given S:List Fct) (hw:List Stp):Prop where
 all:∀ x,x∈S↔x∈given∨∃ h∈hw,h.fact=x
 nodup:(hw.map (·.fact)).Nodup
 new:∀ h∈hw,h.fact ∉ given
def HwM (p:Prg) (lv:List Int) (n:Int) (given:List Fct) (hw:List Stp) (T:List Fct):Prop:=∀ i h,hw[i]?=some h->StpOk p lv n given hw T i h
theorem HwM.more {p:Prg} {lv:List Int} {n:Int} {given:List Fct} {hw:List Stp} {T:List Fct} (h:HwM p lv n given hw T) {s:Stp} (hs:StpOk p lv n given hw T hw.length s):HwM p lv n given (hw++[s]) T:=by
 have key:∀ i,i<=hw.length->(hw++[s]).take i=hw.take i:=λi hi=>Bl hi
 intro i g hg;by_cases hi:i<hw.length
 ·rw [List.getElem?_append_left hi] at hg;have h1:=h i g hg;exact⟨h1.lo,h1.hi,h1.level,h1.way,h1.head,h1.is,λh0 l hl hk=>by rw [key i (by omega)];exact h1.ahead h0 l hl hk⟩
 ·rw [A4 (by omega)] at hg;have hi0:i-hw.length=0:=by
   apply Bc;intro hn;rw [List.getElem?_eq_none (by rw [Au];omega)] at hg;cases hg
  have hi1:i=hw.length:=by omega
  rw [hi0] at hg;simp only [List.getElem?_cons_zero,Option.some.injEq] at hg;subst hg;subst hi1;exact⟨hs.lo,hs.hi,hs.level,hs.way,hs.head,hs.is,λh0 l hl hk=>by rw [key _ (Ah _)];have:=hs.ahead h0 l hl hk;exact this⟩
theorem HwOk.more {given S:List Fct} {hw:List Stp} (h:HwOk given S hw) {s:Stp} (hs:s.fact ∉ S):HwOk given (a8 (S++[s.fact])) (hw++[s]):=by
 have hn:s.fact ∉ given/\∀ g∈hw,g.fact≠s.fact:=⟨λhc=>hs ((h.all _).2 (.inl hc)),λg hg he=>hs ((h.all _).2 (.inr ⟨g,hg,he⟩))⟩
 refine⟨λx=>?_,?_,λg hg=>?_⟩
 ·rw [(bp _).2,Cj,A1,h.all];constructor
  ·rintro ((h1|⟨g,h1,h2⟩)|h1)
   ·exact .inl h1
   ·exact .inr ⟨g,Ax _ h1,h2⟩
   ·exact .inr ⟨s,B1 _ (List.mem_singleton.2 rfl),h1.symm⟩
  ·rintro (h1|⟨g,h1,h2⟩)
   ·exact .inl (.inl h1)
   ·rcases List.mem_append.1 h1 with h1|h1
    ·exact .inl (.inr ⟨g,h1,h2⟩)
    ·rw [A1] at h1;subst h1;exact .inr h2.symm
 ·rw [Ar];refine List.nodup_append.2 ⟨h.nodup,by simp,λx hx y hy he=>?_⟩;rw [List.map_singleton,A1] at hy;obtain⟨g,hg,rfl⟩:=List.mem_map.1 hx;exact hn.2 g hg (he.trans hy)
 ·rcases List.mem_append.1 hg with hg|hg
  ·exact h.new g hg
  ·rw [A1] at hg;subst hg;exact hn.1
structure BldOk (p:Prg) (lv:List Int) (n:Nat) (given m0 S:List Fct) (hw:List Stp):Prop where
 inv:InvM (lvV p lv n m0) m0 S
 hwk:HwOk given S hw
 stp:∀ T,Good (lvV p lv n m0) m0 T->HwM p lv (n+1) given hw T
theorem take_spec {p:Prg} (hp:PrgR p) {lv:List Int} (hl:LvFit p lv) {n:Nat} {given m0:List Fct} {i:Nat} (hi:i<p.rules.length) (hlv:lv.getD (p.rules[i]).pred.toNat 0=n) {S0:List Fct} {hw0:List Stp} (h0:BldOk p lv n given m0 S0 hw0) (hm:manyW S0 p.rules[i]=true) :
  ∀ (heads S:List Fct) (hw:List Stp),(∀ f∈heads,f∈hdW S0 p.rules[i])->BldOk p lv n given m0 S hw->(∀ x∈S0,x∈S)->(∀ g∈hw0,g∈hw)->S0.length<=S.length ->
   ((mi p.rules[i] i (fm S0 p.rules[i]) heads S hw).1=true->BldOk p lv n given m0 (mi p.rules[i] i (fm S0 p.rules[i]) heads S hw).2.1 (mi p.rules[i] i (fm S0 p.rules[i]) heads S hw).2.2 /\
    (∀ x∈S,x∈(mi p.rules[i] i (fm S0 p.rules[i]) heads S hw).2.1)/\(∀ x∈heads,x∈(mi p.rules[i] i (fm S0 p.rules[i]) heads S hw).2.1)/\S.length<=(mi p.rules[i] i (fm S0 p.rules[i]) heads S hw).2.1.length) /\
   ((mi p.rules[i] i (fm S0 p.rules[i]) heads S hw).1=false->¬ ∃ M,Fit (lvV p lv n m0) m0 M)
 | [],S,hw,_,h,_,_,_=>⟨λ_=>⟨h,λ_ h=>h,λ_ h=>by simp at h,Ah _⟩,λhf=>by simp [mi] at hf⟩
 | f::l,S,hw,hh,h,hs,hsh,hlen=>by
  have hV:=lvV_ok hp hl n m0;have hrs:p.rules[i]∈(lvV p lv n m0).rs:=List.mem_filter.2 ⟨Aj hi,decide_eq_true hlv⟩;have hf0:=hh f (Ac ..);have hl':=λg hg=>hh g (Ag _ hg)
  unfold mi;by_cases hin:hasF S f=true
  ·rw [if_pos hin];obtain⟨a,b⟩:=take_spec hp hl hi hlv h0 hm l S hw hl' h hs hsh hlen;refine⟨λht=>?_,b⟩
   obtain⟨a1,a2,a3,a4⟩:=a ht;refine⟨a1,a2,λx hx=>?_,a4⟩
   rcases List.mem_cons.1 hx with rfl|hx
   ·exact a2 x (hasF_iff.1 hin)
   ·exact a3 x hx
  ·rw [if_neg hin];have hnin:f ∉ S:=λhc=>hin (hasF_iff.2 hc)
   by_cases h60:S.length=60
   ·rw [if_pos h60];refine⟨λht=>by simp at ht,λ_=>no_room hV h.inv (H:=[f]) (λx hx=>?_) (by simp) (λx hx=>?_) (by rw [h60];simp)⟩
    ·rw [A1] at hx;subst hx;exact⟨_,hrs,S0,h0.inv,hf0⟩
    ·rw [A1] at hx;subst hx;exact hnin
   ·rw [if_neg h60];obtain⟨w1,w2⟩:=bp (S++[f]);have hle:=j8 (S++[f]);rw [Af,Au] at hle;have hSl:=h.inv.len;have hinv:InvM (lvV p lv n m0) m0 (a8 (S++[f])):=inv_put hV h.inv (λx hx=>by
     rw [A1] at hx;subst hx;exact⟨_,hrs,S0,h0.inv,hf0⟩) (by omega)
    have hgrow:S.length+1<=(a8 (S++[f])).length:=by
     have:=mq (a:=f::S) (b:=a8 (S++[f])) (List.nodup_cons.2 ⟨hnin,h.inv.strict.nodup⟩) λx hx=>by
      rw [w2,Cj,A1];rcases List.mem_cons.1 hx with h|h
      ·exact .inr h
      ·exact .inl h
     rw [Bj] at this;exact this
    have hr:=hp.rul _ (Aj hi);obtain⟨wm,wi⟩:=wayOf_mem (head_way (((bp _).2 f).1 hf0) λhf=>(hr.folded hf).1).2;have hb:BldOk p lv n given m0 (a8 (S++[f])) (hw++[⟨f,i,vp p.rules[i] f (fm S0 p.rules[i])⟩]):=by
     refine⟨hinv,h.hwk.more (s:=⟨f,i,vp p.rules[i] f (fm S0 p.rules[i])⟩) hnin,λT hT=>(h.stp T hT).more ?_⟩
     have hsub:=h0.inv.least T hT;have hk:∀ l∈(p.rules[i]).body,l.kind<=2->kv (p.rules[i]).fold l=1->∀ x:Fct,x.pred=l.pred->(x∈S0↔x∈T):=by
      intro l hlb hk2 hlift x hx;have:=hl.fit _ (Aj hi) l hlb hk2
      have hlt:lv.getD x.pred.toNat 0<(n:Int):=by rw [hx];omega
      exact (h0.inv.a.2 x hlt).trans (hT.a.2 x hlt).symm
     obtain⟨_,g2,g3⟩:=ways_grow hr hp.ar h0.inv.a.1 hT.a.1 h0.inv.strict.nodup hT.strict.nodup hsub hk (hT.few _ hrs);have hnat:((i:Int)).toNat=i:=Int.toNat_natCast i;refine⟨Int.natCast_nonneg i,by rw [hnat];exact hi,?_,?_,?_,?_,?_⟩
     ·simp only [hnat];omega
     ·simp only [hnat];exact g2 _ wm
     ·simp only [hnat];exact heads_grow g2 g3 f hf0
     ·simp only [hnat];exact wi
     ·simp only [hnat];intro hfold l hlb hk1;have hraw:=raw_sub wm;have sS:=rl hr hp.ar h0.inv.a.1;obtain⟨_,_,p3⟩:=mh h0.inv.strict.nodup sS.ok.lit sS.bd;have hh:=((p3 _).1 hraw).2 l hlb;unfold holdE at hh;rw [if_pos hk1] at hh;have hmem:=hasF_iff.1 hh;rcases (h0.hwk.all _).1 hmem with hg|⟨g,hg,he⟩
      ·exact .inl hg
      ·exact .inr ⟨g,by rw [Ai (Ah _)];exact hsh g hg,he⟩
    obtain⟨a,b⟩:=take_spec hp hl hi hlv h0 hm l _ _ hl' hb (λx hx=>(w2 x).2 (Ax _ (hs x hx))) (λg hg=>Ax _ (hsh g hg)) (by omega);refine⟨λht=>?_,b⟩
    obtain⟨a1,a2,a3,a4⟩:=a ht;refine⟨a1,λx hx=>a2 x ((w2 x).2 (Ax _ hx)),λx hx=>?_,by omega⟩
    rcases List.mem_cons.1 hx with rfl|hx
    ·exact a2 x ((w2 x).2 (B1 _ (List.mem_singleton.2 rfl)))
    ·exact a3 x hx
def encG (g:Gr):List D:=[.ptr [.slice 1 (g.1.map aq),.slice 1 (g.2.map aq)]]
def elG (g:Gr):SV:=.d (.ptr [.slice 1 (g.1.map aq),.slice 1 (g.2.map aq)])
theorem ptr_pd {X e w} {ds:List D} {v:Value} (h:RepC X w v (.ptr ds)):Rel X e w (.pd ds) v:=by
 cases h with
 | ptr c hX hb hcell hrep=>exact⟨_,_,rfl,hb,hX,λj hj=>⟨c j,hcell j hj,hrep j hj⟩⟩
theorem ent_pd {Γ:Ctx} {k:Nat} {L:Sl} {H:Hp} (t:Nat) {ds:List D} (hL:L.get t = .d (.ptr ds)):Ent Γ k L H k ((t,.pd ds)::L) H:=by
 intro e a w m;refine⟨e,⟨m.toHeap,m.defers,m.len,λt'=>?_⟩⟩
 rw [Sl.get_cons];split
 ·rename_i ht;subst ht;have hs:=m.slot t;rw [hL] at hs;exact ptr_pd hs
 ·exact m.slot t'
attribute [local irreducible] DT
theorem made1_fn (a:List Int) (last:Nat) (ha:last<=a.length) (g:Gr):Fn 120 ([elG g]++[.pd [.slice 1 (a.map aq)],.pd [.int .i64 last]]) (λr=>r = .d (.bool (decide (g.1=a.take last)))):=by
 refine fqE Tryz.func120 ?_;intro O w0 E0 β0;have la:(a.map aq).length=a.length:=Aa _;have w1:=equalI_fn g.1 (a.take last);refine ak (ent_pd 0 rfl) ?_;repeat' (first|refine zr ?_|refine z22 ?_ (hc:=by apply w1)|fail)
 exact a7 rfl rfl
theorem indexG_fn {f:FuncId} {caps:List SV} (p:Gr->Bool) (l:List (Gr)) (hcap:SV.lowL 0 caps=true) (hp:∀ x∈l,Fn f (elG x::caps) (λr=>r = .d (.bool (p x)))):Fn 119 [.d (.slice 1 (l.map encG)),.fn f caps] (λr=>r = .d (.int .i64 (kr p l))):=by
 refine fqE Tryz.func119 ?_;intro O w0 E0 β0;refine cp (t:=0) rfl λhb=>?_
 repeat' (first|refine zs ?_|fail)
 refine ag (ι:=Nat) (λi=>⟨0,[(0,.d (.slice 1 (l.map encG))),(1,.fn f caps),(7,.d (.int .i64 l.length)),(8,.d (.int .i64 i))],[]⟩)
  (λi=>i<=l.length/\∀ j (hj:j<l.length),j<i->p l[j]=false) (λi=>l.length-i) 0 ⟨Ak _,λj _ h=>absurd h (Nat.not_lt_zero j)⟩
  (ai id ⟨rfl,congrArg (SV.fn f) (SV.renL_id caps).symm,by simp;rfl,rfl,trivial⟩ trivial (by simp [Sl.low,SV.low,hcap]) rfl rfl rfl rfl rfl) ?_
 rintro i ⟨h1,h2⟩;repeat' (first|refine zs ?_|fail)
 refine bf rfl (λh=>?_) (λh=>?_)
 ·have hi:i<l.length:=by omega
  have hpx:=hp l[i] (Aj hi);repeat' (first|refine zs ?_|(apply ki;exact rfl;exact rfl;exact rfl;exact rfl;apply hpx;exact rfl;(assumption);exact rfl;rintro _ rfl))
  refine d7 rfl (λhb=>?_) (λhb=>?_)
  ·repeat' (first|refine zr ?_|fail)
   exact a6 rfl (jp h2 hi hb).symm
  ·repeat' (first|refine zs ?_|fail)
   exact⟨i+1,⟨hi,gz h2 hi hb⟩,ai id ⟨rfl,congrArg (SV.fn f) (SV.renL_id caps).symm,rfl,rfl,trivial⟩ trivial (by simp [Sl.low,SV.low,hcap]) rfl rfl rfl rfl rfl,by omega⟩
 ·repeat' (first|refine zr ?_|fail)
  exact a6 rfl (ja λj hj=>h2 j hj (by omega)).symm
end
section
open Go Go.RowKit
section
variable {Γ : Ctx} {k : Nat} {L : Sl} {H : Hp} {K : cy} {ops : List Oper} {rest : List Oper} {q : Bool} {x y : Operand}
theorem ds_min {d t t2 ty:Nat} {pos:String} {af:Array Edge} {g:Option (Nat×Bool)} {m n:Int} (hx:ap L x = .d (.int .i64 m)) (hy:ap L y = .d (.int .i64 n)) (hxo:dh x=true) (hyo:dh y=true) (hw:au ops L g=some true) (hd:Nat.blt d Γ.n=true)
  (hk:DS q Γ ops rest K k ((d,.d (.int .i64 (minI m n)))::L) H):DS q Γ ops (⟨some d,.call { callee:=.builtin .min,args:=#[x,y],argTypes:=#[t,t2] },ty,pos,af,g⟩::rest) K k L H:=by
 refine je (s:=.d (.int .i64 (minI m n))) (λe a w m'=>⟨.int .i64 (minI m n),λ_ _ _ _ w' _=>?_,RepC.int ?_⟩) hw hd hk
 ·simp [execOp,resolve,invoke,builtin,evI m' hx,evI m' hy,Builtin.min_,Builtin.min2,minI]
 ·have h1:=evIw m' hxo hx;have h2:=evIw m' hyo hy;unfold minI;split<;>assumption
theorem ds_max {d t t2 ty:Nat} {pos:String} {af:Array Edge} {g:Option (Nat×Bool)} {m n:Int} (hx:ap L x = .d (.int .i64 m)) (hy:ap L y = .d (.int .i64 n)) (hxo:dh x=true) (hyo:dh y=true) (hw:au ops L g=some true) (hd:Nat.blt d Γ.n=true)
  (hk:DS q Γ ops rest K k ((d,.d (.int .i64 (maxI m n)))::L) H):DS q Γ ops (⟨some d,.call { callee:=.builtin .max,args:=#[x,y],argTypes:=#[t,t2] },ty,pos,af,g⟩::rest) K k L H:=by
 refine je (s:=.d (.int .i64 (maxI m n))) (λe a w m'=>⟨.int .i64 (maxI m n),λ_ _ _ _ w' _=>?_,RepC.int ?_⟩) hw hd hk
 ·simp [execOp,resolve,invoke,builtin,evI m' hx,evI m' hy,Builtin.max_,Builtin.max2,maxI]
 ·have h1:=evIw m' hxo hx;have h2:=evIw m' hyo hy;unfold maxI;split<;>assumption
end
theorem fold_take {f:Int->Int->Int} {x:Int} {l:List Int} {i:Nat} (hi:i<l.length):(l.take (i+1)).foldl f x=f ((l.take i).foldl f x) l[i]:=by
 rw [An hi,List.foldl_append];rfl
theorem sumI_take {l:List Int} {i:Nat} (hi:i<l.length):(l.take (i+1)).sum=(l.take i).sum+l[i]:=by
 rw [An hi,List.sum_append];simp
theorem sum_bd:∀ (l:List Int),(∀ x∈l,-1000000<=x/\x<=1000000)->-1000000*(l.length:Int)<=l.sum/\l.sum<=1000000*(l.length:Int)
 | [],_=>by simp
 | x::l,h=>by
  have h1:=sum_bd l λy hy=>h y (Ag _ hy)
  have h2:=h x (Ac ..)
  rw [List.sum_cons,Bj];omega
attribute [local irreducible] DW DS DL DQ Ev FnOk FnP ef bt DT
theorem min_fn (x:Int) (l:List Int):Fn 172 [.d (.slice 1 ((x::l).map aq))] (λr=>r = .d (.int .i64 (minL (x::l)))):=by
 refine fqE Tryz.func172 ?_;intro O w0 E0 β0;have la:((x::l).map aq).length=l.length+1:=Aa _;refine o9 (t:=0) rfl (λhk=>?_);repeat' (first|refine zs ?_|(exfalso;omega))
 refine ag (ι:=Nat) (λi=>⟨0,[(0,.d (.slice 1 ((x::l).map aq))),(3,.d (.int .i64 ((l.take i).foldl minI x))),(4,.d (.int .i64 ((i+1:Nat):Int)))],[]⟩)
  (λi=>i<=l.length) (λi=>l.length-i) 0 (Ak _) (er id) ?_
 intro i g1;dsimp only at g1 ⊢;by_cases hi:i<l.length
 ·have hst:=fold_take (f:=minI) (x:=x) hi;repeat' (first|(refine ds_min rfl rfl rfl rfl rfl rfl ?_)|(first|refine zr ?_|(refine zm ?_ ?_<;>intro hg)|fail))
  all_goals try (exfalso;omega)
  exact⟨i+1,hi,ai id ⟨rfl,by rw [hst];rfl,rfl,trivial⟩ trivial rfl rfl rfl rfl rfl rfl,by omega⟩
 ·rw [Ai (by omega)];repeat' (first|refine zr ?_|(refine zm ?_ ?_<;>intro hg)|(exfalso;omega))
  exact⟨.inl rfl,_,rfl,rfl,rfl⟩
theorem max_fn (x:Int) (l:List Int):Fn 173 [.d (.slice 1 ((x::l).map aq))] (λr=>r = .d (.int .i64 (maxL (x::l)))):=by
 refine fqE Tryz.func173 ?_;intro O w0 E0 β0;have la:((x::l).map aq).length=l.length+1:=Aa _;refine o9 (t:=0) rfl (λhk=>?_);repeat' (first|refine zs ?_|(exfalso;omega))
 refine ag (ι:=Nat) (λi=>⟨0,[(0,.d (.slice 1 ((x::l).map aq))),(3,.d (.int .i64 ((l.take i).foldl maxI x))),(4,.d (.int .i64 ((i+1:Nat):Int)))],[]⟩)
  (λi=>i<=l.length) (λi=>l.length-i) 0 (Ak _) (er id) ?_
 intro i g1;dsimp only at g1 ⊢;by_cases hi:i<l.length
 ·have hst:=fold_take (f:=maxI) (x:=x) hi;repeat' (first|(refine ds_max rfl rfl rfl rfl rfl rfl ?_)|(first|refine zr ?_|(refine zm ?_ ?_<;>intro hg)|fail))
  all_goals try (exfalso;omega)
  exact⟨i+1,hi,ai id ⟨rfl,by rw [hst];rfl,rfl,trivial⟩ trivial rfl rfl rfl rfl rfl rfl,by omega⟩
 ·rw [Ai (by omega)];repeat' (first|refine zr ?_|(refine zm ?_ ?_<;>intro hg)|(exfalso;omega))
  exact⟨.inl rfl,_,rfl,rfl,rfl⟩
theorem folded_fn (fold:Int) (l:List Int) (hl:l≠[]) (hn:∀ x∈l,-1000000<=x/\x<=1000000) (hlen:l.length<=1000000):Fn 121 [.d (.int .i64 fold),.d (.slice 1 (l.map aq))] (λr=>r = .tup [.d (.int .i64 (valP fold l)),.d (.bool (okP fold l))]):=by
 refine fqE Tryz.func121 ?_;intro O w0 E0 β0;have la:(l.map aq).length=l.length:=Aa _;have w3:=min_fn (l.headD 0) l.tail;have w4:=max_fn (l.headD 0) l.tail;rw [show l.headD 0::l.tail=l by cases l with|nil=>exact absurd rfl hl|cons x l=>rfl] at w3 w4;have w5:=qg l.sum;repeat' ((fail_if_success (apply ip 8));(first|refine zr ?_|refine z21 ?_ (hc:=by apply w3)|refine z21 ?_ (hc:=by apply w4)|(refine zm ?_ ?_<;>intro hg)|fail))
 ·exact⟨.inl rfl,.tup [.d (.int .i64 (l.map aq).length),.d (.bool true)],rfl,rfl,by unfold valP okP;simp_all⟩
 ·exact⟨.inl rfl,.tup [.d (.int .i64 (minL l)),.d (.bool true)],rfl,rfl,by unfold valP okP;simp_all⟩
 ·exact⟨.inl rfl,.tup [.d (.int .i64 (maxL l)),.d (.bool true)],rfl,rfl,by unfold valP okP;simp_all⟩
 refine o9 (t:=1) rfl (λhk=>?_);repeat' fail
 refine ag (ι:=Nat) (λi=>⟨0,[(1,.d (.slice 1 (l.map aq))),(6,.d (.int .i64 (l.take i).sum)),(22,.d (.slice 1 (l.map aq))),(23,.d (.int .i64 l.length)),(24,.d (.int .i64 i))],[]⟩)
  (λi=>i<=l.length) (λi=>l.length-i) 0 (Ak _) (ai id ⟨rfl,rfl,rfl,by rw [<- la];rfl,rfl,trivial⟩ trivial rfl rfl rfl rfl rfl rfl) ?_
 intro i g1;dsimp only at g1 ⊢;by_cases hi:i<l.length
 ·have hst:=sumI_take hi;have hb:=sum_bd (l.take (i+1)) λx hx=>hn x (List.mem_of_mem_take hx)
  have hx:=hn l[i] (Aj hi);rw [Aq] at hb;repeat' (first|refine zs ?_|(refine zm ?_ ?_<;>intro hg)|(exfalso;omega))
  exact⟨i+1,hi,ai id ⟨rfl,by rw [hst];rfl,rfl,rfl,rfl,trivial⟩ trivial rfl rfl rfl rfl rfl rfl,by omega⟩
 ·rw [Ai (by omega)];repeat' (first|refine zr ?_|refine z21 ?_ (hc:=by apply w5)|(refine zm ?_ ?_<;>intro hg)|(exfalso;omega))
  exact⟨.inl rfl,.tup [.d (.int .i64 l.sum),.d (.bool (numB l.sum))],rfl,rfl,by unfold valP okP;simp_all⟩
end
end Go.Proofs.YtapciiffpnociadGreat
