/- Several texts in one: MoR VwP StrC StrD StrE StrF StrR StrI MoS MoT RuGp RuZ. Condition: none. -/
import Derived.Test.YtapciiffpnociaaGreatP21
import Derived.Test.YtapciiffpnociaaGreatP16
import Derived.Test.YtapciiffpnociaaGreatP12
import Derived.Test.YtapciiffpnociaaGreatP11
import Derived.Test.YtapciiffpnociaaGreatP10
import Derived.Test.YtapciiffpnociaaGreatP17
import Derived.Test.YtapciiffpnociaaGreatP09
import Derived.Test.YtapciiffpnociaaGreatP20
import Derived.Test.YtapciiffpnociaaGreatP15
namespace Go.Proofs.YtapciiffpnociaaGreat
theorem least_lt {n:Nat} {E:List Edg} (hE:edgOk n E) (hF:FitE n E (L0 E n n)) (i:Nat) (hi:i < n):(L0 E n n).getD i 0 < n:=by
 apply Classical.byContradiction
 intro hgt
 have hgt:(n:Int)≤(L0 E n n).getD i 0:=by omega
 have hin:∀ v:Nat,v≤n→(v:Int)∈L0 E n n:=by
  intro v hv2
  apply Classical.byContradiction
  intro hnot
  have hnv:∀ j,j < n→(L0 E n n).getD j 0≠v:=by
   intro j hj h
   apply hnot
   rw [List.getD,List.getElem?_eq_getElem (by rw [jw];exact hj),Option.getD_some] at h
   rw [← h]
   exact List.getElem_mem _
  let M:List Int:=(List.range n).map fun j=>if (v:Int) < (L0 E n n).getD j 0 then (L0 E n n).getD j 0 - 1 else (L0 E n n).getD j 0
  have hM:∀ j,j < n→M.getD j 0=if (v:Int) < (L0 E n n).getD j 0 then (L0 E n n).getD j 0 - 1 else (L0 E n n).getD j 0:=fun j hj=>by rw [ic,if_pos hj]
  have hfit:FitE n E M:=by
   refine⟨by simp [M],fun j=>?_,fun e he=>?_⟩
   ·rw [ic]
    split
    ·have:=hF.2.1 j
     split <;> omega
    ·exact Int.le_refl _
   ·obtain⟨hp,hq,hs0,hs1⟩:=hE e he
    have h1:=hF.2.2 e he
    have h2:=hnv e.q hq
    rw [hM _ hp,hM _ hq]
    split <;> split <;> omega
  have h3:=L0_below hE hfit n i
  have h5:=hnv i hi
  rw [hM i hi,if_pos (by omega)] at h3
  omega
 have:=pigeon (n + 1) ((L0 E n n).map (· + 1)) fun v h1 h2=>List.mem_map.2 ⟨((v - 1:Nat):Int),hin (v - 1) (by omega),by omega⟩
 rw [List.length_map,jw] at this
 omega
theorem prgR_of {p:Prg} (h:dh du p=0):PrgR p:=by
 obtain⟨h1,h2,h3,h4⟩:=progE_rule h
 exact⟨h1,h2,h3,h4⟩
theorem docLv_fit {p:Prg} (h:dh du p=0) (hd:docOk p=true):LvFit p (eo p)∧∀ r∈p.rules,0≤(eo p).getD r.pred.toNat 0∧(eo p).getD r.pred.toNat 0 < p.arity.length:=by
 have hok:=progE_ok h
 have hE:=edgP_ok hok
 rw [docOk_eq p hok,decide_eq_true_eq] at hd
 have hfit:=fit_of_rest hE hd
 rw [docLv_eq p hok,hd]
 refine⟨⟨jw _,fun r hr l hl hk=>?_⟩,fun r hr=>⟨hfit.2.1 _,?_⟩⟩
 ·have hk1:=((hok.each r hr).lits l hl).kind.1
  have hh:dv l=true:=by
   cases hb:dv l with
   | true=>rfl
   | false=>exact absurd ((hangs_kind hk1).2 hb) (by omega)
  have:=hfit.2.2 ⟨r.pred.toNat,l.pred.toNat,jt r.fold l⟩ (List.mem_flatMap.2 ⟨r,hr,List.mem_map.2 ⟨l,List.mem_filter.2 ⟨hl,hh⟩,rfl⟩⟩)
  rw [liftN_S]
  exact this
 ·have hp:=(hok.each r hr).pred
  exact least_lt hE hfit r.pred.toNat (by omega)
def mErr (p:Prg) (l:List Fct):Int:=if dh du p≠0 then dh du p else if docOk p=false then 4 else factsE p.arity l
inductive ModelR (p:Prg) (l:List Fct):Int→List Fct→Prop
 | bad (h:mErr p l≠0):ModelR p l (mErr p l) []
 | ok (m:List Fct) (h:mErr p l=0) (hr:RunTo p (eo p) l p.arity.length m):ModelR p l 0 m
 | much (h:mErr p l=0) (hr:¬ ∃ m,RunTo p (eo p) l p.arity.length m):ModelR p l 2 []
theorem ModelR.total (p:Prg) (l:List Fct):∃ e m,ModelR p l e m:=by
 by_cases h:mErr p l=0
 ·by_cases hr:∃ m,RunTo p (eo p) l p.arity.length m
  ·obtain⟨m,hr⟩:=hr
   exact⟨0,m,.ok m h hr⟩
  ·exact⟨2,[],.much h hr⟩
 ·exact⟨_,[],.bad h⟩
theorem ModelR.unique {p:Prg} {l:List Fct} {e e':Int} {m m':List Fct} (h:ModelR p l e m) (h':ModelR p l e' m'):e=e'∧m=m':=by
 cases h with
 | bad h=>cases h' with
  | bad=>exact⟨rfl,rfl⟩
  | ok _ h2=>exact absurd h2 h
  | much h2=>exact absurd h2 h
 | ok _ h hr=>cases h' with
  | bad h2=>exact absurd h h2
  | ok _ _ hr'=>exact⟨rfl,hr.unique hr'⟩
  | much _ hn=>exact absurd ⟨_,hr⟩ hn
 | much h hn=>cases h' with
  | bad h2=>exact absurd h h2
  | ok _ _ hr'=>exact absurd ⟨_,hr'⟩ hn
  | much=>exact⟨rfl,rfl⟩
theorem ModelR.run {p:Prg} {l m:List Fct} (h:mErr p l=0) (hr:ModelR p l 0 m):RunTo p (eo p) l p.arity.length m:=by
 generalize he:(0:Int)=e at hr
 cases hr with
 | bad h2=>exact absurd h h2
 | ok _ _ hr=>exact hr
 | much=>cases he
theorem ModelR.ok0 {p:Prg} {l m:List Fct} (hr:ModelR p l 0 m):mErr p l=0:=by
 generalize he:(0:Int)=e at hr
 cases hr with
 | bad h2=>exact absurd he.symm h2
 | ok _ h _=>exact h
 | much=>cases he
structure MOk (p:Prg) (l:List Fct):Prop where
 prog:dh du p=0
 pr:PrgR p
 fit:LvFit p (eo p)
 lvs:∀ r∈p.rules,0≤(eo p).getD r.pred.toNat 0∧(eo p).getD r.pred.toNat 0 < p.arity.length
 doc:docOk p=true
 len:l.length≤60
 facts:∀ x∈l,FctOk p.arity x
theorem factsE_ok {arity:List Int} {l:List Fct} (h:factsE arity l=0):l.length≤60∧∀ x∈l,FctOk arity x:=by
 unfold factsE at h
 split at h;· cases h
 exact⟨by omega,fun x hx=>factE_ok (gv h x hx)⟩
theorem mOk {p:Prg} {l:List Fct} (h:mErr p l=0):MOk p l:=by
 unfold mErr at h
 split at h
 ·rename_i h1;exact absurd h h1
 rename_i h1
 split at h;· cases h
 rename_i h2
 have h1:dh du p=0:=by simpa using h1
 have h2:docOk p=true:=by simpa using h2
 obtain⟨q1,q2⟩:=factsE_ok h
 obtain⟨f1,f2⟩:=docLv_fit h1 h2
 exact⟨h1,prgR_of h1,f1,f2,h2,q1,q2⟩
theorem ModelR.strict {p:Prg} {l:List Fct} {e:Int} {m:List Fct} (h:ModelR p l e m):Strict m∧m.length≤60∧(∀ x∈m,FctOk p.arity x):=by
 cases h with
 | bad=>exact⟨.nil,by simp,fun _ h=>by simp at h⟩
 | ok _ h hr =>
  have:=RunTo.ok (mOk h).facts (mOk h).len hr
  exact⟨this.1,this.2.1,this.2.2.1⟩
 | much=>exact⟨.nil,by simp,fun _ h=>by simp at h⟩
theorem fit_heads {p:Prg} {lv:List Int} {n:Int} {m M:List Fct} (hp:PrgR p) (hl:LvFit p lv) (h:Fit (lvV p lv n m) m M):∀ x∈M,x∈m∨∃ r∈(lvV p lv n m).rs,x∈hdW M r:=by
 have hV:=lvV_ok hp hl n m
 obtain⟨t1,t2⟩:=bn (m++((lvV p lv n m).rs.flatMap fun r=>hdW M r))
 have hTM:∀ x∈bq (m++((lvV p lv n m).rs.flatMap fun r=>hdW M r)),x∈M:=by
  intro x hx
  rcases List.mem_append.1 ((t2 x).1 hx) with hx|hx
  ·exact h.good.sub x hx
  ·obtain⟨r,hr,hx⟩:=List.mem_flatMap.1 hx
   exact h.good.cl r hr x hx
 have hA:(lvV p lv n m).A (bq (m++((lvV p lv n m).rs.flatMap fun r=>hdW M r))):=by
  refine⟨fun x hx=>h.good.a.1 x (hTM x hx),fun x hx=>⟨fun hxT=>(h.good.a.2 x hx).1 (hTM x hxT),fun hx0=>(t2 x).2 (List.mem_append_left _ hx0)⟩⟩
 have hgood:Good (lvV p lv n m) m (bq (m++((lvV p lv n m).rs.flatMap fun r=>hdW M r))):=by
  refine⟨t1,hA,fun x hx=>(t2 x).2 (List.mem_append_left _ hx),fun r hr=>?_,fun r hr x hx=>?_⟩
  ·exact (hV.mono _ M hA h.good.a t1 h.good.strict hTM r hr (h.good.few r hr)).1
  ·exact (t2 x).2 (List.mem_append_right _ (List.mem_flatMap.2 ⟨r,hr,(hV.mono _ M hA h.good.a t1 h.good.strict hTM r hr (h.good.few r hr)).2 x hx⟩))
 intro x hx
 rcases List.mem_append.1 ((t2 x).1 (h.least _ hgood x hx)) with hx|hx
 ·exact .inl hx
 ·obtain⟨r,hr,hx⟩:=List.mem_flatMap.1 hx
  exact .inr ⟨r,hr,hx⟩
theorem same_ways {arity:List Int} {r:Rul} {S T:List Fct} (hr:RulR arity r) (ha:∀ i,0≤arity.getD i 0∧arity.getD i 0≤3) (hS:∀ x∈S,FctOk arity x) (hT:∀ x∈T,FctOk arity x) (nS:S.Nodup) (nT:T.Nodup)
  (hk:∀ l∈r.body,l.kind≤2→∀ x:Fct,x.pred=l.pred→(x∈S↔x∈T)):ed S r=ed T r∧gk S r=gk T r:=by
 have sS:=rulS_mk hr ha hS
 have sT:=rulS_mk hr ha hT
 obtain⟨_,p2,p3⟩:=ways_perm nS sS.ok.lit sS.bd
 obtain⟨_,q2,q3⟩:=ways_perm nT sT.ok.lit sT.bd
 have heq:∀ w,w∈ij S r.body (ld r.body) (e0 r.vars.toNat)↔w∈ij T r.body (ld r.body) (e0 r.vars.toNat):=by
  intro w
  rw [p3 w,q3 w]
  refine and_congr_right fun _=>forall_congr' fun l=>forall_congr' fun hl=>?_
  rw [holdE_cong (S:=S) (T:=T) fun h12=>hk l hl (by omega)]
 have hw:waysL S r.vars.toNat r.body=waysL T r.vars.toNat r.body:=waysL_eq (waysL_sort _ _ _) ((jd _ _ _).trans (same_members p2 q2 heq))
 unfold gk ed
 rw [hw]
 exact⟨rfl,rfl⟩
theorem RunTo.stay {p:Prg} {lv:List Int} {given:List Fct}:∀ {k n:Nat} {m M:List Fct},RunTo p lv given n m→RunTo p lv given (n + k) M→(∀ x∈m,x∈M)∧∀ x:Fct,lv.getD x.pred.toNat 0 < n→(x∈M↔x∈m)
 | 0,n,m,M,h,g=>by
  have:=RunTo.unique h g
  subst this
  exact⟨fun _ h=>h,fun _ _=>Iff.rfl⟩
 | k + 1,n,m,M,h,⟨M',g1,g2⟩=>by
  obtain⟨i1,i2⟩:=RunTo.stay (k:=k) h g1
  refine⟨fun x hx=>g2.good.sub x (i1 x hx),fun x hx=>?_⟩
  rw [g2.good.a.2 x (by show _ < ((n + k:Nat):Int);omega)]
  exact i2 x hx
theorem RunTo.back {p:Prg} {lv:List Int} {given:List Fct}:∀ {k n:Nat} {M:List Fct},RunTo p lv given (n + k) M→∃ m,RunTo p lv given n m
 | 0,_,M,h=>⟨M,h⟩
 | k + 1,_,_,⟨_,h,_⟩=>RunTo.back (k:=k) h
theorem RunTo.heads {p:Prg} {lv:List Int} {given:List Fct} (hp:PrgR p) (hl:LvFit p lv) (hg:∀ x∈given,FctOk p.arity x) (hlen:given.length≤60) {N:Nat} {M:List Fct} (h:RunTo p lv given N M) {r:Rul} (hr:r∈p.rules)
  (h0:0≤lv.getD r.pred.toNat 0) (hN:lv.getD r.pred.toNat 0 < N):ed M r=true∧∀ x∈hdW M r,x∈M:=by
 obtain⟨n,hn⟩:∃ n:Nat,(n:Int)=lv.getD r.pred.toNat 0:=⟨(lv.getD r.pred.toNat 0).toNat,Int.toNat_of_nonneg h0⟩
 have hN':n + 1 + (N - (n + 1))=N:=by omega
 have hM:=h
 rw [← hN'] at hM
 obtain⟨m1,h1⟩:=RunTo.back hM
 obtain⟨s1,s2⟩:=RunTo.stay h1 hM
 obtain⟨m,g1,g2⟩:=h1
 have hm1:=RunTo.ok hg hlen (n:=n + 1) (m:=m1) ⟨m,g1,g2⟩
 have hMok:=RunTo.ok hg hlen h
 have hrs:r∈(lvV p lv n m).rs:=List.mem_filter.2 ⟨hr,decide_eq_true hn.symm⟩
 obtain⟨e1,e2⟩:=same_ways (hp.rul r hr) hp.ar hMok.2.2.1 hm1.2.2.1 hMok.1.nodup hm1.1.nodup fun l hlb hk x hx=>s2 x (by
  have h1:=hl.fit r hr l hlb hk
  have h2:0≤liftN r.fold l:=by unfold liftN;split <;> omega
  rw [hx];omega)
 refine⟨e1.trans (g2.good.few r hrs),fun x hx=>s1 x ?_⟩
 unfold hdW at hx
 rw [e2] at hx
 exact g2.good.cl r hrs x hx
theorem RunTo.from {p:Prg} {lv:List Int} {given:List Fct} (hp:PrgR p) (hl:LvFit p lv) (hg:∀ x∈given,FctOk p.arity x) (hlen:given.length≤60):∀ {N:Nat} {M:List Fct},RunTo p lv given N M→∀ x∈M,x∈given∨∃ r∈p.rules,0≤lv.getD r.pred.toNat 0∧lv.getD r.pred.toNat 0 < N∧x∈hdW M r
 | 0,M,h,x,hx=>by
  subst h
  exact .inl (((bn _).2 x).1 hx)
 | N + 1,M,⟨m,h1,h2⟩,x,hx=>by
  have hMall:RunTo p lv given (N + 1) M:=⟨m,h1,h2⟩
  have hMok:=RunTo.ok hg hlen hMall
  have hmok:=RunTo.ok hg hlen h1
  rcases fit_heads hp hl h2 x hx with hx|⟨r,hr,hx⟩
  ·rcases RunTo.from hp hl hg hlen h1 x hx with hx|⟨r,hr,h0,hN,hx⟩
   ·exact .inl hx
   ·refine .inr ⟨r,hr,h0,by omega,?_⟩
    obtain⟨e1,e2⟩:=same_ways (hp.rul r hr) hp.ar hMok.2.2.1 hmok.2.2.1 hMok.1.nodup hmok.1.nodup fun l hlb hk y hy=>h2.good.a.2 y (by
     have h1:=hl.fit r hr l hlb hk
     have h2:0≤liftN r.fold l:=by unfold liftN;split <;> omega
     rw [hy];omega)
    unfold hdW at hx ⊢
    rw [e2];exact hx
  ·obtain⟨hr,hn⟩:=List.mem_filter.1 hr
   have hn:=of_decide_eq_true hn
   exact .inr ⟨r,hr,by omega,by omega,hx⟩
open Go Go.RowKit
theorem mdl_ex (p:Prg) (l:List Fct):∃ x:Int × List Fct,ModelR p l x.1 x.2:=by
 obtain⟨e,m,h⟩:=ModelR.total p l
 exact⟨(e,m),h⟩
noncomputable def mdl (p:Prg) (l:List Fct):Int × List Fct:=Classical.choose (mdl_ex p l)
theorem mdl_is (p:Prg) (l:List Fct):ModelR p l (mdl p l).1 (mdl p l).2:=Classical.choose_spec (mdl_ex p l)
theorem mdl_none {p:Prg} {l:List Fct} (h:(mdl p l).1≠0):(mdl p l).2=[]:=by
 have hm:=mdl_is p l
 generalize mdl p l=x at h hm
 obtain⟨e,m⟩:=x
 dsimp only at h hm ⊢
 cases hm with
 | bad _=>rfl
 | ok _ _ _=>exact absurd rfl h
 | much _ _=>rfl
def saidF (r:Rpl):List Fct:=bq ((keptU r.has).flatMap Upd.says)
def de (p:Prg) (r:Rpl):List Fct:=(saidF r).filter fun f=>decide (ky p.arity f=0)
noncomputable def putR (r:Rpl) (u:Upd):Rpl:=open Classical in if h:∃ r2,RplOk (u::r.both) r2 then Classical.choose h else r
theorem putR_is {r r2:Rpl} {u:Upd} (h:RplOk (u::r.both) r2):putR r u=r2:=by
 unfold putR
 rw [dif_pos ⟨r2,h⟩]
 exact RplOk.unique (Classical.choose_spec (⟨r2,h⟩:∃ r2,RplOk (u::r.both) r2)) h
noncomputable def openV (p:Prg) (r:Rpl):List Fct × Int:=if dh du p≠0 then ([],dh du p) else if ez r≠0 then ([],ez r) else ((mdl p (de p r)).2,(mdl p (de p r)).1)
theorem openV_none {p:Prg} {r:Rpl} (h:(openV p r).2≠0):(openV p r).1=[]:=by
 unfold openV at h ⊢
 split
 ·rfl
 ·rename_i h1
  rw [if_neg h1] at h
  split
  ·rfl
  ·rename_i h2
   rw [if_neg h2] at h
   exact mdl_none h
abbrev Chg:=List Fct × List Fct
noncomputable def stepV (p:Prg) (r:Rpl) (m:List Fct) (u:Upd):Rpl × List Fct × Chg × Int :=
 if dy u≠0 then (r,m,([],[]),dy u)
 else if hasU r.both u.id=true then (r,m,([],[]),0)
 else if 200≤r.both.length then (r,m,([],[]),2)
 else if (mdl p (de p (putR r u))).1≠0 then (putR r u,(mdl p (de p (putR r u))).2,([],[]),(mdl p (de p (putR r u))).1)
 else (putR r u,(mdl p (de p (putR r u))).2,(bq (eh (mdl p (de p (putR r u))).2 m),bq (eh m (mdl p (de p (putR r u))).2)),0)
noncomputable def runV (p:Prg):List Upd→Rpl→List Fct→List Chg→Rpl × List Fct × List Chg × Int
 | [],r,m,acc=>(r,m,acc,0)
 | u::l,r,m,acc=>if (stepV p r m u).2.2.2≠0 then ((stepV p r m u).1,(stepV p r m u).2.1,acc++[(stepV p r m u).2.2.1],(stepV p r m u).2.2.2)
  else runV p l (stepV p r m u).1 (stepV p r m u).2.1 (acc++[(stepV p r m u).2.2.1])
abbrev rplO:Rpl:=⟨[],[]⟩
noncomputable def delivV (p:Prg) (r:Rpl) (l:List Upd):Rpl × List Chg × Int :=
 if (openV p r).2≠0 then (rplO,[],(openV p r).2)
 else if 200 < l.length then (rplO,[],2)
 else if (runV p l r (openV p r).1 []).2.2.2≠0 then (rplO,[],(runV p l r (openV p r).1 []).2.2.2)
 else ((runV p l r (openV p r).1 []).1,(runV p l r (openV p r).1 []).2.2.1,0)
structure RpGood (r:Rpl):Prop where
 ok:RplOk r.both r
 len:r.has.length + r.waits.length≤200
 each:∀ u∈r.both,dy u=0
theorem RpGood.of {r:Rpl} (h:ez r=0):RpGood r:=by
 obtain⟨h1,h2,h3⟩:=checkR_ok h
 exact⟨h3,h1,h2⟩
theorem RpGood.check {r:Rpl} (h:RpGood r):ez r=0:=checkR_zero h.ok h.len h.each
attribute [local irreducible] DW DS DL DQ Ev FnOk FnP em b9 DWr
def ig (r:Rul):List (List SV):=(r.body.filter dv).map fun x=>[.d (.int .i64 x.pred),.d (.bool (strictB r.fold x))]
def cntH (r:Rul) (i:Nat):Nat:=((r.body.take i).filter dv).length
set_option maxHeartbeats 8000000 in
theorem hangs_fn (r:Rul):Fn 140 [elRul r] (fun res=>res = .fn 151 [.pd (dx r)]):=by
 refine ak _ Tryz.func140 rfl rfl (by kernel_rfl) ?_
 intro O w0 E0 β0
 repeat' (first|refine z0 ?_|apply ag|apply ae|refine z16 ?_|apply aa|refine z1 ?_|fail)
 refine ba (ent_freeze (ds:=dx r) 2 0 rfl rfl) ?_
 repeat' (apply aj)
 exact⟨.inl rfl,_,rfl,rfl,rfl⟩
theorem hangsX_get {r:Rul} {j:Nat} (h:j < (ig r).length):∃ hj:j < (r.body.filter dv).length,(ig r)[j]=[.d (.int .i64 ((r.body.filter dv)[j]).pred),.d (.bool (strictB r.fold (r.body.filter dv)[j]))]:=by
 have h':j < (r.body.filter dv).length:=by unfold ig at h;rwa [List.length_map] at h
 exact⟨h',by simp [ig]⟩
theorem hangsX_len (r:Rul):(ig r).length=(r.body.filter dv).length:=by unfold ig;rw [List.length_map]
theorem hangsX_each (r:Rul):∀ x∈ig r,2=x.length∧SV.lowL 0 x=true:=by
 intro x hx
 unfold ig at hx
 obtain⟨y,_,rfl⟩:=List.mem_map.1 hx
 exact⟨rfl,rfl⟩
theorem cntH_skip {r:Rul} {i:Nat} (hi:i < r.body.length) (h:dv r.body[i]=false):cntH r (i + 1)=cntH r i:=by
 unfold cntH
 rw [List.take_succ_eq_append_getElem hi,List.filter_append,List.length_append]
 simp [h]
theorem cntH_step {r:Rul} {i:Nat} (hi:i < r.body.length) (h:dv r.body[i]=true):cntH r (i + 1)=cntH r i + 1:=by
 unfold cntH
 rw [List.take_succ_eq_append_getElem hi,List.filter_append,List.length_append]
 simp [h]
theorem cntH_all {r:Rul} {i:Nat} (hi:r.body.length≤i):cntH r i=(ig r).length:=by
 unfold cntH ig
 rw [List.take_of_length_le hi,List.length_map]
theorem hangsX_at {r:Rul} {i:Nat} (hi:i < r.body.length) (h:dv r.body[i]=true):∃ hc:cntH r i < (ig r).length,(ig r)[cntH r i]=[.d (.int .i64 r.body[i].pred),.d (.bool (strictB r.fold r.body[i]))]:=by
 have hsplit:r.body.filter dv=(r.body.take i).filter dv++r.body[i]::(r.body.drop (i + 1)).filter dv:=by
  conv=>lhs;rw [← List.take_append_drop i r.body,List.filter_append,List.drop_eq_getElem_cons hi]
  rw [List.filter_cons_of_pos h]
 have h1:(ig r)[cntH r i]? = some [.d (.int .i64 r.body[i].pred),.d (.bool (strictB r.fold r.body[i]))]:=by
  unfold ig cntH
  rw [hsplit,List.getElem?_map,List.getElem?_append_right (Nat.le_refl _),Nat.sub_self]
  rfl
 obtain⟨h2,h3⟩:=List.getElem?_eq_some_iff.1 h1
 exact⟨h2,h3⟩
abbrev hgL (yv pv bv:Value) (n i:Nat):Sl:=[(0,.val yv),(1,.val pv),(6,.val bv),(7,.d (.int .i64 n)),(8,.d (.int .i64 i))]
set_option maxHeartbeats 4000000 in
set_option maxHeartbeats 8000000 in
theorem hangs1_seq (r:Rul):SeqD Tryz.prog 151 [.pd (dx r)] (ig r):=by
 refine⟨by kernel_rfl,?_⟩
 intro X e0 W0 lb l J Jx hX hlb hJ0 hfr hJb hJxb hy
 match lb,hlb with
 | [pv],⟨hpd,_⟩ =>
  have hpd':=hpd
  obtain⟨b,off,hpv,hb,hnX,hcells⟩:=hpd'
  obtain⟨u3,hc3,hr3⟩:=hcells 3 (by show 3 < 5;omega)
  have hr3:RepC X W0 u3 (.slice 4 (r.body.map bt)):=hr3
  obtain⟨ao,cap,hu3,hcap,hmax,_⟩:=hr3.slice_inv
  have hlen:(r.body.map bt).length=r.body.length:=List.length_map _
  rw [hlen] at hu3 hcap
  have hbl:r.body.length≤maxLen:=by omega
  have hbm:r.body.length≤9223372036854775807:=by unfold maxLen at hbl;omega
  refine callsIn_wide.1 (callsIn_of_wp_marks (F:=Fence.wide) (n:=0) Tryz.func151 rfl trivial ?_)
  have hF0:Flat 34 [(0,.val (.func (.yield l) #[] #[])),(1,.val pv)] { tmps:=(#[.func (.yield l) #[] #[]]++[pv].toArray)++Array.replicate 32 undef,defers:=[] }:=by
   refine⟨by simp,rfl,fun t X e w=>?_⟩
   rw [Sl.get_cons]
   split
   ·rename_i h;subst h;simp [Rel]
   ·rw [Sl.get_cons]
    split
    ·rename_i h;subst h;simp [Rel]
    ·trivial
  have hret:∀ (ex:Exit) (a:Act) (W:World),(ex = .normal∨ex = .ret)→a.defers=[]→(J (ig r).length W∨Jx W) →
    bodyPostM Fence.wide 0 Tryz.prog Tryz.f151 (fun en W'=>(∃ v,en = .returned v)∧(J (ig r).length W'∨Jx W')) ex a W:=by
   rintro ex a W hx hd hj
   have:LeavesInM Fence.wide 0 Tryz.prog Tryz.f151 a.tmps (fun en W'=>(∃ v,en = .returned v)∧(J (ig r).length W'∨Jx W')) a.defers .returning W:=by
    rw [hd]
    exact⟨.tuple #[],by simp [results,Tryz.f151],⟨_,rfl⟩,hj⟩
   rcases hx with rfl|rfl <;> exact this
  obtain⟨QQ,hQQ⟩:∃ QQ,QQ=bodyPostM Fence.wide 0 Tryz.prog Tryz.f151 (fun en W'=>(∃ v,en = .returned v)∧(J (ig r).length W'∨Jx W')):=⟨_,rfl⟩
  rw [← hQQ] at hret ⊢
  clear hQQ
  refine wpIn_seq (wpIn_mono (Q:=fun ex a' w'=>ex = .normal∧Flat 34 (hgL (.func (.yield l) #[] #[]) pv u3 r.body.length 0) a'∧Below W0.heap.size W0 w') ?_ ?_)
  ·have m0:=hF0.models (P:=Tryz.prog) (τ:=tab) (τok:=cn) (O:=X) W0 hX
   refine dwr_run m0 (dwr_of rfl ?_)
   subst hpv hu3
   apply ds_region;exact rfl
   refine il (ev_fa_val (l:=[(0,3,1),(1,72,1),(2,3,1),(3,75,1),(4,3,1)]) rfl rfl rfl 1 rfl) rfl rfl ?_
   refine il (ev_ld_val (u:=.slice ao r.body.length cap) 5 rfl rfl rfl hc3 (fun _=>id)) rfl rfl ?_
   refine il (ev_len_val 6 (t':=74) rfl rfl hbl) rfl rfl ?_
   repeat' (first|refine z0 ?_|apply ag)
   intro e a w m
   exact⟨rfl,m.flatten ⟨rfl,rfl,rfl,rfl,rfl,trivial⟩ rfl,m.toHeap.it_below⟩
  rintro ex a0 w0 ⟨rfl,hf0,hbl0⟩
  refine wpIn_block (wpIn_loop_ghost (fun n a W=>∃ i,i≤r.body.length∧n=r.body.length - i∧Flat 34 (hgL (.func (.yield l) #[] #[]) pv u3 r.body.length i) a∧J (cntH r i) W) r.body.length ⟨0,Nat.zero_le _,rfl,hf0,hJb _ _ _ hJ0 hbl0⟩ ?_)
  rintro n a W ⟨i,hi,rfl,hf,hj⟩
  obtain⟨hsz,hfrW⟩:=hfr _ _ hj
  have hOW:∀ b,Oit X W0 W b→b < W.heap.size:=fun b h=>h.1
  have m0:=hf.models (P:=Tryz.prog) (τ:=tab) (τok:=cn) (O:=Oit X W0 W) W hOW
  have hv1:∀ {k:Nat} {L:Sl} {H:Hp} {e:Env} {a:Act} {w:World},Models (Γit Tryz.prog tab cn (Oit X W0 W) W 34) (lo k) L H e a w→L.get 1 = .val pv→Models (Γit Tryz.prog tab cn (Oit X W0 W) W 34) (lo k) ((1,.pd (dx r))::L) H e a w :=
   fun m h=>m.val_as 1 h (it_rel hsz hfrW rfl hpd m.toHeap)
  have hv6:∀ {k:Nat} {L:Sl} {H:Hp} {e:Env} {a:Act} {w:World},Models (Γit Tryz.prog tab cn (Oit X W0 W) W 34) (lo k) L H e a w→L.get 6 = .val u3→Models (Γit Tryz.prog tab cn (Oit X W0 W) W 34) (lo k) ((6,.d (.slice 4 (r.body.map bt)))::L) H e a w :=
   fun m h=>m.val_as 6 h (it_rel (e0:=e0) (s:=.d (.slice 4 (r.body.map bt))) hsz hfrW rfl hr3 m.toHeap)
  refine dwr_run m0 ?_
  have hr5:∀ (c5:Code) (a:Act) (W':World),i < r.body.length→Flat 34 (hgL (.func (.yield l) #[] #[]) pv u3 r.body.length i) a→J (cntH r (i + 1)) W' →
    DW (Γit Tryz.prog tab cn X W' 34) c5 (fun ex _ L _=>ex = .normal∧Kepts L (hgL (.func (.yield l) #[] #[]) pv u3 r.body.length (i + 1))) 0 (hgL (.func (.yield l) #[] #[]) pv u3 r.body.length i) [] →
    Code.wpIn Fence.wide 0 Tryz.prog c5 (Exit.then (fun a' w'=>∃ n',n' < r.body.length - i∧∃ i,i≤r.body.length∧n' = r.body.length - i∧Flat 34 (hgL (.func (.yield l) #[] #[]) pv u3 r.body.length i) a'∧J (cntH r i) w') (Exit.inBlock 0 (fun ex a w=>QQ ex a w))) a W':=by
   intro c5 a W' hlt hf' hj' h5
   have hO':∀ b,X b→b < W'.heap.size:=fun b h=>Nat.lt_of_lt_of_le (hX b h) (hfr _ _ hj').1
   have m1:=hf'.models (P:=Tryz.prog) (τ:=tab) (τok:=cn) (O:=X) W' hO'
   refine wpIn_mono (dw_run m1 h5) ?_
   rintro ex a2 w2 (⟨k2,L2,H2,e2,m2,rfl,hk2⟩|⟨_,_,_,_,_,_,hv,_⟩)
   ·exact⟨r.body.length - (i + 1),by omega,i + 1,by omega,rfl,m2.flatten hk2 rfl,hJb _ _ _ hj' m2.toHeap.it_below⟩
   ·exact hv.elim
  refine dwr_seq rfl ?_
  repeat' (first|refine z0 ?_|apply ag|refine z16 ?_|apply aa)
  refine dwr_seq rfl ?_
  by_cases hlt:i < r.body.length
  rotate_left
  ·repeat' (first|apply ai|apply au|apply aa|apply aq|(refine z23 ?_ ?_ <;> intro hg)|fail)
   all_goals try (exfalso;omega)
   intro e a w m
   refine hret .normal a w (.inl rfl) (m.flatten (Ls:=[]) trivial rfl).defers (.inl ?_)
   rw [← cntH_all (r:=r) (i:=i) (by omega)]
   exact hJb _ _ _ hj m.toHeap.it_below
  repeat' (first|apply ai|apply au|apply aa|apply aq|(refine z23 ?_ ?_ <;> intro hg)|fail)
  all_goals try (exfalso;omega)
  refine dwr_seqR (dwr_block ?_)
  refine dwr_seq rfl ?_
  apply ds_region;exact rfl
  refine il (ev_val ((6,.d (.slice 4 (r.body.map bt)))::_) (fun e a w m=>hv6 m rfl) (ev_index_map (f:=bt) (l:=r.body) (t':=74) rfl rfl rfl rfl rfl rfl hlt)) rfl rfl ?_
  repeat' (first|refine z0 ?_|apply ag|apply aa|refine z1 ?_|refine z3 ?_|fail)
  refine dwr_seq rfl ?_
  repeat' (first|refine z0 ?_|refine z12 ?_|apply ag|apply ae|refine z16 ?_|apply ai|apply au|refine z19 ?_|apply aa|apply aq|(refine z23 ?_ ?_ <;> intro hg)|((fail_if_success (apply bk;exact rfl));apply bl;exact rfl;exact rfl;exact rfl;all_goals intro hg))
  ·intro e a w m
   simp only [Exit.inBlock,if_true,Exit.then]
   refine hr5 _ a w hlt (m.flatten ⟨rfl,rfl,rfl,rfl,rfl,trivial⟩ rfl) (by rw [cntH_skip hlt (by unfold dv;simp_all)];exact hJb _ _ _ hj m.toHeap.it_below) ?_
   repeat' (first|refine z0 ?_|apply ag|refine z16 ?_|fail)
   exact⟨rfl,rfl,rfl,rfl,rfl,rfl,trivial⟩
  all_goals
   have hyl:dv r.body[i]=true:=by
    have h12:r.body[i].kind=1∨r.body[i].kind=2:=by omega
    unfold dv
    rcases h12 with h|h <;> simp [h]
   obtain⟨hc,hx⟩:=hangsX_at hlt hyl
   refine dwr_seqR (dwr_yieldL (l:=l) (d:=31) (N:=34) (pre:=[_,_,_,_,_,_,_,_,_,_,_]) (post:=[_]) (by rfl) (by rfl) (by rfl) (by rfl) (hgL (.func (.yield l) #[] #[]) pv u3 r.body.length i) rfl (fun b=>(32,.d (.bool (!b)))::hgL (.func (.yield l) #[] #[]) pv u3 r.body.length i) (J (cntH r (i + 1))) Jx ?_ ?_ ?_)
   ·repeat' (first|(first|refine z0 ?_|refine z12 ?_|apply ag|((fail_if_success (apply bk;exact rfl));apply bl;exact rfl;exact rfl;exact rfl;all_goals intro hg))|(refine il (ev_val ((1,.pd (dx r))::_) (fun e a w m=>hv1 m rfl) (ev_field_pd (l:=[(0,3,1),(1,72,1),(2,3,1),(3,75,1),(4,3,1)]) rfl rfl rfl rfl)) rfl rfl ?_))
    all_goals
     refine⟨rfl,rfl,⟨rfl,rfl,rfl,rfl,rfl,trivial⟩,fun e W' vs hb1 hvs=>?_⟩
     have:=hy (cntH r i) hc W W' vs hj hb1 ⟨e,by rw [hx];unfold strictB;first|(rw [decide_eq_true (by assumption),Bool.true_or];exact hvs)|(rw [decide_eq_false (by assumption),Bool.false_or];exact hvs)⟩
     rw [← cntH_step hlt hyl] at this
     exact this
   ·intro b W'
    repeat' (first|refine z0 ?_|apply ag)
    exact⟨rfl,⟨rfl,rfl,rfl,rfl,rfl,rfl,trivial⟩,rfl⟩
   ·rintro b a' W' hfl ⟨W1,hb1,hj1⟩
    have hfl':Flat 34 (hgL (.func (.yield l) #[] #[]) pv u3 r.body.length i) a':=⟨hfl.len,hfl.defers,fun t X e w=>by
     have:=hfl.slot t X e w
     rw [Sl.get_cons] at this
     split at this
     ·rename_i h;subst h;trivial
     ·exact this⟩
    have hv:a'.eval (.tmp 32) = .bool (!b):=by
     have h1:=hfl.slot 32 (fun _=>False) ⟨fun _=>0,fun _=>undef,lo 0⟩ W'
     have h1:RepC _ W' (a'.tmps.getD 32 undef) (.bool (!b)):=h1
     show a'.tmps.getD 32 undef=_
     generalize a'.tmps.getD 32 undef=v at h1 ⊢
     cases h1
     rfl
    rcases hj1 with ⟨rfl,hj1⟩|⟨rfl,hj1⟩
    ·refine wpIn_cond_false hv (wpIn_skip ?_)
     refine hr5 _ a' W' hlt hfl' (hJb _ _ _ hj1 hb1) ?_
     repeat' (first|refine z0 ?_|apply ag|refine z16 ?_|fail)
     exact⟨rfl,rfl,rfl,rfl,rfl,rfl,trivial⟩
    ·refine wpIn_cond_true hv (wpIn_ret ?_)
     exact hret .ret a' W' (.inr rfl) hfl.defers (.inr (hJxb _ _ hj1 hb1))
def predsOk (n:Nat) (l:List Rul):Prop:=∀ r∈l,(0≤r.pred∧r.pred < n)∧∀ x∈r.body,dv x=true→0≤x.pred∧x.pred < n
def rawSV:Option (List Int)→SV
 | none=>.tup [.d (.slice 1 []),.d (.bool false)]
 | some lv=>.tup [.d (.slice 1 (lv.map bi)),.d (.bool true)]
abbrev prgBk (p:Prg):HB:=.blk 26 [.d (.slice 1 (p.arity.map bi)),.d (.slice 1 (p.names.map encT)),.d (.slice 5 (p.rules.map dx))]
abbrev rawH (p:Prg) (lv:List Int) (ch:Bool):Hp:=[(0,prgBk p),(1,.blk 22 [.nils]),(2,.blk 4 [.d (.bool false)]),(3,.row 3 1 (lv.map bi)),(4,.blk 22 [.row 3]),(5,.blk 4 [.d (.bool ch)])]
set_option maxHeartbeats 8000000 in
theorem sraw_fn (p:Prg) (h10:p.arity.length≤10) (h12:p.rules.length≤12) (hp:predsOk p.arity.length p.rules):Fn 123 [jl p] (fun res=>res=rawSV (rawL p)):=by
 refine ak _ Tryz.func123 rfl rfl (by kernel_rfl) ?_
 intro O w0 E0 β0
 have la:(p.arity.map bi).length=p.arity.length:=List.length_map _
 have lr:(p.rules.map dx).length=p.rules.length:=List.length_map _
 repeat' (first|refine z0 ?_|apply ag|apply ae|refine z16 ?_|apply aa|refine z1 ?_|fail)
 refine ds_mk ((kp p.arity.length).map bi) rfl rfl (by rw [la]) rfl rfl rfl rfl rfl rfl (by show 8 * _≤_;omega) (by unfold maxLen;omega) (by unfold kp;rw [List.map_replicate];rfl) rfl rfl ?_
 repeat' (first|apply ag|apply ae|refine z16 ?_|apply ah|apply aa|refine z1 ?_|refine z3 ?_|fail)
 refine bh (ι:=Bool × List Int × Nat) (fun x=>⟨6,[(1,.loc 0 0),(2,.loc 1 0),(3,.loc 2 0),(4,.loc 4 0),(5,.loc 5 0)],rawH p x.2.1 x.1⟩)
  (fun x=>x.2.1.length=p.arity.length∧(∀ v∈x.2.1,0≤v∧v≤p.arity.length)∧(x.1=true→rawL p=rawIter p.arity.length p.rules x.2.2 x.2.1∧gap p.arity.length x.2.1 < x.2.2)∧(x.1=false→rawL p=some x.2.1)) (fun x=>x.2.2)
  (true,kp p.arity.length,p.arity.length * p.arity.length + 1) ⟨by simp [kp],fun v hv=>by rw [List.eq_of_mem_replicate hv];constructor <;> omega,fun _=>⟨rfl,by rw [gap_zeros];exact Nat.lt_succ_self _⟩,fun h=>by cases h⟩
  (ap id ⟨rfl,rfl,rfl,rfl,rfl,trivial⟩ ⟨rfl,rfl,rfl,rfl,rfl,rfl,trivial⟩ rfl rfl rfl rfl rfl rfl) ?_
 rintro⟨ch,lv0,m⟩ ⟨g1,g2,g3,g4⟩
 dsimp only at g1 g2 g3 g4 ⊢
 cases ch with
 | false =>
  have g4:=g4 rfl
  repeat' (first|refine z0 ?_|apply ag|apply ae|refine z16 ?_|apply au|refine z19 ?_|apply aa|apply aq|refine z17 ?_|refine z3 ?_|fail)
  refine ba (ent_cellseal 1 0 3 rfl rfl rfl rfl rfl) ?_
  repeat' (apply aj)
  exact⟨.inl rfl,_,rfl,rfl,by rw [g4];rfl⟩
 | true =>
  obtain⟨g5,g6⟩:=g3 rfl
  obtain⟨m,rfl⟩:∃ m',m=m' + 1:=⟨m - 1,by omega⟩
  repeat' (first|refine z0 ?_|apply ag|apply ae|refine z16 ?_|apply ah|apply ai|refine z18 ?_|apply aa|refine z3 ?_|fail)
  refine bh (ι:=Nat × List Int × Bool) (fun x=>⟨6,[(1,.loc 0 0),(2,.loc 1 0),(3,.loc 2 0),(4,.loc 4 0),(5,.loc 5 0),(17,.d (.slice 5 (p.rules.map dx))),(18,.d (.int .i64 (p.rules.map dx).length)),(19,.d (.int .i64 x.1))],rawH p x.2.1 x.2.2⟩)
   (fun x=>x.1≤p.rules.length∧rawRound p.arity.length p.rules lv0=(p.rules.drop x.1).foldl (iw p.arity.length) (some (x.2.1,x.2.2))∧Rs p.arity.length lv0 x.2.1 x.2.2) (fun x=>p.rules.length - x.1)
   (0,lv0,false) ⟨Nat.zero_le _,rfl,Rs.refl g2⟩ (ap id ⟨rfl,rfl,rfl,rfl,rfl,rfl,rfl,rfl,trivial⟩ ⟨rfl,rfl,rfl,rfl,rfl,rfl,trivial⟩ rfl rfl rfl rfl rfl rfl) ?_
  rintro⟨i,lv,ch⟩ ⟨f1,f2,f3⟩
  dsimp only at f1 f2 f3 ⊢
  have ll:(lv.map bi).length=lv.length:=List.length_map _
  by_cases hi:i < p.rules.length
  ·repeat' (first|refine z0 ?_|apply ag|apply ae|refine z16 ?_|apply ah|apply ai|apply au|apply aa|apply aq|apply bg|refine z17 ?_|refine z21 ?_ (hc:=by apply hangs_fn)|refine z1 ?_|refine z3 ?_|(refine z23 ?_ ?_ <;> intro hg)|fail)
   all_goals try (exfalso;omega)
   obtain⟨hp1,hp2⟩:=hp p.rules[i] (List.getElem_mem hi)
   have hstep:(p.rules.drop i).foldl (iw p.arity.length) (some (lv,ch))=(p.rules.drop (i + 1)).foldl (iw p.arity.length) (((p.rules[i].body.filter dv).drop 0).foldl (fh p.arity.length p.rules[i].fold p.rules[i].pred) (some (lv,ch))):=by
    rw [List.drop_eq_getElem_cons hi,List.foldl_cons,List.drop_zero];rfl
   rw [hstep] at f2
   clear hstep
   generalize p.rules[i]=r at hp1 hp2 f2 ⊢
   refine dw_range (ig r) rfl rfl (hangs1_seq r) (hangsX_each r) (by simp) [(1,.loc 0 0),(2,.loc 1 0),(3,.loc 2 0),(4,.loc 4 0),(5,.loc 5 0),(7,.loc 6 0),(17,.d (.slice 5 (p.rules.map dx))),(18,.d (.int .i64 (p.rules.map dx).length)),(19,.d (.int .i64 i))] ⟨rfl,rfl,rfl,rfl,rfl,rfl,rfl,rfl,rfl,trivial⟩ rfl
    (ι:=List Int × Bool) (fun _ x=>(7,(6,ruleB r)::rawH p x.1 x.2))
    (fun j x=>rawRound p.arity.length p.rules lv0=(p.rules.drop (i + 1)).foldl (iw p.arity.length) (((r.body.filter dv).drop j).foldl (fh p.arity.length r.fold r.pred) (some x))∧Rs p.arity.length lv0 x.1 x.2)
    (lv,ch) ⟨f2,f3⟩ rfl ?_ ?_
   ·rintro j hj ⟨lv1,ch1⟩ ⟨e1,e2⟩ O1 w1 E1 β1 l
    obtain⟨hj',hx⟩:=hangsX_get hj
    rw [hx]
    dsimp only at e1 e2 ⊢
    have hxm:=List.getElem_mem hj'
    obtain⟨hxb,hxh⟩:=List.mem_filter.1 hxm
    obtain⟨q1,q2⟩:=hp2 _ hxb hxh
    rw [List.drop_eq_getElem_cons hj',List.foldl_cons] at e1
    generalize (r.body.filter dv)[j]=x at hxb hxh q1 q2 e1 ⊢
    have ll1:(lv1.map bi).length=lv1.length:=List.length_map _
    have hl1:=e2.1
    have hA:=e2.2.1 (lv1[x.pred.toNat]'(by omega)) (List.getElem_mem _)
    have hw:=rawStep_if (n:=p.arity.length) (fold:=r.fold) (pred:=r.pred) (ch:=ch1) (x:=x) (lv:=lv1) (by omega) (by omega)
    have hnx:=fun lv' ch'=>Rs.next (fold:=r.fold) (pred:=r.pred) (x:=x) (lv':=lv') (ch':=ch') e2 (by omega)
    unfold jt at hw
    change DW _ _ _ _ ((26,.d (.bool (strictB r.fold x)))::(25,.d (.int .i64 x.pred))::_) _
    generalize strictB r.fold x=sb at hw ⊢
    repeat' (first|refine z0 ?_|apply ag|apply ae|refine z16 ?_|apply aa)
    refine⟨rfl,fun O2 w2 E2 β2=>?_⟩
    cases sb with
    | true =>
     rw [if_pos rfl] at hw
     repeat' (first|refine z0 ?_|apply ag|(apply ds_stP;exact rfl;exact rfl;(apply hv_get;(omega));exact rfl;exact rfl;(exact hv_set rfl);exact rfl;exact rfl;exact rfl;exact rfl;exact rfl;exact rfl)|apply ae|refine z16 ?_|apply ah|apply ai|apply aj|refine z18 ?_|apply aa|apply bg|apply br|refine z3 ?_|(refine z23 ?_ ?_ <;> intro hg)|fail)
     all_goals try (exfalso;omega)
     all_goals first
      | exact⟨(lv1.set r.pred.toNat (lv1[x.pred.toNat]'(by omega) + 1),true),⟨by rw [e1,hw,if_neg (by omega),if_pos (by omega)],hnx _ _ (by rw [hw,if_neg (by omega),if_pos (by omega)])⟩,ap id trivial ⟨rfl,rfl,rfl,rfl,rfl,rfl,rfl,trivial⟩ rfl rfl rfl rfl rfl rfl⟩
      | exact⟨(lv1,ch1),⟨by rw [e1,hw,if_neg (by omega),if_neg (by omega)],e2⟩,ap id trivial ⟨rfl,rfl,rfl,rfl,rfl,rfl,rfl,trivial⟩ rfl rfl rfl rfl rfl rfl⟩
      | (refine⟨7,[(0,prgBk p),(1,.blk 22 [.d (.slice 1 [])]),(2,.blk 4 [.d (.bool false)])],kz (bp 1 0 1 rfl rfl rfl) (ap id trivial ⟨rfl,rfl,rfl,trivial⟩ rfl rfl rfl rfl rfl rfl),?_⟩
         repeat' (first|apply av|apply br)
         exact⟨.inl rfl,_,rfl,rfl,by rw [g5,rawIter,e1,hw,if_pos (by omega),iv,jo];rfl⟩)
    | false =>
     simp only [Bool.false_eq_true,if_false,Int.add_zero] at hw
     repeat' (first|refine z0 ?_|apply ag|(apply ds_stP;exact rfl;exact rfl;(apply hv_get;(omega));exact rfl;exact rfl;(exact hv_set rfl);exact rfl;exact rfl;exact rfl;exact rfl;exact rfl;exact rfl)|apply ae|refine z16 ?_|apply ah|apply ai|apply aj|refine z19 ?_|apply aa|apply bg|apply br|refine z3 ?_|(refine z23 ?_ ?_ <;> intro hg)|fail)
     all_goals try (exfalso;omega)
     all_goals first
      | exact⟨(lv1.set r.pred.toNat (lv1[x.pred.toNat]'(by omega)),true),⟨by rw [e1,hw,if_neg (by omega),if_pos (by omega)],hnx _ _ (by rw [hw,if_neg (by omega),if_pos (by omega)])⟩,ap id trivial ⟨rfl,rfl,rfl,rfl,rfl,rfl,rfl,trivial⟩ rfl rfl rfl rfl rfl rfl⟩
      | exact⟨(lv1,ch1),⟨by rw [e1,hw,if_neg (by omega),if_neg (by omega)],e2⟩,ap id trivial ⟨rfl,rfl,rfl,rfl,rfl,rfl,rfl,trivial⟩ rfl rfl rfl rfl rfl rfl⟩
      | (refine⟨7,[(0,prgBk p),(1,.blk 22 [.d (.slice 1 [])]),(2,.blk 4 [.d (.bool false)])],kz (bp 1 0 1 rfl rfl rfl) (ap id trivial ⟨rfl,rfl,rfl,trivial⟩ rfl rfl rfl rfl rfl rfl),?_⟩
         repeat' fail
         exact⟨.inl rfl,_,rfl,rfl,by rw [g5,rawIter,e1,hw,if_pos (by omega),iv,jo];rfl⟩)
   ·rintro⟨lv1,ch1⟩ ⟨e1,e2⟩
    rw [hangsX_len,List.drop_of_length_le (Nat.le_refl _)] at e1
    repeat' (first|refine z0 ?_|apply ag|refine z16 ?_|apply aa|apply bg)
    exact⟨(i + 1,lv1,ch1),⟨by dsimp only;omega,e1,e2⟩,ap id ⟨rfl,rfl,rfl,rfl,rfl,rfl,rfl,rfl,trivial⟩ ⟨rfl,rfl,rfl,rfl,rfl,rfl,trivial⟩ rfl rfl rfl rfl rfl rfl,by show p.rules.length - (i + 1) < p.rules.length - i;omega⟩
  ·rw [List.drop_of_length_le (by omega)] at f2
   have f2:rawRound p.arity.length p.rules lv0=some (lv,ch):=f2
   rw [rawIter,f2] at g5
   repeat' (first|refine z0 ?_|apply ag|apply ae|refine z16 ?_|apply ah|apply ai|apply au|apply aa|apply aq|apply bg|refine z17 ?_|refine z1 ?_|refine z3 ?_|(refine z23 ?_ ?_ <;> intro hg)|fail)
   all_goals try (exfalso;omega)
   refine⟨(ch,lv,m),⟨by dsimp only;rw [f3.1,g1],f3.2.1,fun h=>?_,fun h=>?_⟩,ap (fun j=>match j with|5=>6|j=>j) ⟨rfl,rfl,rfl,rfl,rfl,trivial⟩ ⟨rfl,rfl,rfl,rfl,rfl,rfl,trivial⟩ rfl rfl rfl rfl rfl rfl,by show m < m + 1;omega⟩
   ·subst h
    exact⟨g5,by have:=f3.2.2.2 rfl;dsimp only;omega⟩
   ·subst h
    exact g5
abbrev svI (v:Int):SV:=.d (.int .i64 v)
def qOk (left:List Int) (off cap:Nat) (cs:List SV):Prop:=off + cap≤cs.length∧(cs.drop off).take left.length=left.map svI∧left.length≤cap
theorem qOk.head {n:Int} {left:List Int} {off cap:Nat} {cs:List SV} (h:qOk (n::left) off cap cs):cs[off]? = some (svI n):=by
 obtain⟨h1,h2,h3⟩:=h
 have:((cs.drop off).take (n::left).length)[0]? = some (svI n):=by rw [h2];rfl
 rw [List.getElem?_take,List.getElem?_drop] at this
 simpa using this
theorem qOk.tail {n:Int} {left:List Int} {off cap:Nat} {cs:List SV} (h:qOk (n::left) off cap cs):qOk left (off + 1) (cap - 1) cs:=by
 obtain⟨h1,h2,h3⟩:=h
 simp only [List.length_cons] at h2 h3
 refine⟨by omega,?_,by omega⟩
 have h4:((cs.drop off).take (left.length + 1)).drop 1=left.map svI:=by rw [h2];rfl
 rw [List.drop_take,List.drop_drop] at h4
 simpa using h4
theorem qOk.push {x:Int} {left:List Int} {off cap:Nat} {cs:List SV} (h:qOk left off cap cs) (hr:left.length + 1≤cap):qOk (left++[x]) off cap (jv cs (off + left.length * 1) [svI x]):=by
 obtain⟨h1,h2,h3⟩:=h
 have hl:left.length≤(cs.drop off).length:=by rw [List.length_drop];omega
 refine⟨by unfold jv;simp;omega,?_,by simpa using hr⟩
 unfold jv
 rw [Nat.mul_one,List.length_append,List.length_singleton,List.map_append,← h2,List.append_assoc,List.drop_append_of_le_length (by simp;omega),List.drop_take]
 rw [show off + left.length - off=left.length by omega]
 rw [← List.append_assoc,List.take_append_of_le_length (by simp;omega),List.take_of_length_le (by simp;omega)]
 rfl
theorem qOk.grow {x:Int} {left:List Int} {off cap c':Nat} {cs:List SV} (h:qOk left off cap cs) (hr:left.length + 1≤c') :
  qOk (left++[x]) 0 c' ((cs.drop off).take (left.length * 1)++[svI x]++List.replicate ((c' - (left.length + 1)) * 1) .junk):=by
 obtain⟨h1,h2,h3⟩:=h
 rw [Nat.mul_one,Nat.mul_one,h2]
 refine⟨by simp;omega,?_,by simpa using hr⟩
 rw [List.drop_zero,List.length_append,List.length_singleton,List.take_append_of_le_length (by simp),List.take_of_length_le (by simp),List.map_append]
 rfl
abbrev ndH (q:Nat) (p:Prg) (out:List Bool) (n off cap:Nat) (cs:List SV):Hp:=[(0,prgBk p),(1,.row 4 1 (out.map mc)),(2,.blk 133 [.row 1]),(q,.blk 3 cs),(4,.blk 22 [.sl q off n cap])]
structure Qst where
 out:List Bool
 left:List Int
 n:Nat
 off:Nat
 cap:Nat
 cs:List SV
abbrev Qst.ok (x:Qst):Prop:=x.n=x.left.length∧qOk x.left x.off x.cap x.cs∧x.cap≤maxLen∧SV.lowL 0 x.cs=true
abbrev Qst.H (p:Prg) (q:Nat) (x:Qst):Hp:=ndH q p x.out x.n x.off x.cap x.cs
theorem predsOk_of {p:Prg} (h:PrgOk p):predsOk p.arity.length p.rules:=fun r hr=>⟨(h.each r hr).pred,fun x hx hh=>((h.each r hr).lits x hx).pred hh⟩
def levE (p:Prg):Int:=if dh du p≠0 then dh du p else if docOk p then 0 else 4
def levL (p:Prg):List Int:=if dh du p=0∧docOk p=true then eo p else []
set_option maxHeartbeats 8000000 in
theorem levels_fn (p:Prg):Fn 97 [jl p] (fun res=>res = .tup [.d (.slice 1 ((levL p).map bi)),.d (.int .i64 (levE p))]):=by
 refine ak _ Tryz.func97 rfl rfl (by kernel_rfl) ?_
 intro O w0 E0 β0
 have hc:=scheck_fn p
 unfold levE levL
 by_cases h0:dh du p=0
 ·have hok:=progE_ok h0
  have hr:=sraw_fn p hok.preds hok.rules (predsOk_of hok)
  rw [levels_same p hok] at hr
  rw [h0] at hc ⊢
  cases hd:docOk p with
  | true =>
   rw [hd,if_pos rfl] at hr
   unfold rawSV at hr
   dsimp only at hr
   repeat' (first|refine z0 ?_|apply ag|apply ae|refine z16 ?_|apply ai|apply aj|refine z19 ?_|apply aa|refine z21 ?_ (hc:=by apply hc)|refine z21 ?_ (hc:=by apply hr)|refine z1 ?_|fail)
   exact ret_2 rfl ⟨by simp,by simp⟩
  | false =>
   rw [hd,if_neg (by simp)] at hr
   unfold rawSV at hr
   dsimp only at hr
   repeat' (first|refine z0 ?_|apply ag|apply ae|refine z16 ?_|apply ai|refine z18 ?_|refine z19 ?_|apply aa|refine z21 ?_ (hc:=by apply hc)|refine z21 ?_ (hc:=by apply hr)|refine z1 ?_|fail)
   refine dw_nild 2 1 rfl ?_
   repeat' (first|apply aj|apply av)
   exact ret_2 rfl ⟨by simp,by simp⟩
 ·have hn:decide (dh du p≠0)=true:=decide_eq_true h0
  generalize dh du p=q at hc h0 hn ⊢
  repeat' (first|refine z0 ?_|apply ag|apply ae|refine z16 ?_|apply ai|apply aa|refine z21 ?_ (hc:=by apply hc)|refine z1 ?_|(refine z23 ?_ ?_ <;> intro hg)|fail)
  ·refine dw_nild 2 1 rfl ?_
   repeat' (first|apply aj|apply av)
   exact ret_2 rfl ⟨by simp [h0],by simp [h0]⟩
  ·exact absurd h0 hg
def RdL (lv0 lv:List Int) (rose:Bool) (B:Int):Prop:=leL lv0 lv∧(rose=false→lv=lv0)∧(rose=true→lv≠lv0)∧∀ v∈lv,0≤v∧v≤B
theorem RdL.refl {lv:List Int} {B:Int} (h:∀ v∈lv,0≤v∧v≤B):RdL lv lv false B:=⟨leL.refl _,fun _=>rfl,(fun h=>nomatch h),h⟩
theorem RdL.more {lv0 lv:List Int} {rose:Bool} {B C:Int} (h:RdL lv0 lv rose B) (hc:B≤C):RdL lv0 lv rose C:=⟨h.1,h.2.1,h.2.2.1,fun v hv=>⟨(h.2.2.2 v hv).1,Int.le_trans (h.2.2.2 v hv).2 hc⟩⟩
theorem RdL.set {lv0 lv:List Int} {rose:Bool} {B v:Int} {i:Nat} (h:RdL lv0 lv rose B) (hi:i < lv.length) (hv:lv[i] < v) (hb:v≤B + 1):RdL lv0 (lv.set i v) true (B + 1):=by
 obtain⟨h1,h2,h3,h4⟩:=h
 have hg:lv.getD i 0=lv[i]:=by rw [List.getD,List.getElem?_eq_getElem hi];rfl
 refine⟨⟨by rw [List.length_set];exact h1.1,fun j=>?_⟩,(fun h=>nomatch h),fun _ he=>?_,fun u hu=>?_⟩
 ·have h5:=h1.2 j
  rw [set_getD _ _ _ hi]
  split
  ·rename_i hij;subst hij;omega
  ·exact h5
 ·have h5:=h1.2 i
  rw [← he,set_getD _ _ _ hi,if_pos rfl] at h5
  omega
 ·rcases List.mem_or_eq_of_mem_set hu with h|h
  ·have:=h4 u h;omega
  ·have:=h4 _ (List.getElem_mem hi);omega
abbrev one (n:Nat) (pred:Int):List Bool:=(List.replicate n false).set pred.toNat true
structure Nst (a b:List Bool × List Int):Prop where
 up:leB a.1 b.1
 keep:∀ v∈a.2,v∈b.2
 new:∀ i:Int,0≤i→b.1.getD i.toNat false=true→a.1.getD i.toNat false=true∨i∈b.2
theorem Nst.refl (a:List Bool × List Int):Nst a a:=⟨leB.refl _,fun _ h=>h,fun _ _ h=>.inl h⟩
theorem Nst.trans {a b c:List Bool × List Int} (h:Nst a b) (g:Nst b c):Nst a c :=
 ⟨h.up.trans g.up,fun v hv=>g.keep v (h.keep v hv),fun i hi hc=>(g.new i hi hc).elim (fun hb=>(h.new i hi hb).imp id (g.keep i)) .inr⟩

structure Stp where
 fact:Fct
 rule:Int
 vars:List Int
def kW (r:Rul):Nat:=if r.fold=0 then r.terms.length else r.terms.length - 1
def isW (r:Rul) (f:Fct) (w:List Int):Bool:=decide ((aW r w).take (kW r)=f.args.take (kW r))
def wayOf (r:Rul) (f:Fct) (ways:List (List Int)):List Int:=ways.getD (ways.findIdx (isW r f)) []
def kr (r:Rul) (n:Int) (ways:List (List Int)):List Fct→List Fct→List Stp→Bool × List Fct × List Stp
 | [],S,hw=>(true,S,hw)
 | f::l,S,hw=>if hasF S f then kr r n ways l S hw else if S.length=60 then (false,S,hw)
  else kr r n ways l (bq (S++[f])) (hw++[⟨f,n,wayOf r f ways⟩])
theorem aW_len (r:Rul) (w:List Int):(aW r w).length=r.terms.length:=List.length_map _
theorem kW_le (r:Rul):kW r≤r.terms.length:=by unfold kW;split <;> omega
theorem head_way {r:Rul} {ways:List (List Int)} {f:Fct} (h:f∈ma r ways) (hf:r.fold≠0→0 < r.terms.length):f.args.length=r.terms.length∧∃ w∈ways,isW r f w=true:=by
 rw [headsD_eq] at h
 obtain⟨w,hw,h⟩:=List.mem_filterMap.1 h
 unfold headD at h
 split at h
 ·rename_i h0
  simp only [Option.some.injEq] at h
  subst h
  exact⟨aW_len r w,w,hw,decide_eq_true rfl⟩
 ·rename_i h0
  split at h
  ·simp only [Option.some.injEq] at h
   subst h
   have hl:=hf h0
   have h1:(pW r w).1=(aW r w).take (r.terms.length - 1):=rfl
   have h2:(pW r w).1.length=r.terms.length - 1:=by rw [h1,List.length_take,aW_len];omega
   refine⟨?_,w,hw,decide_eq_true ?_⟩
   ·rw [List.length_append,h2,List.length_singleton];omega
   ·unfold kW
    rw [if_neg h0,← h1]
    show _=List.take _ _
    rw [List.take_append_of_le_length (by rw [h2];exact Nat.le_refl _),List.take_of_length_le (by rw [h2];exact Nat.le_refl _)]
  ·cases h
theorem wayOf_mem {r:Rul} {f:Fct} {ways:List (List Int)} (h:∃ w∈ways,isW r f w=true):wayOf r f ways∈ways∧isW r f (wayOf r f ways)=true:=by
 obtain⟨w,hw,h⟩:=h
 have hlt:=List.findIdx_lt_length_of_exists (xs:=ways) (p:=isW r f) ⟨w,hw,h⟩
 unfold wayOf
 rw [List.getD_eq_getElem?_getD,List.getElem?_eq_getElem hlt]
 exact⟨List.getElem_mem hlt,List.findIdx_getElem (w:=hlt)⟩
structure StpOk (p:Prg) (lv:List Int) (n:Int) (given:List Fct) (hw:List Stp) (T:List Fct) (i:Nat) (h:Stp):Prop where
 lo:0≤h.rule
 hi:h.rule.toNat < p.rules.length
 level:lv.getD (p.rules[h.rule.toNat]'hi).pred.toNat 0 < n
 way:h.vars∈gk T (p.rules[h.rule.toNat]'hi)
 head:h.fact∈hdW T (p.rules[h.rule.toNat]'hi)
 is:isW (p.rules[h.rule.toNat]'hi) h.fact h.vars=true
 ahead:(p.rules[h.rule.toNat]'hi).fold=0→∀ l∈(p.rules[h.rule.toNat]'hi).body,l.kind=1→(⟨l.pred,l.terms.map (vA h.vars)⟩:Fct)∈given∨∃ g∈hw.take i,g.fact=⟨l.pred,l.terms.map (vA h.vars)⟩
structure HwOk (given S:List Fct) (hw:List Stp):Prop where
 all:∀ x,x∈S↔x∈given∨∃ h∈hw,h.fact=x
 nodup:(hw.map (·.fact)).Nodup
 new:∀ h∈hw,h.fact ∉ given
def HwM (p:Prg) (lv:List Int) (n:Int) (given:List Fct) (hw:List Stp) (T:List Fct):Prop:=∀ i h,hw[i]? = some h→StpOk p lv n given hw T i h
theorem HwM.more {p:Prg} {lv:List Int} {n:Int} {given:List Fct} {hw:List Stp} {T:List Fct} (h:HwM p lv n given hw T) {s:Stp} (hs:StpOk p lv n given hw T hw.length s):HwM p lv n given (hw++[s]) T:=by
 have key:∀ i,i≤hw.length→(hw++[s]).take i=hw.take i:=fun i hi=>List.take_append_of_le_length hi
 intro i g hg
 by_cases hi:i < hw.length
 ·rw [List.getElem?_append_left hi] at hg
  have h1:=h i g hg
  exact⟨h1.lo,h1.hi,h1.level,h1.way,h1.head,h1.is,fun h0 l hl hk=>by rw [key i (by omega)];exact h1.ahead h0 l hl hk⟩
 ·rw [List.getElem?_append_right (by omega)] at hg
  have hi0:i - hw.length=0:=by
   apply Classical.byContradiction
   intro hn
   rw [List.getElem?_eq_none (by rw [List.length_singleton];omega)] at hg
   cases hg
  have hi1:i=hw.length:=by omega
  rw [hi0] at hg
  simp only [List.getElem?_cons_zero,Option.some.injEq] at hg
  subst hg
  subst hi1
  exact⟨hs.lo,hs.hi,hs.level,hs.way,hs.head,hs.is,fun h0 l hl hk=>by rw [key _ (Nat.le_refl _)];have:=hs.ahead h0 l hl hk;exact this⟩
theorem HwOk.more {given S:List Fct} {hw:List Stp} (h:HwOk given S hw) {s:Stp} (hs:s.fact ∉ S):HwOk given (bq (S++[s.fact])) (hw++[s]):=by
 have hn:s.fact ∉ given∧∀ g∈hw,g.fact≠s.fact:=⟨fun hc=>hs ((h.all _).2 (.inl hc)),fun g hg he=>hs ((h.all _).2 (.inr ⟨g,hg,he⟩))⟩
 refine⟨fun x=>?_,?_,fun g hg=>?_⟩
 ·rw [(bn _).2,List.mem_append,List.mem_singleton,h.all]
  constructor
  ·rintro ((h1|⟨g,h1,h2⟩)|h1)
   ·exact .inl h1
   ·exact .inr ⟨g,List.mem_append_left _ h1,h2⟩
   ·exact .inr ⟨s,List.mem_append_right _ (List.mem_singleton.2 rfl),h1.symm⟩
  ·rintro (h1|⟨g,h1,h2⟩)
   ·exact .inl (.inl h1)
   ·rcases List.mem_append.1 h1 with h1|h1
    ·exact .inl (.inr ⟨g,h1,h2⟩)
    ·rw [List.mem_singleton] at h1
     subst h1
     exact .inr h2.symm
 ·rw [List.map_append]
  refine List.nodup_append.2 ⟨h.nodup,by simp,fun x hx y hy he=>?_⟩
  rw [List.map_singleton,List.mem_singleton] at hy
  obtain⟨g,hg,rfl⟩:=List.mem_map.1 hx
  exact hn.2 g hg (he.trans hy)
 ·rcases List.mem_append.1 hg with hg|hg
  ·exact h.new g hg
  ·rw [List.mem_singleton] at hg
   subst hg
   exact hn.1
structure BldOk (p:Prg) (lv:List Int) (n:Nat) (given m0 S:List Fct) (hw:List Stp):Prop where
 inv:InvM (lvV p lv n m0) m0 S
 hwk:HwOk given S hw
 stp:∀ T,Good (lvV p lv n m0) m0 T→HwM p lv (n + 1) given hw T
theorem take_spec {p:Prg} (hp:PrgR p) {lv:List Int} (hl:LvFit p lv) {n:Nat} {given m0:List Fct} {i:Nat} (hi:i < p.rules.length) (hlv:lv.getD (p.rules[i]).pred.toNat 0=n) {S0:List Fct} {hw0:List Stp} (h0:BldOk p lv n given m0 S0 hw0) (hm:ed S0 p.rules[i]=true) :
  ∀ (heads S:List Fct) (hw:List Stp),(∀ f∈heads,f∈hdW S0 p.rules[i])→BldOk p lv n given m0 S hw→(∀ x∈S0,x∈S)→(∀ g∈hw0,g∈hw)→S0.length≤S.length →
   ((kr p.rules[i] i (gk S0 p.rules[i]) heads S hw).1=true→BldOk p lv n given m0 (kr p.rules[i] i (gk S0 p.rules[i]) heads S hw).2.1 (kr p.rules[i] i (gk S0 p.rules[i]) heads S hw).2.2 ∧
    (∀ x∈S,x∈(kr p.rules[i] i (gk S0 p.rules[i]) heads S hw).2.1)∧(∀ x∈heads,x∈(kr p.rules[i] i (gk S0 p.rules[i]) heads S hw).2.1)∧S.length≤(kr p.rules[i] i (gk S0 p.rules[i]) heads S hw).2.1.length) ∧
   ((kr p.rules[i] i (gk S0 p.rules[i]) heads S hw).1=false→¬ ∃ M,Fit (lvV p lv n m0) m0 M)
 | [],S,hw,_,h,_,_,_=>⟨fun _=>⟨h,fun _ h=>h,fun _ h=>by simp at h,Nat.le_refl _⟩,fun hf=>by simp [kr] at hf⟩
 | f::l,S,hw,hh,h,hs,hsh,hlen=>by
  have hV:=lvV_ok hp hl n m0
  have hrs:p.rules[i]∈(lvV p lv n m0).rs:=List.mem_filter.2 ⟨List.getElem_mem hi,decide_eq_true hlv⟩
  have hf0:=hh f (List.mem_cons_self ..)
  have hl':=fun g hg=>hh g (List.mem_cons_of_mem _ hg)
  unfold kr
  by_cases hin:hasF S f=true
  ·rw [if_pos hin]
   obtain⟨a,b⟩:=take_spec hp hl hi hlv h0 hm l S hw hl' h hs hsh hlen
   refine⟨fun ht=>?_,b⟩
   obtain⟨a1,a2,a3,a4⟩:=a ht
   refine⟨a1,a2,fun x hx=>?_,a4⟩
   rcases List.mem_cons.1 hx with rfl|hx
   ·exact a2 x (hasF_iff.1 hin)
   ·exact a3 x hx
  ·rw [if_neg hin]
   have hnin:f ∉ S:=fun hc=>hin (hasF_iff.2 hc)
   by_cases h60:S.length=60
   ·rw [if_pos h60]
    refine⟨fun ht=>by simp at ht,fun _=>no_room hV h.inv (H:=[f]) (fun x hx=>?_) (by simp) (fun x hx=>?_) (by rw [h60];simp)⟩
    ·rw [List.mem_singleton] at hx
     subst hx
     exact⟨_,hrs,S0,h0.inv,hf0⟩
    ·rw [List.mem_singleton] at hx
     subst hx
     exact hnin
   ·rw [if_neg h60]
    obtain⟨w1,w2⟩:=bn (S++[f])
    have hle:=jf (S++[f])
    rw [List.length_append,List.length_singleton] at hle
    have hSl:=h.inv.len
    have hinv:InvM (lvV p lv n m0) m0 (bq (S++[f])):=inv_put hV h.inv (fun x hx=>by
     rw [List.mem_singleton] at hx
     subst hx
     exact⟨_,hrs,S0,h0.inv,hf0⟩) (by omega)
    have hgrow:S.length + 1≤(bq (S++[f])).length:=by
     have:=nodup_len (a:=f::S) (b:=bq (S++[f])) (List.nodup_cons.2 ⟨hnin,h.inv.strict.nodup⟩) fun x hx=>by
      rw [w2,List.mem_append,List.mem_singleton]
      rcases List.mem_cons.1 hx with h|h
      ·exact .inr h
      ·exact .inl h
     rw [List.length_cons] at this
     exact this
    have hr:=hp.rul _ (List.getElem_mem hi)
    obtain⟨wm,wi⟩:=wayOf_mem (head_way (((bn _).2 f).1 hf0) fun hf=>(hr.folded hf).1).2
    have hb:BldOk p lv n given m0 (bq (S++[f])) (hw++[⟨f,i,wayOf p.rules[i] f (gk S0 p.rules[i])⟩]):=by
     refine⟨hinv,h.hwk.more (s:=⟨f,i,wayOf p.rules[i] f (gk S0 p.rules[i])⟩) hnin,fun T hT=>(h.stp T hT).more ?_⟩
     have hsub:=h0.inv.least T hT
     have hk:∀ l∈(p.rules[i]).body,l.kind≤2→liftN (p.rules[i]).fold l=1→∀ x:Fct,x.pred=l.pred→(x∈S0↔x∈T):=by
      intro l hlb hk2 hlift x hx
      have:=hl.fit _ (List.getElem_mem hi) l hlb hk2
      have hlt:lv.getD x.pred.toNat 0 < (n:Int):=by rw [hx];omega
      exact (h0.inv.a.2 x hlt).trans (hT.a.2 x hlt).symm
     obtain⟨_,g2,g3⟩:=ways_grow hr hp.ar h0.inv.a.1 hT.a.1 h0.inv.strict.nodup hT.strict.nodup hsub hk (hT.few _ hrs)
     have hnat:((i:Int)).toNat=i:=Int.toNat_natCast i
     refine⟨Int.natCast_nonneg i,by rw [hnat];exact hi,?_,?_,?_,?_,?_⟩
     ·simp only [hnat];omega
     ·simp only [hnat];exact g2 _ wm
     ·simp only [hnat];exact heads_grow g2 g3 f hf0
     ·simp only [hnat];exact wi
     ·simp only [hnat]
      intro hfold l hlb hk1
      have hraw:=raw_sub wm
      have sS:=rulS_mk hr hp.ar h0.inv.a.1
      obtain⟨_,_,p3⟩:=ways_perm h0.inv.strict.nodup sS.ok.lit sS.bd
      have hh:=((p3 _).1 hraw).2 l hlb
      unfold holdE at hh
      rw [if_pos hk1] at hh
      have hmem:=hasF_iff.1 hh
      rcases (h0.hwk.all _).1 hmem with hg|⟨g,hg,he⟩
      ·exact .inl hg
      ·exact .inr ⟨g,by rw [List.take_of_length_le (Nat.le_refl _)];exact hsh g hg,he⟩
    obtain⟨a,b⟩:=take_spec hp hl hi hlv h0 hm l _ _ hl' hb (fun x hx=>(w2 x).2 (List.mem_append_left _ (hs x hx))) (fun g hg=>List.mem_append_left _ (hsh g hg)) (by omega)
    refine⟨fun ht=>?_,b⟩
    obtain⟨a1,a2,a3,a4⟩:=a ht
    refine⟨a1,fun x hx=>a2 x ((w2 x).2 (List.mem_append_left _ hx)),fun x hx=>?_,by omega⟩
    rcases List.mem_cons.1 hx with rfl|hx
    ·exact a2 x ((w2 x).2 (List.mem_append_right _ (List.mem_singleton.2 rfl)))
    ·exact a3 x hx
def encG (g:Gr):List D:=[.ptr [.slice 1 (g.1.map bi),.slice 1 (g.2.map bi)]]
def elG (g:Gr):SV:=.d (.ptr [.slice 1 (g.1.map bi),.slice 1 (g.2.map bi)])
theorem ptr_pd {X e w} {ds:List D} {v:Value} (h:RepC X w v (.ptr ds)):Rel X e w (.pd ds) v:=by
 cases h with
 | ptr c hX hb hcell hrep=>exact⟨_,_,rfl,hb,hX,fun j hj=>⟨c j,hcell j hj,hrep j hj⟩⟩
theorem ent_pd {Γ:Ctx} {k:Nat} {L:Sl} {H:Hp} (t:Nat) {ds:List D} (hL:L.get t = .d (.ptr ds)):Ent Γ k L H k ((t,.pd ds)::L) H:=by
 intro e a w m
 refine⟨e,⟨m.toHeap,m.defers,m.len,fun t'=>?_⟩⟩
 rw [Sl.get_cons]
 split
 ·rename_i ht
  subst ht
  have hs:=m.slot t
  rw [hL] at hs
  exact ptr_pd hs
 ·exact m.slot t'
attribute [local irreducible] DT
set_option maxHeartbeats 8000000 in
theorem made1_fn (a:List Int) (last:Nat) (ha:last≤a.length) (g:Gr):Fn 159 ([elG g]++[.pd [.slice 1 (a.map bi)],.pd [.int .i64 last]]) (fun r=>r = .d (.bool (decide (g.1=a.take last)))):=by
 refine ak _ Tryz.func159 rfl rfl (by kernel_rfl) ?_
 intro O w0 E0 β0
 have la:(a.map bi).length=a.length:=List.length_map _
 have w1:=equalI_fn g.1 (a.take last)
 refine ba (ent_pd 0 rfl) ?_
 repeat' (first|refine z0 ?_|apply ag|refine z5 ?_|refine z10 ?_|apply ae|refine z16 ?_|refine z20 ?_|apply aj|apply aa|refine z22 ?_ (hc:=by apply w1)|fail)
 exact cm rfl rfl
set_option maxHeartbeats 8000000 in
theorem indexG_fn {f:FuncId} {caps:List SV} (p:Gr→Bool) (l:List (Gr)) (hcap:SV.lowL 0 caps=true) (hp:∀ x∈l,Fn f (elG x::caps) (fun r=>r = .d (.bool (p x)))):Fn 158 [.d (.slice 1 (l.map encG)),.fn f caps] (fun r=>r = .d (.int .i64 (idxF p l))):=by
 refine ak _ Tryz.func158 rfl rfl (by kernel_rfl) ?_
 intro O w0 E0 β0
 refine cp (t:=0) rfl fun hb=>?_
 repeat' (first|refine z0 ?_|apply ag|apply ae|refine z16 ?_|apply ah|apply aa)
 refine bh (ι:=Nat) (fun i=>⟨0,[(0,.d (.slice 1 (l.map encG))),(1,.fn f caps),(7,.d (.int .i64 l.length)),(8,.d (.int .i64 i))],[]⟩)
  (fun i=>i≤l.length∧∀ j (hj:j < l.length),j < i→p l[j]=false) (fun i=>l.length - i) 0 ⟨Nat.zero_le _,fun j _ h=>absurd h (Nat.not_lt_zero j)⟩
  (ap id ⟨rfl,congrArg (SV.fn f) (SV.renL_id caps).symm,by simp;rfl,rfl,trivial⟩ trivial (by simp [Sl.low,SV.low,hcap]) rfl rfl rfl rfl rfl) ?_
 rintro i ⟨h1,h2⟩
 repeat' (first|refine z0 ?_|apply ag|apply ae|refine z16 ?_|apply aa)
 refine cd rfl (fun h=>?_) (fun h=>?_)
 ·have hi:i < l.length:=by omega
  have hpx:=hp l[i] (List.getElem_mem hi)
  repeat' (first|refine z0 ?_|apply ag|apply ae|refine z16 ?_|apply ah|apply ai|apply aa|(apply im;exact rfl;exact rfl;exact rfl;exact rfl;apply hpx;exact rfl;(assumption);exact rfl;rintro _ rfl))
  refine c7 rfl (fun hb=>?_) (fun hb=>?_)
  ·repeat' (first|refine z0 ?_|apply ag|apply ae|refine z16 ?_|apply aj|apply aa|apply av|apply br)
   exact cg rfl (jh h2 hi hb).symm
  ·repeat' (first|refine z0 ?_|apply ag|refine z16 ?_|apply ai|apply aa|apply bg)
   exact⟨i + 1,⟨hi,i5 h2 hi hb⟩,ap id ⟨rfl,congrArg (SV.fn f) (SV.renL_id caps).symm,rfl,rfl,trivial⟩ trivial (by simp [Sl.low,SV.low,hcap]) rfl rfl rfl rfl rfl,by omega⟩
 ·repeat' (first|refine z0 ?_|apply ag|apply ae|refine z16 ?_|apply au|apply aj|apply aa|apply aq|refine z17 ?_|fail)
  exact cg rfl (i6 fun j hj=>h2 j hj (by omega)).symm
end Go.Proofs.YtapciiffpnociaaGreat
namespace Go.Proofs.YtapciiffpnociaaGreat
open Go Go.RowKit
section
variable {Γ : Ctx} {k : Nat} {L : Sl} {H : Hp} {K : cq} {ops : List Oper} {rest : List Oper} {q : Bool} {x y : Operand}
theorem ds_min {d t t2 ty:Nat} {pos:String} {af:Array Edge} {g:Option (Nat × Bool)} {m n:Int} (hx:a8 L x = .d (.int .i64 m)) (hy:a8 L y = .d (.int .i64 n)) (hxo:c9 x=true) (hyo:c9 y=true) (hw:bf ops L g=some true) (hd:Nat.blt d Γ.n=true)
  (hk:DS q Γ ops rest K k ((d,.d (.int .i64 (minI m n)))::L) H):DS q Γ ops (⟨some d,.call { callee:=.builtin .min,args:=#[x,y],argTypes:=#[t,t2] },ty,pos,af,g⟩::rest) K k L H:=by
 refine il (s:=.d (.int .i64 (minI m n))) (fun e a w m'=>⟨.int .i64 (minI m n),fun _ _ _ _ w' _=>?_,RepC.int ?_⟩) hw hd hk
 ·simp [execOp,resolve,invoke,builtin,evI m' hx,evI m' hy,Builtin.min_,Builtin.min2,minI]
 ·have h1:=evIw m' hxo hx
  have h2:=evIw m' hyo hy
  unfold minI;split <;> assumption
theorem ds_max {d t t2 ty:Nat} {pos:String} {af:Array Edge} {g:Option (Nat × Bool)} {m n:Int} (hx:a8 L x = .d (.int .i64 m)) (hy:a8 L y = .d (.int .i64 n)) (hxo:c9 x=true) (hyo:c9 y=true) (hw:bf ops L g=some true) (hd:Nat.blt d Γ.n=true)
  (hk:DS q Γ ops rest K k ((d,.d (.int .i64 (maxI m n)))::L) H):DS q Γ ops (⟨some d,.call { callee:=.builtin .max,args:=#[x,y],argTypes:=#[t,t2] },ty,pos,af,g⟩::rest) K k L H:=by
 refine il (s:=.d (.int .i64 (maxI m n))) (fun e a w m'=>⟨.int .i64 (maxI m n),fun _ _ _ _ w' _=>?_,RepC.int ?_⟩) hw hd hk
 ·simp [execOp,resolve,invoke,builtin,evI m' hx,evI m' hy,Builtin.max_,Builtin.max2,maxI]
 ·have h1:=evIw m' hxo hx
  have h2:=evIw m' hyo hy
  unfold maxI;split <;> assumption
end
theorem fold_take {f:Int→Int→Int} {x:Int} {l:List Int} {i:Nat} (hi:i < l.length):(l.take (i + 1)).foldl f x=f ((l.take i).foldl f x) l[i]:=by
 rw [List.take_succ_eq_append_getElem hi,List.foldl_append];rfl
theorem sumI_take {l:List Int} {i:Nat} (hi:i < l.length):(l.take (i + 1)).sum=(l.take i).sum + l[i]:=by
 rw [List.take_succ_eq_append_getElem hi,List.sum_append];simp
theorem sum_bd:∀ (l:List Int),(∀ x∈l,-1000000≤x∧x≤1000000)→-1000000 * (l.length:Int)≤l.sum∧l.sum≤1000000 * (l.length:Int)
 | [],_=>by simp
 | x::l,h=>by
  have h1:=sum_bd l fun y hy=>h y (List.mem_cons_of_mem _ hy)
  have h2:=h x (List.mem_cons_self ..)
  rw [List.sum_cons,List.length_cons];omega
attribute [local irreducible] DW DS DL DQ Ev FnOk FnP em b9 DT
set_option maxHeartbeats 8000000 in
theorem min_fn (x:Int) (l:List Int):Fn 175 [.d (.slice 1 ((x::l).map bi))] (fun r=>r = .d (.int .i64 (minL (x::l)))):=by
 refine ak _ Tryz.func175 rfl rfl (by kernel_rfl) ?_
 intro O w0 E0 β0
 have la:((x::l).map bi).length=l.length + 1:=List.length_map _
 refine dw_len (t:=0) rfl (fun hk=>?_)
 repeat' (first|refine z0 ?_|apply ag|apply ae|refine z16 ?_|apply ah|apply ai|refine z19 ?_|apply aa)
 all_goals try (exfalso;omega)
 refine bh (ι:=Nat) (fun i=>⟨0,[(0,.d (.slice 1 ((x::l).map bi))),(3,.d (.int .i64 ((l.take i).foldl minI x))),(4,.d (.int .i64 ((i + 1:Nat):Int)))],[]⟩)
  (fun i=>i≤l.length) (fun i=>l.length - i) 0 (Nat.zero_le _) (ap id ⟨rfl,rfl,rfl,trivial⟩ trivial rfl rfl rfl rfl rfl rfl) ?_
 intro i g1
 dsimp only at g1 ⊢
 by_cases hi:i < l.length
 ·have hst:=fold_take (f:=minI) (x:=x) hi
  repeat' (first|(refine ds_min rfl rfl rfl rfl rfl rfl ?_)|(first|refine z0 ?_|apply ag|apply ae|refine z16 ?_|apply ah|apply ai|apply au|apply aj|apply aa|apply aq|apply bg|refine z17 ?_|(refine z23 ?_ ?_ <;> intro hg)|fail))
  all_goals try (exfalso;omega)
  exact⟨i + 1,hi,ap id ⟨rfl,by rw [hst];rfl,rfl,trivial⟩ trivial rfl rfl rfl rfl rfl rfl,by omega⟩
 ·rw [List.take_of_length_le (by omega)]
  repeat' (first|refine z0 ?_|apply ag|apply ae|refine z16 ?_|apply ah|apply ai|apply au|apply aj|apply aa|apply aq|refine z17 ?_|(refine z23 ?_ ?_ <;> intro hg)|fail)
  all_goals try (exfalso;omega)
  exact⟨.inl rfl,_,rfl,rfl,rfl⟩
set_option maxHeartbeats 8000000 in
theorem max_fn (x:Int) (l:List Int):Fn 176 [.d (.slice 1 ((x::l).map bi))] (fun r=>r = .d (.int .i64 (maxL (x::l)))):=by
 refine ak _ Tryz.func176 rfl rfl (by kernel_rfl) ?_
 intro O w0 E0 β0
 have la:((x::l).map bi).length=l.length + 1:=List.length_map _
 refine dw_len (t:=0) rfl (fun hk=>?_)
 repeat' (first|refine z0 ?_|apply ag|apply ae|refine z16 ?_|apply ah|apply ai|refine z19 ?_|apply aa)
 all_goals try (exfalso;omega)
 refine bh (ι:=Nat) (fun i=>⟨0,[(0,.d (.slice 1 ((x::l).map bi))),(3,.d (.int .i64 ((l.take i).foldl maxI x))),(4,.d (.int .i64 ((i + 1:Nat):Int)))],[]⟩)
  (fun i=>i≤l.length) (fun i=>l.length - i) 0 (Nat.zero_le _) (ap id ⟨rfl,rfl,rfl,trivial⟩ trivial rfl rfl rfl rfl rfl rfl) ?_
 intro i g1
 dsimp only at g1 ⊢
 by_cases hi:i < l.length
 ·have hst:=fold_take (f:=maxI) (x:=x) hi
  repeat' (first|(refine ds_max rfl rfl rfl rfl rfl rfl ?_)|(first|refine z0 ?_|apply ag|apply ae|refine z16 ?_|apply ah|apply ai|apply au|apply aj|apply aa|apply aq|apply bg|refine z17 ?_|(refine z23 ?_ ?_ <;> intro hg)|fail))
  all_goals try (exfalso;omega)
  exact⟨i + 1,hi,ap id ⟨rfl,by rw [hst];rfl,rfl,trivial⟩ trivial rfl rfl rfl rfl rfl rfl,by omega⟩
 ·rw [List.take_of_length_le (by omega)]
  repeat' (first|refine z0 ?_|apply ag|apply ae|refine z16 ?_|apply ah|apply ai|apply au|apply aj|apply aa|apply aq|refine z17 ?_|(refine z23 ?_ ?_ <;> intro hg)|fail)
  all_goals try (exfalso;omega)
  exact⟨.inl rfl,_,rfl,rfl,rfl⟩
set_option maxHeartbeats 8000000 in
theorem folded_fn (fold:Int) (l:List Int) (hl:l≠[]) (hn:∀ x∈l,-1000000≤x∧x≤1000000) (hlen:l.length≤1000000):Fn 160 [.d (.int .i64 fold),.d (.slice 1 (l.map bi))] (fun r=>r = .tup [.d (.int .i64 (valP fold l)),.d (.bool (okP fold l))]):=by
 refine ak _ Tryz.func160 rfl rfl (by kernel_rfl) ?_
 intro O w0 E0 β0
 have la:(l.map bi).length=l.length:=List.length_map _
 have w3:=min_fn (l.headD 0) l.tail
 have w4:=max_fn (l.headD 0) l.tail
 rw [show l.headD 0::l.tail=l by cases l with|nil=>exact absurd rfl hl|cons x l=>rfl] at w3 w4
 have w5:=snumber_fn l.sum
 repeat' ((fail_if_success (apply mf 8));(first|refine z0 ?_|apply ag|apply ae|refine z16 ?_|apply ah|apply ai|apply aj|apply aa|apply av|apply bg|apply br|refine z21 ?_ (hc:=by apply w3)|refine z21 ?_ (hc:=by apply w4)|(refine z23 ?_ ?_ <;> intro hg)|fail))
 ·exact⟨.inl rfl,.tup [.d (.int .i64 (l.map bi).length),.d (.bool true)],rfl,rfl,by unfold valP okP;simp_all⟩
 ·exact⟨.inl rfl,.tup [.d (.int .i64 (minL l)),.d (.bool true)],rfl,rfl,by unfold valP okP;simp_all⟩
 ·exact⟨.inl rfl,.tup [.d (.int .i64 (maxL l)),.d (.bool true)],rfl,rfl,by unfold valP okP;simp_all⟩
 refine dw_len (t:=1) rfl (fun hk=>?_)
 repeat' fail
 refine bh (ι:=Nat) (fun i=>⟨0,[(1,.d (.slice 1 (l.map bi))),(6,.d (.int .i64 (l.take i).sum)),(22,.d (.slice 1 (l.map bi))),(23,.d (.int .i64 l.length)),(24,.d (.int .i64 i))],[]⟩)
  (fun i=>i≤l.length) (fun i=>l.length - i) 0 (Nat.zero_le _) (ap id ⟨rfl,rfl,rfl,by rw [← la];rfl,rfl,trivial⟩ trivial rfl rfl rfl rfl rfl rfl) ?_
 intro i g1
 dsimp only at g1 ⊢
 by_cases hi:i < l.length
 ·have hst:=sumI_take hi
  have hb:=sum_bd (l.take (i + 1)) fun x hx=>hn x (List.mem_of_mem_take hx)
  have hx:=hn l[i] (List.getElem_mem hi)
  rw [List.length_take] at hb
  repeat' (first|refine z0 ?_|apply ag|apply ae|refine z16 ?_|apply ah|apply ai|apply au|apply aa|apply aq|apply bg|refine z17 ?_|(refine z23 ?_ ?_ <;> intro hg)|fail)
  all_goals try (exfalso;omega)
  exact⟨i + 1,hi,ap id ⟨rfl,by rw [hst];rfl,rfl,rfl,rfl,trivial⟩ trivial rfl rfl rfl rfl rfl rfl,by omega⟩
 ·rw [List.take_of_length_le (by omega)]
  repeat' (first|refine z0 ?_|apply ag|apply ae|refine z16 ?_|apply ah|apply ai|apply au|apply aj|apply aa|apply aq|apply bg|refine z17 ?_|refine z21 ?_ (hc:=by apply w5)|(refine z23 ?_ ?_ <;> intro hg)|fail)
  all_goals try (exfalso;omega)
  exact⟨.inl rfl,.tup [.d (.int .i64 l.sum),.d (.bool (numB l.sum))],rfl,rfl,by unfold valP okP;simp_all⟩
end Go.Proofs.YtapciiffpnociaaGreat
