/- Several texts in one: RuX RuY RuTa MoP StrP StrQ StrN MoQ StrL StrM MoR GxSpl RuMo RelIn StrC StrD StrE StrF. Condition: none. -/
import Derived.Test.YtapciiffpnociacGreatR15
import Derived.Test.YtapciiffpnociacGreatR16
import Derived.Test.YtapciiffpnociacGreatR11
import Derived.Test.YtapciiffpnociacGreatR12
import Derived.Test.YtapciiffpnociacGreatR09
import Derived.Test.YtapciiffpnociacGreatR10
import Derived.Test.YtapciiffpnociacGreatR07
namespace Go.Proofs.YtapciiffpnociacGreat
open Go Go.RowKit
def wayH (p:Prg) (n:Int) (l:List Fct):List Fct:=if wayE p n l=0 then setF' (headsD (ruleAt p n) (wayL p n l)) else []
theorem wayE_ways {p:Prg} {n:Int} {l:List Fct} (h:wayE p n l=0):waysE p n l=0:=by
 unfold wayE at h
 split at h
 ·rename_i h1;exact absurd h h1
 ·rename_i h1;simpa using h1
attribute [local irreducible] DW DS DL DQ Ev FnOk FnP thenD inBlockD DT
set_option maxHeartbeats 8000000 in
theorem heads_fn (p:Prg) (n:Int) (l:List Fct) (hmade:wayE p n l=0→Fn 56 [elRul (ruleAt p n),.d (.slice 1 ((wayL p n l).map encW))] (fun res=>res = .d (.slice 2 ((setF' (headsD (ruleAt p n) (wayL p n l))).map encFct)))) :
  Fn 18 [elPrg p,.d (.int .i64 n),.d (.slice 2 (l.map encFct))] (fun r=>r = .tup [.d (.slice 2 ((wayH p n l).map encFct)),.d (.int .i64 (wayE p n l))]):=by
 refine fnp_enter' _ Tryz.func18 rfl rfl (by kernel_rfl) ?_
 intro O w0 E0 β0
 have w1:=ways_fn p n l
 unfold wayH
 have lr:(p.rules.map encRul).length=p.rules.length:=List.length_map _
 by_cases h0:wayE p n l=0
 ·have hm:=hmade h0
  have hw:=wayOk (wayE_ways h0)
  have hlo:=hw.lo
  have hhi:=hw.hi
  rw [if_pos h0]
  rw [ruleAt_get hhi] at hm ⊢
  rw [h0] at w1 ⊢
  clear hmade hw
  repeat' (first|refine z0 ?_|apply ds_nil|apply dw_seq2|refine z16 ?_|apply dw_skip|apply dw_ret|refine z19 ?_|apply thenD_n|refine z21 ?_ (hc:=by apply w1)|refine z21 ?_ (hc:=by apply hm)|refine z1 ?_|fail)
  all_goals try (exfalso;omega)
  exact⟨.inl rfl,_,rfl,rfl,rfl⟩
 ·rw [if_neg h0]
  clear hmade
  repeat' (first|refine z0 ?_|apply ds_nil|apply dw_seq2|refine z16 ?_|apply dw_skip|apply thenD_n|refine z21 ?_ (hc:=by apply w1)|refine z1 ?_|(refine z23 ?_ ?_ <;> intro hg)|fail)
  all_goals try (exfalso;omega)
  refine dw_ent (ent_nild 6 2 rfl) ?_
  repeat' (first|apply dw_ret|apply thenD_r)
  exact⟨.inl rfl,_,rfl,rfl,rfl⟩
set_option maxHeartbeats 8000000 in
theorem sameLists_fn (a b:List (List Int)):Fn 51 [.d (.slice 1 (a.map encW)),.d (.slice 1 (b.map encW))] (fun r=>r = .d (.bool (decide (a=b)))):=by
 refine fnp_enter' _ Tryz.func51 rfl rfl (by kernel_rfl) ?_
 intro O w0 E0 β0
 have la:(a.map encW).length=a.length:=List.length_map _
 have lb:(b.map encW).length=b.length:=List.length_map _
 refine dw_len (t:=0) rfl (fun hk=>?_)
 by_cases hl:a.length=b.length
 ·repeat' (first|refine z0 ?_|apply ds_nil|apply dw_seq2|refine z16 ?_|apply dw_block|apply dw_skip|apply dw_ret|apply thenD_n|apply thenD_r|(refine z23 ?_ ?_ <;> intro hg)|fail)
  all_goals try (exfalso;omega)
  refine ds_loop (ι:=Nat) (fun i=>⟨0,[(0,.d (.slice 1 (a.map encW))),(1,.d (.slice 1 (b.map encW))),(5,.d (.int .i64 i))],[]⟩)
   (fun i=>i≤a.length∧a.take i=b.take i) (fun i=>a.length - i) 0 ⟨Nat.zero_le _,rfl⟩ (ent_ren id ⟨rfl,rfl,rfl,trivial⟩ trivial rfl rfl rfl rfl rfl rfl) ?_
  rintro i ⟨g1,g2⟩
  dsimp only at g1 g2 ⊢
  by_cases hi:i < a.length
  ·have hb:i < b.length:=by omega
   have w:=sameInts_fn a[i] b[i]
   rw [sameI_eq] at w
   by_cases he:a[i]=b[i]
   ·rw [decide_eq_true he] at w
    repeat' (first|refine z0 ?_|apply ds_nil|refine z5 ?_|refine z10 ?_|apply dw_seq2|refine z16 ?_|refine z20 ?_|apply dw_block|apply dw_skip|apply dw_exit|apply dw_ret|refine z19 ?_|apply thenD_n|apply thenD_e|apply inB_n|refine z17 ?_|refine z22 ?_ (hc:=by apply w)|(refine z23 ?_ ?_ <;> intro hg)|fail)
    all_goals try (exfalso;omega)
    exact⟨i + 1,⟨hi,by rw [List.take_succ_eq_append_getElem hi,List.take_succ_eq_append_getElem hb,g2,he]⟩,ent_ren id ⟨rfl,rfl,rfl,trivial⟩ trivial rfl rfl rfl rfl rfl rfl,by omega⟩
   ·have hne:a≠b:=fun h=>he (by subst h;rfl)
    rw [decide_eq_false he] at w
    rw [decide_eq_false hne]
    repeat' (first|refine z0 ?_|apply ds_nil|refine z5 ?_|refine z10 ?_|apply dw_seq2|refine z16 ?_|refine z20 ?_|apply dw_block|apply dw_skip|apply dw_exit|apply dw_ret|refine z18 ?_|apply thenD_n|apply thenD_e|apply thenD_r|apply inB_r|refine z17 ?_|refine z22 ?_ (hc:=by apply w)|(refine z23 ?_ ?_ <;> intro hg)|fail)
    all_goals try (exfalso;omega)
    all_goals exact⟨.inl rfl,_,rfl,rfl,rfl⟩
  ·rw [List.take_of_length_le (by omega),List.take_of_length_le (by omega)] at g2
   rw [decide_eq_true g2]
   repeat' (first|refine z0 ?_|apply ds_nil|refine z5 ?_|apply dw_seq2|refine z16 ?_|refine z20 ?_|apply dw_block|apply dw_skip|apply dw_exit|apply dw_ret|apply thenD_n|apply thenD_e|refine z17 ?_|(refine z23 ?_ ?_ <;> intro hg)|fail)
   all_goals try (exfalso;omega)
   all_goals exact⟨.inl rfl,_,rfl,rfl,rfl⟩
 ·have hne:a≠b:=fun h=>hl (by rw [h])
  rw [decide_eq_false hne]
  repeat' (first|refine z0 ?_|apply ds_nil|apply dw_seq2|refine z16 ?_|apply dw_block|apply dw_skip|apply dw_ret|apply thenD_n|apply thenD_r|(refine z23 ?_ ?_ <;> intro hg)|fail)
  all_goals try (exfalso;omega)
  all_goals exact⟨.inl rfl,_,rfl,rfl,rfl⟩
theorem small_ways0:waysE smallP 1 fullF=0:=by kernel_rfl
def smallR:Rul:=⟨1,[⟨0,0⟩,⟨2,0⟩],0,[⟨1,0,1,[⟨0,0⟩,⟨1,0⟩]⟩,⟨1,0,0,[⟨1,0⟩,⟨2,0⟩]⟩],3⟩
theorem small_rule:ruleAt smallP 1=smallR:=rfl
theorem small_fullS:setF' fullF=fullF:=by kernel_rfl
theorem small_from:fromE fullF smallR.body (yesOf smallR.body) (e0 3)=[[1,2,3]]:=by kernel_rfl
theorem small_waysL:waysL fullF 3 smallR.body=[[1,2,3]]:=(waysL_eq (o:=[[1,2,3]]) (List.pairwise_singleton _ _) (by rw [small_from])).symm
theorem small_many:manyW fullF smallR=true:=by unfold manyW;rw [show smallR.vars.toNat=3 from rfl,small_waysL];rfl
theorem small_wayE:wayE smallP 1 fullF=0:=by
 unfold wayE
 rw [if_neg (by rw [small_ways0];simp),small_rule,small_fullS,small_many,if_pos rfl]
theorem small_wayL:wayL smallP 1 fullF=[[1,2,3]]:=by
 unfold wayL rawW
 rw [if_pos small_ways0,small_rule,small_fullS,small_many,if_pos rfl]
 exact small_waysL
theorem small_wayH:wayH smallP 1 fullF=[⟨1,[1,3]⟩]:=by
 unfold wayH
 rw [if_pos small_wayE,small_rule,small_wayL]
 kernel_rfl
set_option maxHeartbeats 8000000 in
theorem ruleBegun_fn:Fn 13 [] (fun r=>r = .d (.bool true)):=by
 refine fnp_enter' _ Tryz.func13 rfl rfl (by kernel_rfl) ?_
 intro O w0 E0 β0
 have h1:=lsmall_fn
 have h2:=lfull_fn
 have h3:=ways_fn smallP 1 fullF
 have h4:=heads_fn smallP 1 fullF (fun _=>made0_fn _ _ _ (wayL_ok (wayOk small_ways0)) (by rw [small_rule];rfl))
 rw [small_wayE,small_wayL] at h3
 rw [small_wayE,small_wayH] at h4
 have h5:=sameLists_fn [[1,2,3]] [[1,2,3]]
 rw [decide_eq_true rfl] at h5
 have h6:=rfact_fn 1 [1,3]
 have h7:Fn 28 [.d (.slice 2 ([(⟨1,[1,3]⟩:Fct)].map encFct)),.d (.slice 2 ([(⟨1,[1,3]⟩:Fct)].map encFct))] (fun r=>r = .d (.bool true)):=by
  have h:=sameFacts_fn [⟨1,[1,3]⟩] [⟨1,[1,3]⟩]
  rw [show sameL Fct.same [(⟨1,[1,3]⟩:Fct)] [⟨1,[1,3]⟩]=true by decide] at h
  exact h
 repeat' (first|refine z0 ?_|apply ds_nil|apply dw_seq2|refine z16 ?_|apply dw_ret|apply thenD_n|refine z21 ?_ (hc:=by apply h1)|refine z21 ?_ (hc:=by apply h2)|refine z21 ?_ (hc:=by apply h3)|refine z21 ?_ (hc:=by apply h4)|refine z21 ?_ (hc:=by apply h5)|refine z21 ?_ (hc:=by apply h6)|refine z21 ?_ (hc:=by apply h7)|refine z4 ?_|fail)
 exact⟨.inl rfl,_,rfl,rfl,rfl⟩
theorem made_fn (arity:List Int) (r:Rul) (ways:List (List Int)) (hok:HeadOk arity r ways):Fn 56 [elRul r,.d (.slice 1 (ways.map encW))] (fun res=>res = .d (.slice 2 ((setF' (headsD r ways)).map encFct))):=by
 by_cases h0:r.fold=0
 ·exact made0_fn arity r ways hok h0
 ·exact madeF_fn arity r ways hok h0
theorem headsA_fn (p:Prg) (n:Int) (l:List Fct):Fn 18 [elPrg p,.d (.int .i64 n),.d (.slice 2 (l.map encFct))] (fun r=>r = .tup [.d (.slice 2 ((wayH p n l).map encFct)),.d (.int .i64 (wayE p n l))]) :=
 heads_fn p n l fun h0=>made_fn p.arity _ _ (wayL_ok (wayOk (wayE_ways h0)))
structure Lv (ρ:Type) where
 rs:List ρ
 hd:List Fct→ρ→List Fct
 mw:List Fct→ρ→Bool
 A:List Fct→Prop
structure LvOk {ρ:Type} (V:Lv ρ):Prop where
 mono:∀ S T,V.A S→V.A T→Strict S→Strict T→(∀ x∈S,x∈T)→∀ r∈V.rs,V.mw T r=true→V.mw S r=true∧∀ x∈V.hd S r,x∈V.hd T r
 grow:∀ S T,V.A S→(∀ x∈S,x∈T)→(∀ x∈T,x∈S∨∃ r∈V.rs,∃ S',V.A S'∧Strict S'∧x∈V.hd S' r)→V.A T
structure Good {ρ:Type} (V:Lv ρ) (m0 T:List Fct):Prop where
 strict:Strict T
 a:V.A T
 sub:∀ x∈m0,x∈T
 few:∀ r∈V.rs,V.mw T r=true
 cl:∀ r∈V.rs,∀ x∈V.hd T r,x∈T
structure Fit {ρ:Type} (V:Lv ρ) (m0 M:List Fct):Prop where
 good:Good V m0 M
 len:M.length≤60
 least:∀ T,Good V m0 T→∀ x∈M,x∈T
theorem Strict.nodup {l:List Fct} (h:Strict l):l.Nodup:=h.imp fun h he=>by subst he;exact lt_irrefl h
theorem nodup_len {α:Type}:∀ {a b:List α},a.Nodup→(∀ x∈a,x∈b)→a.length≤b.length
 | [],_,_,_=>Nat.zero_le _
 | x::a,b,hn,hs=>by
  obtain⟨h1,h2⟩:=List.nodup_cons.1 hn
  obtain⟨s,t,rfl⟩:=List.append_of_mem (hs x (List.mem_cons_self ..))
  have:=nodup_len (b:=s++t) h2 fun y hy=>by
   have hy':=hs y (List.mem_cons_of_mem _ hy)
   rcases List.mem_append.1 hy' with h|h
   ·exact List.mem_append_left _ h
   ·rcases List.mem_cons.1 h with rfl|h
    ·exact absurd hy h1
    ·exact List.mem_append_right _ h
  simp only [List.length_append,List.length_cons] at this ⊢
  omega
theorem setF_lenle (l:List Fct):(setF' l).length≤l.length:=by
 have h:=setF_len l []
 rw [List.length_nil,Nat.add_zero] at h
 exact h
section
variable {ρ : Type} {V : Lv ρ} {m0 m m' : List Fct}
theorem Fit.unique {M M':List Fct} (h:Fit V m0 M) (h':Fit V m0 M'):M=M' :=
 strict_ext h.good.strict h'.good.strict fun x=>⟨h.least M' h'.good x,h'.least M h.good x⟩
end
def liftN (fold:Int) (x:Ltl):Int:=if x.kind=2∨fold≠0 then 1 else 0
def lvLit (fold pred:Int) (lv:List Int) (x:Ltl):List Int :=
 if 2 < x.kind then lv
 else if lv.getD pred.toNat 0 < lv.getD x.pred.toNat 0 + liftN fold x then lv.set pred.toNat (lv.getD x.pred.toNat 0 + liftN fold x) else lv
def lvRule (lv:List Int) (r:Rul):List Int:=r.body.foldl (lvLit r.fold r.pred) lv
def lvRound (l:List Rul) (lv:List Int):List Int:=l.foldl lvRule lv
def lvIter (l:List Rul):Nat→List Int→List Int
 | 0,lv=>lv
 | n + 1,lv=>lvIter l n (lvRound l lv)
def leL (a b:List Int):Prop:=a.length=b.length∧∀ i,a.getD i 0≤b.getD i 0
theorem leL.refl (a:List Int):leL a a:=⟨rfl,fun _=>Int.le_refl _⟩
theorem leL.trans {a b c:List Int} (h:leL a b) (g:leL b c):leL a c:=⟨h.1.trans g.1,fun i=>Int.le_trans (h.2 i) (g.2 i)⟩
def hangsB (x:Ltl):Bool:=decide (x.kind=1) || decide (x.kind=2)
def strictB (fold:Int) (x:Ltl):Bool:=decide (x.kind=2) || decide (fold≠0)
def liftS (fold:Int) (x:Ltl):Int:=if strictB fold x then 1 else 0
def rawLit (fold pred:Int) (x:Ltl) (lv:List Int) (ch:Bool):List Int × Bool :=
 if lv.getD pred.toNat 0 < lv.getD x.pred.toNat 0 + liftS fold x then (lv.set pred.toNat (lv.getD x.pred.toNat 0 + liftS fold x),true) else (lv,ch)
def rawStep (n fold pred:Int) (st:Option (List Int × Bool)) (x:Ltl):Option (List Int × Bool):=match st with
 | none=>none
 | some (lv,ch)=>if n < lv.getD x.pred.toNat 0 + liftS fold x then none else some (rawLit fold pred x lv ch)
def gap (n:Int) (lv:List Int):Nat:=(lv.map fun v=>(n - v).toNat).sum
def zeros (n:Nat):List Int:=List.replicate n 0
theorem gap_set {n:Int}:∀ {lv:List Int} {i:Nat} {v:Int} (h:i < lv.length),lv[i] < v→v≤n→gap n (lv.set i v) < gap n lv
 | [],_,_,h,_,_=>by simp at h
 | u::lv,0,v,_,hv,hn=>by
  simp only [gap,List.set_cons_zero,List.map_cons,List.sum_cons,List.getElem_cons_zero] at hv ⊢
  omega
 | u::lv,i + 1,v,h,hv,hn=>by
  have:=gap_set (n:=n) (lv:=lv) (i:=i) (v:=v) (by simpa using h) (by simpa using hv) hn
  simp only [gap,List.set_cons_succ,List.map_cons,List.sum_cons] at this ⊢
  omega
def Rs (n:Int) (lv0 lv:List Int) (ch:Bool):Prop:=lv.length=lv0.length∧(∀ v∈lv,0≤v∧v≤n)∧gap n lv≤gap n lv0∧(ch=true→gap n lv < gap n lv0)
theorem Rs.refl {n:Int} {lv:List Int} (h:∀ v∈lv,0≤v∧v≤n):Rs n lv lv false:=⟨rfl,h,Nat.le_refl _,fun h=>by cases h⟩
theorem Rs.step {n fold pred:Int} {lv0 lv:List Int} {ch:Bool} {x:Ltl} (h:Rs n lv0 lv ch) (hp:pred.toNat < lv0.length) (hl:¬ n < lv.getD x.pred.toNat 0 + liftS fold x):Rs n lv0 (rawLit fold pred x lv ch).1 (rawLit fold pred x lv ch).2:=by
 obtain⟨h1,h2,h3,h4⟩:=h
 unfold rawLit
 split
 ·rename_i hlt
  have hp':pred.toNat < lv.length:=by omega
  rw [List.getD,List.getElem?_eq_getElem hp',Option.getD_some] at hlt
  have:=gap_set (n:=n) hp' hlt (by omega)
  refine⟨by simpa using h1,fun v hv=>?_,by simp only;omega,fun _=>by simp only;omega⟩
  rcases List.mem_or_eq_of_mem_set hv with h|h
  ·exact h2 v h
  ·have:=(h2 _ (List.getElem_mem hp')).1
   omega
 ·exact⟨h1,h2,h3,h4⟩
theorem Rs.next {n fold pred:Int} {lv0 lv lv':List Int} {ch ch':Bool} {x:Ltl} (h:Rs n lv0 lv ch) (hp:pred.toNat < lv0.length) (hs:rawStep n fold pred (some (lv,ch)) x=some (lv',ch')):Rs n lv0 lv' ch':=by
 unfold rawStep at hs
 split at hs
 ·cases hs
 ·rename_i heq
  cases heq
  split at hs
  ·cases hs
  ·rename_i hl
   have:=h.step (fold:=fold) hp hl
   injection hs with hs
   rw [hs] at this
   exact this
def nLit (st:List Bool × List Int) (x:Ltl):List Bool × List Int:=if st.1.getD x.pred.toNat false then st else (st.1.set x.pred.toNat true,st.2++[x.pred])
theorem count_set':∀ {bs:List Bool} {i:Nat} (_:i < bs.length),bs[i]? = some false→(bs.set i true).count false + 1=bs.count false
 | [],_,h,_=>by simp at h
 | b::bs,0,_,hb=>by simp at hb;subst hb;simp
 | b::bs,i + 1,h,hb=>by
  have:=count_set' (bs:=bs) (i:=i) (by simpa using h) (by simpa using hb)
  rw [List.set_cons_succ,List.count_cons,List.count_cons]
  omega
def Ns (n m:Nat) (st:List Bool × List Int):Prop:=st.1.length=n∧2 * st.1.count false + st.2.length≤m∧∀ v∈st.2,0≤v∧v < n
theorem Ns.step {n m:Nat} {st:List Bool × List Int} {x:Ltl} (h:Ns n m st) (hx:0≤x.pred∧x.pred < n):Ns n m (nLit st x):=by
 obtain⟨h1,h2,h3⟩:=h
 unfold nLit
 split
 ·exact⟨h1,h2,h3⟩
 ·rename_i hf
  have hl:x.pred.toNat < st.1.length:=by omega
  have hg:st.1[x.pred.toNat]? = some false:=by
   rw [List.getElem?_eq_getElem hl]
   rw [List.getD,List.getElem?_eq_getElem hl,Option.getD_some] at hf
   cases hb:st.1[x.pred.toNat] with
   | true=>exact absurd hb hf
   | false=>rfl
  have:=count_set' hl hg
  refine⟨by simpa using h1,by simp only [List.length_append,List.length_singleton];omega,fun v hv=>?_⟩
  rcases List.mem_append.1 hv with hv|hv
  ·exact h3 v hv
  ·simp at hv;subst hv;exact hx
structure LvFit (p:Prg) (lv:List Int):Prop where
 len:lv.length=p.arity.length
 fit:∀ r∈p.rules,∀ l∈r.body,l.kind≤2→lv.getD l.pred.toNat 0 + liftN r.fold l≤lv.getD r.pred.toNat 0
structure PrgR (p:Prg):Prop where
 rul:∀ r∈p.rules,RulR p.arity r
 ar:∀ i,0≤p.arity.getD i 0∧p.arity.getD i 0≤3
 alen:p.arity.length≤10
 rlen:p.rules.length≤12
def hdW (S:List Fct) (r:Rul):List Fct:=setF' (headsD r (rawW S r))
def LvA (p:Prg) (lv:List Int) (n:Int) (m0:List Fct) (S:List Fct):Prop :=
 (∀ x∈S,FctOk p.arity x)∧∀ x:Fct,lv.getD x.pred.toNat 0 < n→(x∈S↔x∈m0)
def lvV (p:Prg) (lv:List Int) (n:Int) (m0:List Fct):Lv Rul where
 rs:=p.rules.filter fun r=>decide (lv.getD r.pred.toNat 0=n)
 hd:=hdW
 mw:=manyW
 A:=LvA p lv n m0
theorem raw_sub {S:List Fct} {r:Rul} {w:List Int} (h:w∈rawW S r):w∈fromE S r.body (yesOf r.body) (e0 r.vars.toNat):=by
 unfold rawW at h
 split at h
 ·exact (waysL_perm _ _ _).mem_iff.1 h
 ·simp at h
theorem raw_ok {arity:List Int} {S:List Fct} {r:Rul} (hr:RulR arity r) (ha:∀ i,0≤arity.getD i 0∧arity.getD i 0≤3) (hS:∀ x∈S,FctOk arity x) (hn:S.Nodup):HeadOk arity r (rawW S r):=by
 have hs:=rulS_mk hr ha hS
 obtain⟨_,_,h3⟩:=ways_perm hn hs.ok.lit hs.bd
 refine⟨hr,?_,fun w hw=>((h3 w).1 (raw_sub hw)).1,fun w hw y hy=>way_num hs.ok (raw_sub hw) y hy,?_⟩
 ·unfold rawW
  split
  ·rename_i hm;exact of_decide_eq_true hm
  ·simp
 ·have:=hr.tlen
  have:=ha r.pred.toNat
  omega
theorem head_ok {arity:List Int} {r:Rul} {ways:List (List Int)} (h:HeadOk arity r ways) {x:Fct} (hx:x∈headsD r ways):FctOk arity x∧x.pred=r.pred:=by
 rw [headsD_eq] at hx
 obtain⟨w,hw,hx⟩:=List.mem_filterMap.1 hx
 have hv:=h.vals hw
 have hl:(aW r w).length=r.terms.length:=List.length_map _
 unfold headD at hx
 split at hx
 ·simp only [Option.some.injEq] at hx
  subst hx
  exact⟨⟨h.rul.pred,by rw [hl];exact h.rul.tlen,hv⟩,rfl⟩
 ·rename_i hf
  split at hx
  ·rename_i hn
   simp only [Option.some.injEq] at hx
   subst hx
   have h0:=(h.rul.folded hf).1
   have hl2:(pW r w).1.length=r.terms.length - 1:=by
    show ((aW r w).take (r.terms.length - 1)).length=_
    rw [List.length_take,hl];omega
   refine⟨⟨h.rul.pred,?_,fun y hy=>?_⟩,rfl⟩
   ·simp only [List.length_append,List.length_singleton,hl2]
    rw [show r.terms.length - 1 + 1=r.terms.length by omega]
    exact h.rul.tlen
   ·rcases List.mem_append.1 hy with hy|hy
    ·exact hv y (List.mem_of_mem_take hy)
    ·rw [List.mem_singleton] at hy
     subst hy
     exact numB_in hn
  ·cases hx
theorem hdW_ok {p:Prg} (hp:PrgR p) {S:List Fct} {r:Rul} (hr:r∈p.rules) (hS:∀ x∈S,FctOk p.arity x) (hn:S.Nodup) {x:Fct} (hx:x∈hdW S r):FctOk p.arity x∧x.pred=r.pred :=
 head_ok (raw_ok (hp.rul r hr) hp.ar hS hn) (((setF_spec _).2 x).1 hx)
theorem hasF_mono {S T:List Fct} (h:∀ x∈S,x∈T) {x:Fct} (hx:hasF S x=true):hasF T x=true:=hasF_iff.2 (h x (hasF_iff.1 hx))
theorem hasF_cong {S T:List Fct} {x:Fct} (h:x∈S↔x∈T):hasF S x=hasF T x:=by
 rw [Bool.eq_iff_iff,hasF_iff,hasF_iff];exact h
theorem holdE_grow {S T:List Fct} {l:Ltl} {a:List Int} (h:∀ x∈S,x∈T) (hk:l.kind=2→∀ x:Fct,x.pred=l.pred→(x∈S↔x∈T)) (hh:holdE S l a=true):holdE T l a=true:=by
 unfold holdE at hh ⊢
 split
 ·rename_i h1;rw [if_pos h1] at hh;exact hasF_mono h hh
 ·rename_i h1
  rw [if_neg h1] at hh
  split
  ·rename_i h2
   rw [if_pos h2] at hh
   rw [← hasF_cong (hk h2 ⟨l.pred,l.terms.map (vA a)⟩ rfl)];exact hh
  ·rename_i h2;rw [if_neg h2] at hh;exact hh
theorem holdE_cong {S T:List Fct} {l:Ltl} {a:List Int} (hk:l.kind=1∨l.kind=2→∀ x:Fct,x.pred=l.pred→(x∈S↔x∈T)):holdE S l a=holdE T l a:=by
 unfold holdE
 split
 ·rename_i h1;exact hasF_cong (hk (.inl h1) ⟨l.pred,l.terms.map (vA a)⟩ rfl)
 ·split
  ·rename_i h2;rw [hasF_cong (hk (.inr h2) ⟨l.pred,l.terms.map (vA a)⟩ rfl)]
  ·rfl
theorem ways_grow {arity:List Int} {r:Rul} {S T:List Fct} (hr:RulR arity r) (ha:∀ i,0≤arity.getD i 0∧arity.getD i 0≤3) (hS:∀ x∈S,FctOk arity x) (hT:∀ x∈T,FctOk arity x) (nS:S.Nodup) (nT:T.Nodup)
  (hst:∀ x∈S,x∈T) (hk:∀ l∈r.body,l.kind≤2→liftN r.fold l=1→∀ x:Fct,x.pred=l.pred→(x∈S↔x∈T)) (hm:manyW T r=true) :
  manyW S r=true∧(∀ w∈rawW S r,w∈rawW T r)∧(r.fold≠0→rawW S r=rawW T r):=by
 have sS:=rulS_mk hr ha hS
 have sT:=rulS_mk hr ha hT
 obtain⟨_,p2,p3⟩:=ways_perm nS sS.ok.lit sS.bd
 obtain⟨_,q2,q3⟩:=ways_perm nT sT.ok.lit sT.bd
 have hsub:∀ w∈fromE S r.body (yesOf r.body) (e0 r.vars.toNat),w∈fromE T r.body (yesOf r.body) (e0 r.vars.toNat):=by
  intro w hw
  obtain⟨h1,h2⟩:=(p3 w).1 hw
  exact (q3 w).2 ⟨h1,fun l hl=>holdE_grow hst (fun h2=>hk l hl (by omega) (by unfold liftN;rw [if_pos (.inl h2)])) (h2 l hl)⟩
 have hlen:(waysL S r.vars.toNat r.body).length≤(waysL T r.vars.toNat r.body).length:=by
  rw [(waysL_perm S r.vars.toNat r.body).length_eq,(waysL_perm T r.vars.toNat r.body).length_eq]
  exact nodup_len p2 hsub
 have hmS:manyW S r=true:=by
  unfold manyW at hm ⊢
  exact decide_eq_true (Nat.le_trans hlen (of_decide_eq_true hm))
 refine⟨hmS,fun w hw=>?_,fun hf=>?_⟩
 ·have hw':=hsub w (raw_sub hw)
  unfold rawW
  rw [if_pos hm]
  exact (waysL_perm _ _ _).mem_iff.2 hw'
 ·have heq:∀ w,w∈fromE S r.body (yesOf r.body) (e0 r.vars.toNat)↔w∈fromE T r.body (yesOf r.body) (e0 r.vars.toNat):=by
   intro w
   rw [p3 w,q3 w]
   refine and_congr_right fun _=>forall_congr' fun l=>forall_congr' fun hl=>?_
   rw [holdE_cong (S:=S) (T:=T) fun h12=>hk l hl (by omega) (by unfold liftN;rw [if_pos (.inr hf)])]
  have hp:=same_members p2 q2 heq
  unfold rawW
  rw [if_pos hm,if_pos hmS]
  exact waysL_eq (waysL_sort _ _ _) ((waysL_perm _ _ _).trans hp)
theorem heads_grow {r:Rul} {S T:List Fct} (h2:∀ w∈rawW S r,w∈rawW T r) (h3:r.fold≠0→rawW S r=rawW T r):∀ x∈hdW S r,x∈hdW T r:=by
 intro x hx
 have hx:=((setF_spec _).2 x).1 hx
 refine ((setF_spec _).2 x).2 ?_
 by_cases hf:r.fold=0
 ·unfold headsD at hx ⊢
  rw [if_pos hf] at hx ⊢
  obtain⟨w,hw,rfl⟩:=List.mem_map.1 hx
  exact List.mem_map.2 ⟨w,h2 w hw,rfl⟩
 ·rw [← h3 hf];exact hx
theorem lvV_ok {p:Prg} (hp:PrgR p) {lv:List Int} (hl:LvFit p lv) (n:Int) (m0:List Fct):LvOk (lvV p lv n m0) where
 mono S T hS hT nS nT hst r hr hm:=by
  obtain⟨hr,hn⟩:=List.mem_filter.1 hr
  have hn:=of_decide_eq_true hn
  obtain⟨h1,h2,h3⟩:=ways_grow (hp.rul r hr) hp.ar hS.1 hT.1 nS.nodup nT.nodup hst (fun l hlb hk hlift x hx=>by
   have:=hl.fit r hr l hlb hk
   have hlt:lv.getD x.pred.toNat 0 < n:=by rw [hx];omega
   exact (hS.2 x hlt).trans (hT.2 x hlt).symm) hm
  exact⟨h1,heads_grow h2 h3⟩
 grow S T hS hst hT:=by
  refine⟨fun x hx=>?_,fun x hx=>⟨fun hxT=>?_,fun hx0=>hst x ((hS.2 x hx).2 hx0)⟩⟩
  ·rcases hT x hx with h|⟨r,hr,S',hS',nS',hx'⟩
   ·exact hS.1 x h
   ·exact (hdW_ok hp (List.mem_filter.1 hr).1 hS'.1 nS'.nodup hx').1
  ·rcases hT x hxT with h|⟨r,hr,S',hS',nS',hx'⟩
   ·exact (hS.2 x hx).1 h
   ·obtain⟨hr,hn⟩:=List.mem_filter.1 hr
    have hn:=of_decide_eq_true hn
    rw [(hdW_ok hp hr hS'.1 nS'.nodup hx').2] at hx
    omega
def RunTo (p:Prg) (lv:List Int) (given:List Fct):Nat→List Fct→Prop
 | 0,m=>m=setF' given
 | n + 1,M=>∃ m,RunTo p lv given n m∧Fit (lvV p lv n m) m M
theorem RunTo.unique {p:Prg} {lv:List Int} {given:List Fct}:∀ {n:Nat} {a b:List Fct},RunTo p lv given n a→RunTo p lv given n b→a=b
 | 0,_,_,h,g=>h.trans g.symm
 | _ + 1,_,_,⟨_,h1,h2⟩,⟨_,g1,g2⟩=>by
  have:=RunTo.unique h1 g1
  subst this
  exact h2.unique g2
theorem RunTo.ok {p:Prg} {lv:List Int} {given:List Fct} (hg:∀ x∈given,FctOk p.arity x) (hl:given.length≤60):∀ {n:Nat} {m:List Fct},RunTo p lv given n m→Strict m∧m.length≤60∧(∀ x∈m,FctOk p.arity x)∧∀ x∈given,x∈m
 | 0,m,h=>by
  subst h
  obtain⟨h1,h2⟩:=setF_spec given
  exact⟨h1,Nat.le_trans (setF_lenle _) hl,fun x hx=>hg x ((h2 x).1 hx),fun x hx=>(h2 x).2 hx⟩
 | n + 1,M,⟨m,h1,h2⟩=>by
  have ih:=RunTo.ok hg hl h1
  exact⟨h2.good.strict,h2.len,h2.good.a.1,fun x hx=>h2.good.sub x (ih.2.2.2 x hx)⟩
structure Edg where
 p:Nat
 q:Nat
 s:Int
def liftE (lv:List Int) (e:Edg):List Int:=if lv.getD e.p 0 < lv.getD e.q 0 + e.s then lv.set e.p (lv.getD e.q 0 + e.s) else lv
def roundE (E:List Edg) (lv:List Int):List Int:=E.foldl liftE lv
def itE (E:List Edg) (lv:List Int):Nat→List Int
 | 0=>lv
 | k + 1=>roundE E (itE E lv k)
def edgOk (n:Nat) (E:List Edg):Prop:=∀ e∈E,e.p < n∧e.q < n∧0≤e.s∧e.s≤1
def FitE (n:Nat) (E:List Edg) (F:List Int):Prop:=F.length=n∧(∀ i,0≤F.getD i 0)∧∀ e∈E,F.getD e.q 0 + e.s≤F.getD e.p 0
theorem liftE_len (lv:List Int) (e:Edg):(liftE lv e).length=lv.length:=by unfold liftE;split <;> simp
theorem roundE_len:∀ (E:List Edg) (lv:List Int),(roundE E lv).length=lv.length
 | [],_=>rfl
 | e::E,lv=>(roundE_len E (liftE lv e)).trans (liftE_len lv e)
theorem itE_len (E:List Edg) (lv:List Int):∀ k,(itE E lv k).length=lv.length
 | 0=>rfl
 | k + 1=>(roundE_len E _).trans (itE_len E lv k)
theorem set_getD (lv:List Int) (i:Nat) (v:Int) (hi:i < lv.length) (j:Nat):(lv.set i v).getD j 0=if i=j then v else lv.getD j 0:=by
 simp only [List.getD,List.getElem?_set]
 split
 ·rename_i h;subst h;first|rfl|(rw [if_pos hi];rfl)
 ·rfl
theorem liftE_le {n:Nat} {lv:List Int} {e:Edg} (hl:lv.length=n) (he:e.p < n) (i:Nat):lv.getD i 0≤(liftE lv e).getD i 0:=by
 unfold liftE
 split
 ·rw [set_getD _ _ _ (by omega)]
  split
  ·rename_i h;subst h;omega
  ·exact Int.le_refl _
 ·exact Int.le_refl _
theorem liftE_edge {n:Nat} {lv:List Int} {e:Edg} (hl:lv.length=n) (he:e.p < n):lv.getD e.q 0 + e.s≤(liftE lv e).getD e.p 0:=by
 unfold liftE
 split
 ·rw [set_getD _ _ _ (by omega),if_pos rfl];omega
 ·omega
theorem roundE_le {n:Nat}:∀ {E:List Edg} {lv:List Int},lv.length=n→edgOk n E→∀ i,lv.getD i 0≤(roundE E lv).getD i 0
 | [],_,_,_,_=>Int.le_refl _
 | e::_,lv,hl,hE,i=>Int.le_trans (liftE_le hl (hE e (List.mem_cons_self ..)).1 i) (roundE_le ((liftE_len lv e).trans hl) (fun x hx=>hE x (List.mem_cons_of_mem _ hx)) i)
theorem roundE_edge {n:Nat}:∀ {E:List Edg} {lv:List Int},lv.length=n→edgOk n E→∀ e∈E,lv.getD e.q 0 + e.s≤(roundE E lv).getD e.p 0
 | [],_,_,_,_,h=>nomatch h
 | x::E,lv,hl,hE,e,he=>by
  have hx:=hE x (List.mem_cons_self ..)
  have hE':edgOk n E:=fun y hy=>hE y (List.mem_cons_of_mem _ hy)
  have hl':=(liftE_len lv x).trans hl
  rcases List.mem_cons.1 he with rfl|he
  ·exact Int.le_trans (liftE_edge hl hx.1) (roundE_le hl' hE' _)
  ·have h1:=roundE_edge hl' hE' e he
   have h2:=liftE_le (e:=x) hl hx.1 e.q
   show _≤(roundE E (liftE lv x)).getD e.p 0
   omega
theorem liftE_below {n:Nat} {E:List Edg} {F lv:List Int} {e:Edg} (hl:lv.length=n) (hF:FitE n E F) (he:e∈E) (hp:e.p < n) (h:∀ i,lv.getD i 0≤F.getD i 0) (i:Nat):(liftE lv e).getD i 0≤F.getD i 0:=by
 unfold liftE
 split
 ·rw [set_getD _ _ _ (by omega)]
  split
  ·rename_i h1;subst h1
   have:=hF.2.2 e he
   have:=h e.q
   omega
  ·exact h i
 ·exact h i
theorem roundE_below' {n:Nat} {E:List Edg} {F:List Int} (hF:FitE n E F) (hE:edgOk n E):∀ (E2:List Edg) (lv:List Int),(∀ e∈E2,e∈E)→lv.length=n→(∀ i,lv.getD i 0≤F.getD i 0)→∀ i,(roundE E2 lv).getD i 0≤F.getD i 0
 | [],_,_,_,h,i=>h i
 | e::E2,lv,hs,hl,h,i=>roundE_below' hF hE E2 (liftE lv e) (fun x hx=>hs x (List.mem_cons_of_mem _ hx)) ((liftE_len lv e).trans hl)
   (fun i=>liftE_below hl hF (hs e (List.mem_cons_self ..)) (hE e (hs e (List.mem_cons_self ..))).1 h i) i
theorem roundE_below {n:Nat} {E:List Edg} {F lv:List Int} (hF:FitE n E F) (hE:edgOk n E) (hl:lv.length=n) (h:∀ i,lv.getD i 0≤F.getD i 0) (i:Nat):(roundE E lv).getD i 0≤F.getD i 0:=roundE_below' hF hE E lv (fun _ h=>h) hl h i
theorem rest_edge {n:Nat} {E:List Edg} {lv:List Int} (hl:lv.length=n) (hE:edgOk n E) (hr:roundE E lv=lv):∀ e∈E,lv.getD e.q 0 + e.s≤lv.getD e.p 0:=by
 intro e he
 have:=roundE_edge hl hE e he
 rwa [hr] at this
section
variable {n : Nat} {E : List Edg} (hE : edgOk n E)
abbrev L0 (E:List Edg) (n k:Nat):List Int:=itE E (zeros n) k
theorem L0_len (k:Nat):(L0 E n k).length=n:=by rw [itE_len];simp [zeros]
include hE
theorem L0_up (k i:Nat):(L0 E n k).getD i 0≤(L0 E n (k + 1)).getD i 0:=roundE_le (L0_len k) hE i
omit hE in
theorem zeros_getD (n i:Nat):(zeros n).getD i 0=0:=by
 unfold zeros
 rw [List.getD,List.getElem?_replicate]
 split <;> rfl
theorem L0_pos:∀ (k i:Nat),0≤(L0 E n k).getD i 0
 | 0,i=>by show 0≤(zeros n).getD i 0;rw [zeros_getD n];exact Int.le_refl _
 | k + 1,i=>Int.le_trans (L0_pos k i) (L0_up hE k i)
theorem L0_below {F:List Int} (hF:FitE n E F):∀ (k i:Nat),(L0 E n k).getD i 0≤F.getD i 0
 | 0,i=>by show (zeros n).getD i 0≤_;rw [zeros_getD n];exact hF.2.1 i
 | k + 1,i=>roundE_below hF hE (L0_len k) (L0_below hF k) i
theorem fit_of_rest {k:Nat} (h:L0 E n (k + 1)=L0 E n k):FitE n E (L0 E n k):=⟨L0_len k,L0_pos hE k,rest_edge (L0_len k) hE h⟩
omit hE in
theorem range_map_getD (n:Nat) (f:Nat→Int) (i:Nat):((List.range n).map f).getD i 0=if i < n then f i else 0:=by
 rw [List.getD,List.getElem?_map]
 split
 ·rename_i h;rw [List.getElem?_range h];rfl
 ·rename_i h;rw [List.getElem?_eq_none (by simp;omega)];rfl
omit hE in
theorem pigeon:∀ (m:Nat) (l:List Int),(∀ v:Nat,1≤v→v≤m→(v:Int)∈l)→m≤l.length
 | 0,_,_=>Nat.zero_le _
 | m + 1,l,h=>by
  have h1:=h (m + 1) (by omega) (Nat.le_refl _)
  have h2:=pigeon m (l.erase ((m + 1:Nat):Int)) fun v hv1 hv2=>(List.mem_erase_of_ne (by omega)).2 (h v hv1 (by omega))
  rw [List.length_erase_of_mem h1] at h2
  have:=List.length_pos_of_mem h1
  omega
end
theorem firstL_z0 {α:Type} {f:α→Int}:∀ {l:List α},firstL f l=0→∀ x∈l,f x=0
 | [],_,_,h=>nomatch h
 | y::l,h,x,hx=>by
  unfold firstL at h
  split at h
  ·rename_i h1;exact absurd h h1
  ·rename_i h1
   rcases List.mem_cons.1 hx with rfl|hx
   ·exact Classical.byContradiction fun h2=>h1 h2
   ·exact firstL_z0 h x hx
theorem inR_tru {n a b:Int} (h:¬ inR n a b=false):a≤n∧n≤b:=by
 unfold inR at h
 simp at h
 exact h
structure LtlOk (n vars:Int) (l:Ltl):Prop where
 kind:1≤l.kind∧l.kind≤4
 pred:hangsB l=true→0≤l.pred∧l.pred < n
structure RulOk (n:Nat) (r:Rul):Prop where
 pred:0≤r.pred∧r.pred < n
 vars:0≤r.vars∧r.vars≤8
 fold:0≤r.fold∧r.fold≤4
 body:r.body.length≤4
 lits:∀ l∈r.body,LtlOk n r.vars l
structure PrgOk (p:Prg):Prop where
 preds:p.arity.length≤10
 rules:p.rules.length≤12
 names:p.names.length=p.arity.length
 each:∀ r∈p.rules,RulOk p.arity.length r
theorem litE_okM {arity:List Int} {vars:Int} {l:Ltl} (h:litE arity vars l=0):LtlOk arity.length vars l:=by
 unfold litE at h
 split at h;· cases h
 rename_i h1
 split at h;· cases h
 refine⟨inR_tru h1,fun hh=>?_⟩
 have hk:l.kind=1∨l.kind=2:=by
  unfold hangsB at hh
  simpa using hh
 rw [if_pos hk] at h
 split at h;· cases h
 rename_i h3
 have:=inR_tru h3
 omega
theorem ruleE_ok {arity:List Int} {r:Rul} (h:ruleE arity r=0):RulOk arity.length r:=by
 unfold ruleE at h
 split at h;· cases h
 rename_i h1
 split at h;· cases h
 split at h;· cases h
 rename_i h3
 split at h;· rename_i h4;exact absurd h h4
 split at h;· cases h
 rename_i h5
 split at h;· cases h
 split at h;· cases h
 rename_i h7
 split at h;· rename_i h8;exact absurd h h8
 rename_i h8
 have:=inR_tru h1
 exact⟨by omega,inR_tru h3,inR_tru h5,by omega,fun l hl=>litE_okM (firstL_z0 (Classical.byContradiction fun hn=>h8 hn) l hl)⟩
theorem progE_ok {nameB:ByteArray→Bool} {p:Prg} (h:progE nameB p=0):PrgOk p:=by
 unfold progE at h
 split at h;· cases h
 rename_i h1
 split at h;· cases h
 rename_i h2
 split at h;· rename_i h3;exact absurd h h3
 exact⟨by omega,by omega,by omega,fun r hr=>ruleE_ok (firstL_z0 h r hr)⟩
def edgR (r:Rul):List Edg:=(r.body.filter hangsB).map fun x=>⟨r.pred.toNat,x.pred.toNat,liftS r.fold x⟩
def edgP (p:Prg):List Edg:=p.rules.flatMap edgR
theorem liftS_le (f:Int) (x:Ltl):0≤liftS f x∧liftS f x≤1:=by unfold liftS;split <;> omega
theorem edgP_ok {p:Prg} (h:PrgOk p):edgOk p.arity.length (edgP p):=by
 intro e he
 unfold edgP at he
 obtain⟨r,hr,he⟩:=List.mem_flatMap.1 he
 unfold edgR at he
 obtain⟨x,hx,rfl⟩:=List.mem_map.1 he
 obtain⟨hx1,hx2⟩:=List.mem_filter.1 hx
 have h1:=(h.each r hr).pred
 have h2:=((h.each r hr).lits x hx1).pred hx2
 have h3:=liftS_le r.fold x
 dsimp only
 omega
theorem liftN_S (f:Int) (x:Ltl):liftN f x=liftS f x:=by
 unfold liftN liftS strictB
 by_cases h1:x.kind=2 <;> by_cases h2:f=0 <;> simp [h1,h2]
theorem hangs_kind {x:Ltl} (h:1≤x.kind):(2 < x.kind)↔hangsB x=false:=by
 unfold hangsB
 simp only [Bool.or_eq_false_iff,decide_eq_false_iff_not]
 omega
theorem lvLits_edg (f pr:Int):∀ (b:List Ltl) (lv:List Int),(∀ x∈b,1≤x.kind)→b.foldl (lvLit f pr) lv=roundE ((b.filter hangsB).map fun x=>⟨pr.toNat,x.pred.toNat,liftS f x⟩) lv
 | [],_,_=>rfl
 | x::b,lv,h=>by
  have hk:=h x (List.mem_cons_self ..)
  have hb:=fun y hy=>h y (List.mem_cons_of_mem _ hy)
  rw [List.foldl_cons,lvLits_edg f pr b _ hb]
  cases hx:hangsB x with
  | false =>
   rw [List.filter_cons_of_neg (by rw [hx];simp)]
   congr 1
   unfold lvLit
   rw [if_pos ((hangs_kind hk).2 hx)]
  | true =>
   rw [List.filter_cons_of_pos hx,List.map_cons]
   show _=roundE _ (liftE lv _)
   congr 1
   unfold lvLit liftE
   rw [if_neg (by rw [hangs_kind hk,hx];simp),liftN_S]
theorem roundE_app (A B:List Edg) (lv:List Int):roundE (A++B) lv=roundE B (roundE A lv):=by unfold roundE;rw [List.foldl_append]
theorem lvRound_edg:∀ (l:List Rul) (lv:List Int),(∀ r∈l,∀ x∈r.body,1≤x.kind)→lvRound l lv=roundE (l.flatMap edgR) lv
 | [],_,_=>rfl
 | r::l,lv,h=>by
  rw [List.flatMap_cons,roundE_app,← lvRound_edg l _ fun y hy=>h y (List.mem_cons_of_mem _ hy)]
  show lvRound l (lvRule lv r)=_
  congr 1
  exact lvLits_edg _ _ _ _ (h r (List.mem_cons_self ..))
theorem lvIter_edg (p:Prg) (h:PrgOk p):∀ (k j:Nat),lvIter p.rules k (L0 (edgP p) p.arity.length j)=L0 (edgP p) p.arity.length (j + k)
 | 0,_=>rfl
 | k + 1,j=>by
  rw [lvIter,lvRound_edg _ _ fun r hr x hx=>((h.each r hr).lits x hx).kind.1]
  show lvIter p.rules k (L0 (edgP p) p.arity.length (j + 1))=_
  rw [lvIter_edg p h k (j + 1)]
  congr 1
  omega
def docLv (p:Prg):List Int:=lvIter p.rules (p.arity.length + 1) (zeros p.arity.length)
def docOk (p:Prg):Bool:=decide (lvRound p.rules (lvIter p.rules p.arity.length (zeros p.arity.length))=lvIter p.rules p.arity.length (zeros p.arity.length))
theorem docLv_eq (p:Prg) (h:PrgOk p):docLv p=L0 (edgP p) p.arity.length (p.arity.length + 1):=by
 have:=lvIter_edg p h (p.arity.length + 1) 0
 rw [Nat.zero_add] at this
 exact this
theorem docOk_eq (p:Prg) (h:PrgOk p):docOk p=decide (L0 (edgP p) p.arity.length (p.arity.length + 1)=L0 (edgP p) p.arity.length p.arity.length):=by
 have:=lvIter_edg p h p.arity.length 0
 rw [Nat.zero_add] at this
 unfold docOk
 rw [show lvIter p.rules p.arity.length (zeros p.arity.length)=L0 (edgP p) p.arity.length p.arity.length from this,lvRound_edg _ _ fun r hr x hx=>((h.each r hr).lits x hx).kind.1]
 rfl
theorem least_lt {n:Nat} {E:List Edg} (hE:edgOk n E) (hF:FitE n E (L0 E n n)) (i:Nat) (hi:i < n):(L0 E n n).getD i 0 < n:=by
 apply Classical.byContradiction
 intro hgt
 have hgt:(n:Int)≤(L0 E n n).getD i 0:=by omega
 have hin:∀ v:Nat,v≤n→(v:Int)∈L0 E n n:=by
  intro v hv2
  apply Classical.byContradiction
  intro hnot
  have hnv:∀ j,j < n→(L0 E n n).getD j 0≠v:=by
   intro j hj h
   apply hnot
   rw [List.getD,List.getElem?_eq_getElem (by rw [L0_len];exact hj),Option.getD_some] at h
   rw [← h]
   exact List.getElem_mem _
  let M:List Int:=(List.range n).map fun j=>if (v:Int) < (L0 E n n).getD j 0 then (L0 E n n).getD j 0 - 1 else (L0 E n n).getD j 0
  have hM:∀ j,j < n→M.getD j 0=if (v:Int) < (L0 E n n).getD j 0 then (L0 E n n).getD j 0 - 1 else (L0 E n n).getD j 0:=fun j hj=>by rw [range_map_getD,if_pos hj]
  have hfit:FitE n E M:=by
   refine⟨by simp [M],fun j=>?_,fun e he=>?_⟩
   ·rw [range_map_getD]
    split
    ·have:=hF.2.1 j
     split <;> omega
    ·exact Int.le_refl _
   ·obtain⟨hp,hq,hs0,hs1⟩:=hE e he
    have h1:=hF.2.2 e he
    have h2:=hnv e.q hq
    rw [hM _ hp,hM _ hq]
    split <;> split <;> omega
  have h3:=L0_below hE hfit n i
  have h5:=hnv i hi
  rw [hM i hi,if_pos (by omega)] at h3
  omega
 have:=pigeon (n + 1) ((L0 E n n).map (· + 1)) fun v h1 h2=>List.mem_map.2 ⟨((v - 1:Nat):Int),hin (v - 1) (by omega),by omega⟩
 rw [List.length_map,L0_len] at this
 omega
theorem prgR_of {p:Prg} (h:progE nameR p=0):PrgR p:=by
 obtain⟨h1,h2,h3,h4⟩:=progE_rule h
 exact⟨h1,h2,h3,h4⟩
theorem docLv_fit {p:Prg} (h:progE nameR p=0) (hd:docOk p=true):LvFit p (docLv p)∧∀ r∈p.rules,0≤(docLv p).getD r.pred.toNat 0∧(docLv p).getD r.pred.toNat 0 < p.arity.length:=by
 have hok:=progE_ok h
 have hE:=edgP_ok hok
 rw [docOk_eq p hok,decide_eq_true_eq] at hd
 have hfit:=fit_of_rest hE hd
 rw [docLv_eq p hok,hd]
 refine⟨⟨L0_len _,fun r hr l hl hk=>?_⟩,fun r hr=>⟨hfit.2.1 _,?_⟩⟩
 ·have hk1:=((hok.each r hr).lits l hl).kind.1
  have hh:hangsB l=true:=by
   cases hb:hangsB l with
   | true=>rfl
   | false=>exact absurd ((hangs_kind hk1).2 hb) (by omega)
  have:=hfit.2.2 ⟨r.pred.toNat,l.pred.toNat,liftS r.fold l⟩ (List.mem_flatMap.2 ⟨r,hr,List.mem_map.2 ⟨l,List.mem_filter.2 ⟨hl,hh⟩,rfl⟩⟩)
  rw [liftN_S]
  exact this
 ·have hp:=(hok.each r hr).pred
  exact least_lt hE hfit r.pred.toNat (by omega)
def mErr (p:Prg) (l:List Fct):Int:=if progE nameR p≠0 then progE nameR p else if docOk p=false then 4 else factsE p.arity l
inductive ModelR (p:Prg) (l:List Fct):Int→List Fct→Prop
 | bad (h:mErr p l≠0):ModelR p l (mErr p l) []
 | ok (m:List Fct) (h:mErr p l=0) (hr:RunTo p (docLv p) l p.arity.length m):ModelR p l 0 m
 | much (h:mErr p l=0) (hr:¬ ∃ m,RunTo p (docLv p) l p.arity.length m):ModelR p l 2 []
theorem ModelR.unique {p:Prg} {l:List Fct} {e e':Int} {m m':List Fct} (h:ModelR p l e m) (h':ModelR p l e' m'):e=e'∧m=m':=by
 cases h with
 | bad h=>cases h' with
  | bad=>exact⟨rfl,rfl⟩
  | ok _ h2=>exact absurd h2 h
  | much h2=>exact absurd h2 h
 | ok _ h hr=>cases h' with
  | bad h2=>exact absurd h h2
  | ok _ _ hr'=>exact⟨rfl,hr.unique hr'⟩
  | much _ hn=>exact absurd ⟨_,hr⟩ hn
 | much h hn=>cases h' with
  | bad h2=>exact absurd h h2
  | ok _ _ hr'=>exact absurd ⟨_,hr'⟩ hn
  | much=>exact⟨rfl,rfl⟩
theorem ModelR.run {p:Prg} {l m:List Fct} (h:mErr p l=0) (hr:ModelR p l 0 m):RunTo p (docLv p) l p.arity.length m:=by
 generalize he:(0:Int)=e at hr
 cases hr with
 | bad h2=>exact absurd h h2
 | ok _ _ hr=>exact hr
 | much=>cases he
structure MOk (p:Prg) (l:List Fct):Prop where
 prog:progE nameR p=0
 pr:PrgR p
 fit:LvFit p (docLv p)
 lvs:∀ r∈p.rules,0≤(docLv p).getD r.pred.toNat 0∧(docLv p).getD r.pred.toNat 0 < p.arity.length
 doc:docOk p=true
 len:l.length≤60
 facts:∀ x∈l,FctOk p.arity x
theorem factsE_ok {arity:List Int} {l:List Fct} (h:factsE arity l=0):l.length≤60∧∀ x∈l,FctOk arity x:=by
 unfold factsE at h
 split at h;· cases h
 exact⟨by omega,fun x hx=>factE_ok (firstL_all0 h x hx)⟩
theorem mOk {p:Prg} {l:List Fct} (h:mErr p l=0):MOk p l:=by
 unfold mErr at h
 split at h
 ·rename_i h1;exact absurd h h1
 rename_i h1
 split at h;· cases h
 rename_i h2
 have h1:progE nameR p=0:=by simpa using h1
 have h2:docOk p=true:=by simpa using h2
 obtain⟨q1,q2⟩:=factsE_ok h
 obtain⟨f1,f2⟩:=docLv_fit h1 h2
 exact⟨h1,prgR_of h1,f1,f2,h2,q1,q2⟩
theorem ModelR.strict {p:Prg} {l:List Fct} {e:Int} {m:List Fct} (h:ModelR p l e m):Strict m∧m.length≤60∧(∀ x∈m,FctOk p.arity x):=by
 cases h with
 | bad=>exact⟨.nil,by simp,fun _ h=>by simp at h⟩
 | ok _ h hr =>
  have:=RunTo.ok (mOk h).facts (mOk h).len hr
  exact⟨this.1,this.2.1,this.2.2.1⟩
 | much=>exact⟨.nil,by simp,fun _ h=>by simp at h⟩
theorem fit_heads {p:Prg} {lv:List Int} {n:Int} {m M:List Fct} (hp:PrgR p) (hl:LvFit p lv) (h:Fit (lvV p lv n m) m M):∀ x∈M,x∈m∨∃ r∈(lvV p lv n m).rs,x∈hdW M r:=by
 have hV:=lvV_ok hp hl n m
 obtain⟨t1,t2⟩:=setF_spec (m++((lvV p lv n m).rs.flatMap fun r=>hdW M r))
 have hTM:∀ x∈setF' (m++((lvV p lv n m).rs.flatMap fun r=>hdW M r)),x∈M:=by
  intro x hx
  rcases List.mem_append.1 ((t2 x).1 hx) with hx|hx
  ·exact h.good.sub x hx
  ·obtain⟨r,hr,hx⟩:=List.mem_flatMap.1 hx
   exact h.good.cl r hr x hx
 have hA:(lvV p lv n m).A (setF' (m++((lvV p lv n m).rs.flatMap fun r=>hdW M r))):=by
  refine⟨fun x hx=>h.good.a.1 x (hTM x hx),fun x hx=>⟨fun hxT=>(h.good.a.2 x hx).1 (hTM x hxT),fun hx0=>(t2 x).2 (List.mem_append_left _ hx0)⟩⟩
 have hgood:Good (lvV p lv n m) m (setF' (m++((lvV p lv n m).rs.flatMap fun r=>hdW M r))):=by
  refine⟨t1,hA,fun x hx=>(t2 x).2 (List.mem_append_left _ hx),fun r hr=>?_,fun r hr x hx=>?_⟩
  ·exact (hV.mono _ M hA h.good.a t1 h.good.strict hTM r hr (h.good.few r hr)).1
  ·exact (t2 x).2 (List.mem_append_right _ (List.mem_flatMap.2 ⟨r,hr,(hV.mono _ M hA h.good.a t1 h.good.strict hTM r hr (h.good.few r hr)).2 x hx⟩))
 intro x hx
 rcases List.mem_append.1 ((t2 x).1 (h.least _ hgood x hx)) with hx|hx
 ·exact .inl hx
 ·obtain⟨r,hr,hx⟩:=List.mem_flatMap.1 hx
  exact .inr ⟨r,hr,hx⟩
theorem same_ways {arity:List Int} {r:Rul} {S T:List Fct} (hr:RulR arity r) (ha:∀ i,0≤arity.getD i 0∧arity.getD i 0≤3) (hS:∀ x∈S,FctOk arity x) (hT:∀ x∈T,FctOk arity x) (nS:S.Nodup) (nT:T.Nodup)
  (hk:∀ l∈r.body,l.kind≤2→∀ x:Fct,x.pred=l.pred→(x∈S↔x∈T)):manyW S r=manyW T r∧rawW S r=rawW T r:=by
 have sS:=rulS_mk hr ha hS
 have sT:=rulS_mk hr ha hT
 obtain⟨_,p2,p3⟩:=ways_perm nS sS.ok.lit sS.bd
 obtain⟨_,q2,q3⟩:=ways_perm nT sT.ok.lit sT.bd
 have heq:∀ w,w∈fromE S r.body (yesOf r.body) (e0 r.vars.toNat)↔w∈fromE T r.body (yesOf r.body) (e0 r.vars.toNat):=by
  intro w
  rw [p3 w,q3 w]
  refine and_congr_right fun _=>forall_congr' fun l=>forall_congr' fun hl=>?_
  rw [holdE_cong (S:=S) (T:=T) fun h12=>hk l hl (by omega)]
 have hw:waysL S r.vars.toNat r.body=waysL T r.vars.toNat r.body:=waysL_eq (waysL_sort _ _ _) ((waysL_perm _ _ _).trans (same_members p2 q2 heq))
 unfold rawW manyW
 rw [hw]
 exact⟨rfl,rfl⟩
theorem RunTo.stay {p:Prg} {lv:List Int} {given:List Fct}:∀ {k n:Nat} {m M:List Fct},RunTo p lv given n m→RunTo p lv given (n + k) M→(∀ x∈m,x∈M)∧∀ x:Fct,lv.getD x.pred.toNat 0 < n→(x∈M↔x∈m)
 | 0,n,m,M,h,g=>by
  have:=RunTo.unique h g
  subst this
  exact⟨fun _ h=>h,fun _ _=>Iff.rfl⟩
 | k + 1,n,m,M,h,⟨M',g1,g2⟩=>by
  obtain⟨i1,i2⟩:=RunTo.stay (k:=k) h g1
  refine⟨fun x hx=>g2.good.sub x (i1 x hx),fun x hx=>?_⟩
  rw [g2.good.a.2 x (by show _ < ((n + k:Nat):Int);omega)]
  exact i2 x hx
theorem RunTo.back {p:Prg} {lv:List Int} {given:List Fct}:∀ {k n:Nat} {M:List Fct},RunTo p lv given (n + k) M→∃ m,RunTo p lv given n m
 | 0,_,M,h=>⟨M,h⟩
 | k + 1,_,_,⟨_,h,_⟩=>RunTo.back (k:=k) h
theorem RunTo.heads {p:Prg} {lv:List Int} {given:List Fct} (hp:PrgR p) (hl:LvFit p lv) (hg:∀ x∈given,FctOk p.arity x) (hlen:given.length≤60) {N:Nat} {M:List Fct} (h:RunTo p lv given N M) {r:Rul} (hr:r∈p.rules)
  (h0:0≤lv.getD r.pred.toNat 0) (hN:lv.getD r.pred.toNat 0 < N):manyW M r=true∧∀ x∈hdW M r,x∈M:=by
 obtain⟨n,hn⟩:∃ n:Nat,(n:Int)=lv.getD r.pred.toNat 0:=⟨(lv.getD r.pred.toNat 0).toNat,Int.toNat_of_nonneg h0⟩
 have hN':n + 1 + (N - (n + 1))=N:=by omega
 have hM:=h
 rw [← hN'] at hM
 obtain⟨m1,h1⟩:=RunTo.back hM
 obtain⟨s1,s2⟩:=RunTo.stay h1 hM
 obtain⟨m,g1,g2⟩:=h1
 have hm1:=RunTo.ok hg hlen (n:=n + 1) (m:=m1) ⟨m,g1,g2⟩
 have hMok:=RunTo.ok hg hlen h
 have hrs:r∈(lvV p lv n m).rs:=List.mem_filter.2 ⟨hr,decide_eq_true hn.symm⟩
 obtain⟨e1,e2⟩:=same_ways (hp.rul r hr) hp.ar hMok.2.2.1 hm1.2.2.1 hMok.1.nodup hm1.1.nodup fun l hlb hk x hx=>s2 x (by
  have h1:=hl.fit r hr l hlb hk
  have h2:0≤liftN r.fold l:=by unfold liftN;split <;> omega
  rw [hx];omega)
 refine⟨e1.trans (g2.good.few r hrs),fun x hx=>s1 x ?_⟩
 unfold hdW at hx
 rw [e2] at hx
 exact g2.good.cl r hrs x hx
theorem RunTo.from {p:Prg} {lv:List Int} {given:List Fct} (hp:PrgR p) (hl:LvFit p lv) (hg:∀ x∈given,FctOk p.arity x) (hlen:given.length≤60):∀ {N:Nat} {M:List Fct},RunTo p lv given N M→∀ x∈M,x∈given∨∃ r∈p.rules,0≤lv.getD r.pred.toNat 0∧lv.getD r.pred.toNat 0 < N∧x∈hdW M r
 | 0,M,h,x,hx=>by
  subst h
  exact .inl (((setF_spec _).2 x).1 hx)
 | N + 1,M,⟨m,h1,h2⟩,x,hx=>by
  have hMall:RunTo p lv given (N + 1) M:=⟨m,h1,h2⟩
  have hMok:=RunTo.ok hg hlen hMall
  have hmok:=RunTo.ok hg hlen h1
  rcases fit_heads hp hl h2 x hx with hx|⟨r,hr,hx⟩
  ·rcases RunTo.from hp hl hg hlen h1 x hx with hx|⟨r,hr,h0,hN,hx⟩
   ·exact .inl hx
   ·refine .inr ⟨r,hr,h0,by omega,?_⟩
    obtain⟨e1,e2⟩:=same_ways (hp.rul r hr) hp.ar hMok.2.2.1 hmok.2.2.1 hMok.1.nodup hmok.1.nodup fun l hlb hk y hy=>h2.good.a.2 y (by
     have h1:=hl.fit r hr l hlb hk
     have h2:0≤liftN r.fold l:=by unfold liftN;split <;> omega
     rw [hy];omega)
    unfold hdW at hx ⊢
    rw [e2];exact hx
  ·obtain⟨hr,hn⟩:=List.mem_filter.1 hr
   have hn:=of_decide_eq_true hn
   exact .inr ⟨r,hr,by omega,by omega,hx⟩
end Go.Proofs.YtapciiffpnociacGreat
namespace Go.Proofs.YtapciiffpnociacGreat
open Go Go.RowKit
section
variable {Γ : Ctx} {l : List Oper} {κ c : Nat}
def headB (l:List Oper) (c:Nat):Bool:=(enumO 0 l).all fun q=>Nat.blt q.1 c || (List.range c).all fun i=>reachB l l.length q.1 i
theorem headB_spec (h:headB l c=true) {j i:Nat} {o:Oper} (hj:l[j]? = some o) (hc:c≤j) (hi:i < c):reachB l l.length j i=true:=by
 unfold headB at h
 rw [List.all_eq_true] at h
 have h1:=h (j,o) ((enumO_mem l 0 (j,o)).2 ⟨Nat.zero_le _,by simpa using hj⟩)
 rw [Bool.or_eq_true] at h1
 rcases h1 with h1|h1
 ·have:j < c:=Nat.le_of_ble_eq_true h1
  omega
 ·exact List.all_eq_true.1 h1 i (List.mem_range.2 hi)
theorem split_sim (hB:regAnyB l=true) (hT:headB l c=true) {K:FS→Prop} {Q:Exit→Act→World→Prop} (hQ:∀ s e a w listed,K s→Rep Γ (lo (κ + c)) s e a w→Going l listed (enumO c (l.drop c))→wpAny Γ.P .any l.toArray Q (l.length - c) listed a w) :
  ∀ (fuel:Nat) (listed:Array Bool) (a:Act) (w:World) (s:FS) (e:Env) (D:Nat→Prop) (rem:List (Nat × Oper)) (lg:Log),Going l listed (rem++enumO c (l.drop c))→(∀ q∈rem,q.1 < c)→rem.length=fuel→Rep Γ D s e a w →
   (∀ x,D x→x < κ + c∧∀ j,x=κ + j→listed.getD j false=true)→DR Γ l κ rem lg K s→wpAny Γ.P .any l.toArray Q (fuel + (l.length - c)) listed a w:=by
 simp only [regAnyB,Bool.and_eq_true] at hB
 obtain⟨hdown,hpair,hcall⟩:=hB
 intro fuel
 induction fuel with
 | zero =>
  intro listed a w s e D rem lg g hrc hlen hr hD hd
  have hrem:rem=[]:=List.eq_nil_of_length_eq_zero hlen
  subst hrem
  rw [Nat.zero_add]
  cases hd with
  | nil hk =>
   obtain⟨L,H,m,hs⟩:=hr
   obtain⟨e',m'⟩:=m.widenTo (k':=lo (κ + c)) fun x hx=>(hD x hx).1
   exact hQ s e' a w listed hk ⟨L,H,m',hs⟩ g
 | succ fuel ih =>
  intro listed a w s e D rem lg g hrc hlen hr hD hd
  rw [show fuel + 1 + (l.length - c)=(fuel + (l.length - c)) + 1 by omega]
  obtain⟨q0,rem0,hq0⟩:∃ q r,rem=q::r:=by
   cases rem with
   | nil=>simp at hlen
   | cons q r=>exact⟨q,r,rfl⟩
  refine⟨fun h0=>?_,fun i hi=>?_⟩
  ·exfalso
   have hg:=g
   rw [hq0,List.cons_append] at hg
   have:=first_ready hdown hg
   rw [h0] at this
   simp at this
  ·obtain⟨h1,o,ho,hall⟩:=mem_ready.1 hi
   have hio:l[i]? = some o:=by simpa using ho
   have hic:i < c:=by
    apply Classical.byContradiction
    intro hn
    have hq0c:q0.1 < c:=hrc q0 (by rw [hq0];exact List.mem_cons_self ..)
    have hrd:=reach_done g l.length i o (headB_spec hT hio (by omega) hq0c) hio hall
    have h3:=(g.left q0).1 (List.mem_append_left _ (by rw [hq0];exact List.mem_cons_self ..))
    have hs:q0.1 < listed.size:=by rw [g.size];exact lt_of_some h3.1
    have h4:=h3.2
    rw [getD_flip hs,hrd] at h4
    cases h4
   have hmem:(i,o)∈rem:=by
    rcases List.mem_append.1 ((g.left (i,o)).2 ⟨hio,h1⟩) with h|h
    ·exact h
    ·exfalso
     have:=((enumO_mem _ _ _).1 h).1
     simp only at this
     omega
   obtain⟨pre,post,hre⟩:=List.append_of_mem hmem
   have g0:=g
   rw [hre,List.append_assoc,List.cons_append] at g0
   have g':=g0.rest hi rfl hio
   rw [← List.append_assoc] at g'
   have hpull:DR Γ l κ ((i,o)::(pre++post)) lg K s:=by
    refine DR.pull pre lg s (fun q hq=>?_) (hre▸hd)
    have hqr:q∈rem++enumO c (l.drop c):=List.mem_append_left _ (by rw [hre];exact List.mem_append_left _ hq)
    obtain⟨hq1,hq2⟩:=(g.left q).1 hqr
    have hqi:q.1 < i:=by
     have hs:=g0.sorted
     rw [List.pairwise_append] at hs
     have:=hs.2.2 q hq (i,o) (List.mem_cons_self ..)
     simpa using this
    have hqs:q.1 < listed.size:=by rw [g.size];exact lt_of_some hq1
    have hq2':listed.getD q.1 false=false:=(getD_flip hqs).symm.trans hq2
    have e0:path2B l i q.1=false:=path2_false hio hall g.closed hq2'
    have e1:=path2_edge e0
    have e2:edgeB l q.1 i=false:=by
     cases hx:edgeB l q.1 i with
     | false=>rfl
     | true =>
      obtain⟨o',ho',e',he',hb',hon⟩:=edgeB_spec.1 hx
      have:=down_spec hdown q.1 o' ho' e' he' hb'
      omega
    refine⟨e0,e2,?_,fun hcq=>?_⟩
    ·unfold regPairB at hpair
     rw [List.all_eq_true] at hpair
     have p1:=hpair (i,o) ((enumO_mem l 0 (i,o)).2 ⟨Nat.zero_le _,by simpa using hio⟩)
     rw [List.all_eq_true] at p1
     have p2:=p1 q ((enumO_mem l 0 q).2 ⟨Nat.zero_le _,by simpa using hq1⟩)
     have hnb:Nat.ble i q.1=false:=by
      cases hb:Nat.ble i q.1 with
      | false=>rfl
      | true=>have:=Nat.le_of_ble_eq_true hb;omega
     simp only [hnb,Bool.false_or,e1] at p2
     exact p2
    ·cases hci:isCall o with
     | false=>rfl
     | true =>
      have:=calls_done g hcall hq1 hcq i o hio hci hqi hall
      rw [hq2'] at this
      cases this
   cases hpull with
   | cons cc S rd wr hm hl hne hn hk =>
    have hz:¬ D (κ + i):=by
     intro hx
     have:=(hD _ hx).2 i rfl
     have hin:i < listed.size:=by rw [g.size];exact lt_of_some hio
     rw [← getD_flip hin,h1] at this
     cases this
    refine Mv.sound hm hr ⟨κ + c,fun x hx=>(hD x hx).1⟩ hz hio Q _ fun v u a' w' e' hv hr'=>?_
    refine ih (listed.setIfInBounds i true) a' w' _ e' _ (pre++post) _ g' (fun q hq=>hrc q ?_) ?_ hr' (fun x hx=>?_) (hk v u hv)
    ·rw [hre];rcases List.mem_append.1 hq with h|h <;> simp [h]
    ·rw [hre] at hlen
     simp only [List.length_append,List.length_cons] at hlen ⊢
     omega
    ·have hin:i < listed.size:=by rw [g.size];exact lt_of_some hio
     rcases hx with hx|hx
     ·refine⟨(hD x hx).1,fun j hj=>?_⟩
      have:=(hD x hx).2 j hj
      by_cases hij:i=j
      ·subst hij;simp [hin]
      ·rw [getD_set_ne false hij];exact this
     ·subst hx
      refine⟨by omega,fun j hj=>?_⟩
      have:i=j:=by omega
      subst this
      simp [hin]
theorem dw_split {id k m:Nat} {L:Sl} {H:Hp} {Q:Post} (c:Nat) (hm:Γ.P.follows .mixedOrders=true) (hB:regAnyB l=true) (hT:headB l c=true) (hcl:Nat.ble c l.length=true) (hnd:noDefer l=true) (hl:lenIs (l.take c) k m)
  (h:DT Γ l k (enumO 0 (l.take c)) [] (endK Γ m (fun k' L' H'=>∃ (k2:Nat) (L2:Sl) (H2:Hp) (m2:Nat),Ent Γ k' L' H' k2 L2 H2∧lenIs l k2 m2∧DT Γ l k2 (enumO c (l.drop c)) [] (endK Γ m2 (Q .normal)) L2 H2)) L H):DW Γ (.region id l.toArray true) Q k L H:=by
 have hcl:=Nat.le_of_ble_eq_true hcl
 have hmc:k + c=m:=by
  have:=lenIs_spec (l.take c) k m hl
  rw [List.length_take] at this
  omega
 subst hmc
 intro e a w mm
 refine wpIn_mono (wpIn_region_any hm (wpAny_in (letsOut_lift (Γ:=Γ) (K:=Q .normal)) hnd _ _ _ _ ?_)) (lift_mono (fun ex k' L' H' (⟨h1,h2⟩:onNormal (Q .normal) ex k' L' H')=>h1▸h2))
 have m0:=mm.below (w':={ w with drawn:=w.drawn + 1 }) ((Beld.refl _ _ _).drew)
 have hsp:enumO 0 (l.take c)++enumO c (l.drop c)=enumO 0 l:=by
  have:=enumO_app (l.take c) (l.drop c) 0
  rw [List.take_append_drop,List.length_take,Nat.zero_add,Nat.min_eq_left hcl] at this
  exact this.symm
 have hg:Going l (Array.replicate l.length false) (enumO 0 l):=by
  refine⟨by simp,fun j o hj hl=>?_,fun q=>?_,enumO_sorted l 0⟩
  ·have hlt:=lt_of_some hj
   simp [hlt] at hl
  ·rw [enumO_mem l 0 q]
   simp only [Nat.zero_le,Nat.sub_zero,true_and]
   constructor
   ·intro hq;exact⟨hq,by have:=lt_of_some hq;simp [this]⟩
   ·exact fun h=>h.1
 have hlenO:∀ (l:List Oper) b,(enumO b l).length=l.length:=by
  intro l
  induction l with
  | nil=>intro b;rfl
  | cons o l ih=>intro b;simp [enumO,ih]
 have hsize:l.toArray.size=c + (l.length - c):=by simp;omega
 rw [hsize]
 refine split_sim hB hT (K:=endK Γ (k + c) (fun k' L' H'=>∃ (k2:Nat) (L2:Sl) (H2:Hp) (m2:Nat),Ent Γ k' L' H' k2 L2 H2∧lenIs l k2 m2∧DT Γ l k2 (enumO c (l.drop c)) [] (endK Γ m2 (Q .normal)) L2 H2)) (Q:=lift Γ (onNormal (Q .normal))) (fun s e a w listed hk hr g=>?_) c _ a _ (ofL L H) e (lo k) (enumO 0 (l.take c)) [] (by rw [hsp,← hsize];simpa using hg) (fun q hq=>?_) (by rw [hlenO,List.length_take];omega) ⟨L,H,m0,rfl⟩ (fun x hx=>⟨Nat.lt_of_lt_of_le hx (Nat.le_add_right _ _),fun j hj=>?_⟩) h
 ·obtain⟨k0,L0,H0,e0,m0',k',L',H',m2,hent,hl2,hq⟩:=hk e a w hr
  obtain⟨e',m'⟩:=hent e0 a w m0'
  have hl3:=lenIs_spec l k' m2 hl2
  refine any_sim hB (K:=endK Γ m2 (Q .normal)) (κ:=k') (fun s e a w hk hr=>?_) (l.length - c) listed a w (ofL L' H') e' (lo k') _ [] g (by rw [hlenO,List.length_drop]) ⟨L',H',m',rfl⟩ (fun x hx=>?_) hq
  ·obtain⟨k2,L2,H2,e2,m3,hq2⟩:=hk e a w (hl3▸hr)
   exact .inl ⟨k2,L2,H2,e2,m3,rfl,hq2⟩
  ·have hx:x < k':=hx
   exact⟨by omega,fun j hj=>by omega⟩
 ·have h2:=((enumO_mem _ _ _).1 hq).2
  have:=lt_of_some h2
  rw [List.length_take] at this
  omega
 ·have:x < k:=hx
  omega
end
theorem more_heads {p:Prg} {n:Int} {l m:List Fct} (h1:wayE p n l=0) (h2:wayE p n (l++m)=0) (hf:(ruleAt p n).fold=0) (hk:∀ x∈(ruleAt p n).body,x.kind≠2):∀ x∈wayH p n l,hasF (wayH p n (l++m)) x=true:=by
 have w1:=wayOk (wayE_ways h1)
 have w2:=wayOk (wayE_ways h2)
 obtain⟨_,ha,_,_⟩:=progE_rule w1.prog
 have hm:manyW (setF' (l++m)) (ruleAt p n)=true:=by
  unfold wayE at h2
  rw [if_neg (by rw [wayE_ways (by unfold wayE;exact h2)];simp)] at h2
  cases hb:manyW (setF' (l++m)) (ruleAt p n) with
  | true=>rfl
  | false=>rw [hb] at h2;simp at h2
 obtain⟨_,q2,q3⟩:=ways_grow (S:=setF' l) (T:=setF' (l++m)) w1.rul ha (fun x hx=>w1.facts x (((setF_spec _).2 x).1 hx)) (fun x hx=>w2.facts x (((setF_spec _).2 x).1 hx)) (setF_spec _).1.nodup (setF_spec _).1.nodup
  (fun x hx=>((setF_spec _).2 x).2 (List.mem_append_left _ (((setF_spec _).2 x).1 hx))) (fun x hx _ hl=>by
   unfold liftN at hl
   rw [if_neg (by rintro (h|h);exact hk x hx h;exact h hf)] at hl
   cases hl) hm
 have g:=heads_grow q2 q3
 intro x hx
 rw [hasF_iff]
 unfold wayH wayL at hx ⊢
 rw [if_pos h1,if_pos (wayE_ways h1)] at hx
 rw [if_pos h2,if_pos (wayE_ways h2)]
 exact g x hx
theorem wayH_len {p:Prg} {n:Int} {l:List Fct}:(wayH p n l).length≤2000:=by
 unfold wayH
 split
 ·rename_i h
  have hw:=wayOk (wayE_ways h)
  refine Nat.le_trans (setF_lenle _) ?_
  rw [headsD_eq]
  exact Nat.le_trans (List.length_filterMap_le _ _) (wayL_ok hw).many
 ·simp
attribute [local irreducible] DW DS DL DQ Ev FnOk FnP thenD inBlockD DT
set_option maxHeartbeats 8000000 in
theorem ruleMore_fn (p:Prg) (n:Int) (l m:List Fct) (hlen:l.length + m.length≤2199023255552):Fn 4 [elPrg p,.d (.int .i64 n),.d (.slice 2 (l.map encFct)),.d (.slice 2 (m.map encFct))] (fun r=>r = .d (.bool true)):=by
 refine fnp_enter' _ Tryz.func4 rfl rfl (by kernel_rfl) ?_
 intro O w0 E0 β0
 have h1:=headsA_fn p n l
 have h2:=headsA_fn p n (l++m)
 have h3:=ruleBegun_fn
 have lr:(p.rules.map encRul).length=p.rules.length:=List.length_map _
 have ll:(l.map encFct).length=l.length:=List.length_map _
 have lm:(m.map encFct).length=m.length:=List.length_map _
 rw [List.map_append] at h2
 have hmore:wayE p n l=0→wayE p n (l++m)=0→_:=fun h0 g0=>more_heads (p:=p) (n:=n) (l:=l) (m:=m) h0 g0
 have hw:wayE p n l=0→_:=fun h0=>wayOk (wayE_ways h0)
 have hwl:=wayH_len (p:=p) (n:=n) (l:=l)
 generalize wayH p n l=a at *
 generalize wayH p n (l++m)=b at *
 generalize wayE p n l=e at *
 generalize wayE p n (l++m)=e2 at *
 have lla:(a.map encFct).length=a.length:=List.length_map _
 repeat' ((fail_if_success (apply dw_stopT 2));(first|refine z0 ?_|apply ds_nil|apply dw_seq2|refine z16 ?_|apply thenD_n|refine z21 ?_ (hc:=by apply h1)|refine z1 ?_|fail))
 refine dw_split 7 (by kernel_rfl) (by kernel_rfl) (by kernel_rfl) rfl rfl rfl ?_
 repeat' (first|(apply dt_bs0;exact rfl;exact rfl;exact rfl;exact rfl;exact rfl;exact rfl;exact rfl;exact rfl;exact rfl;exact rfl)|(first|refine z5 ?_|refine z9 ?_|refine z11 ?_|fail))
 refine⟨_,_,_,_,ent_seal 29 rfl rfl rfl,rfl,?_⟩
 by_cases he:e=0∧e2=0
 ·obtain⟨rfl,rfl⟩:=he
  have hlo:=(hw rfl).lo
  have hhi:=(hw rfl).hi
  have hb4:=(hw rfl).rul.body
  have hm:=hmore rfl rfl
  clear hmore hw
  rw [ruleAt_get hhi] at hm hb4
  have lb:(p.rules[n.toNat].body.map encLtl).length=p.rules[n.toNat].body.length:=List.length_map _
  repeat' (first|refine z0 ?_|apply ds_nil|refine z5 ?_|refine z10 ?_|apply dw_seq2|refine z16 ?_|apply dw_block|apply dw_skip|refine z19 ?_|apply thenD_n|refine z22 ?_ (hc:=by apply h2)|refine z21 ?_ (hc:=by apply h3)|(refine z23 ?_ ?_ <;> intro hg)|fail)
  all_goals try (exfalso;omega)
  ·repeat' (first|apply dw_ret|apply thenD_r)
   exact⟨.inl rfl,_,rfl,rfl,rfl⟩
  ·have hf:p.rules[n.toNat].fold=0:=by omega
   have hm:=hm hf
   refine ds_loop (ι:=Nat) (fun i=>⟨1,[(1,.d (.int .i64 n)),(4,.loc 0 0),(9,.d (.slice 2 (a.map encFct))),(11,.d (.slice 2 (b.map encFct))),(13,.d (.int .i64 i))],[(0,.blk 26 [.d (.slice 1 (p.arity.map encI)),.d (.slice 1 (p.names.map encT)),.d (.slice 5 (p.rules.map encRul))])]⟩)
    (fun i=>i≤p.rules[n.toNat].body.length∧∀ j (hj:j < p.rules[n.toNat].body.length),j < i→p.rules[n.toNat].body[j].kind≠2) (fun i=>p.rules[n.toNat].body.length - i) 0 ⟨Nat.zero_le _,fun j _ hj=>absurd hj (Nat.not_lt_zero j)⟩ (ent_ren id ⟨rfl,rfl,rfl,rfl,rfl,trivial⟩ ⟨rfl,trivial⟩ rfl rfl rfl rfl rfl rfl) ?_
   rintro i ⟨hi,hk⟩
   dsimp only at hi hk ⊢
   by_cases hb:i < p.rules[n.toNat].body.length
   ·by_cases h2:p.rules[n.toNat].body[i].kind=2
    ·repeat' (first|refine z0 ?_|apply ds_nil|apply dw_seq2|refine z16 ?_|apply dw_block|apply dw_skip|apply dw_exit|apply dw_ret|apply thenD_n|apply thenD_e|apply thenD_r|apply inB_n|apply inB_r|refine z17 ?_|(refine z23 ?_ ?_ <;> intro hg)|fail)
     all_goals try (exfalso;omega)
     exact⟨.inl rfl,_,rfl,rfl,rfl⟩
    ·repeat' (first|refine z0 ?_|apply ds_nil|apply dw_seq2|refine z16 ?_|apply dw_block|apply dw_skip|apply dw_exit|apply dw_ret|apply thenD_n|apply thenD_e|apply thenD_r|apply inB_n|apply inB_r|refine z17 ?_|(refine z23 ?_ ?_ <;> intro hg)|fail)
     all_goals try (exfalso;omega)
     exact⟨i + 1,⟨by omega,fun j hj hji=>by
      rcases Nat.lt_or_ge j i with h|h
      ·exact hk j hj h
      ·have hji:j < i + 1:=hji
       have:j=i:=by omega
       subst this
       exact h2⟩,ent_ren id ⟨rfl,rfl,rfl,rfl,rfl,trivial⟩ ⟨rfl,trivial⟩ rfl rfl rfl rfl rfl rfl,by show p.rules[n.toNat].body.length - (i + 1) < p.rules[n.toNat].body.length - i;omega⟩
   ·have hm:=hm fun x hx=>by
     obtain⟨j,hj,rfl⟩:=List.mem_iff_getElem.1 hx
     exact hk j hj (by omega)
    repeat' (first|refine z0 ?_|apply ds_nil|apply dw_seq2|refine z16 ?_|apply dw_block|apply dw_skip|apply dw_exit|apply dw_ret|apply thenD_n|apply thenD_e|apply thenD_r|apply inB_n|apply inB_r|refine z17 ?_|(refine z23 ?_ ?_ <;> intro hg)|fail)
    all_goals try (exfalso;omega)
    refine ds_loop (ι:=Nat) (fun i=>⟨0,[(9,.d (.slice 2 (a.map encFct))),(11,.d (.slice 2 (b.map encFct))),(14,.d (.int .i64 i))],[]⟩)
     (fun i=>i≤a.length) (fun i=>a.length - i) 0 (Nat.zero_le _) (ent_ren id ⟨rfl,rfl,rfl,trivial⟩ trivial rfl rfl rfl rfl rfl rfl) ?_
    intro i hi
    dsimp only at hi ⊢
    by_cases hia:i < a.length
    ·have w1:=hasFact_fn b a[i]
     rw [hm _ (List.getElem_mem hia)] at w1
     repeat' (first|refine z0 ?_|apply ds_nil|apply dw_seq2|refine z16 ?_|apply dw_block|apply dw_skip|apply dw_exit|apply dw_ret|refine z19 ?_|apply thenD_n|apply thenD_e|apply inB_n|refine z17 ?_|refine z21 ?_ (hc:=by apply w1)|(refine z23 ?_ ?_ <;> intro hg)|fail)
     all_goals try (exfalso;omega)
     exact⟨i + 1,by show i + 1≤a.length;omega,ent_ren id ⟨rfl,rfl,rfl,trivial⟩ trivial rfl rfl rfl rfl rfl rfl,by show a.length - (i + 1) < a.length - i;omega⟩
    ·repeat' (first|refine z0 ?_|apply ds_nil|apply dw_seq2|refine z16 ?_|apply dw_block|apply dw_skip|apply dw_exit|apply dw_ret|apply thenD_n|apply thenD_e|refine z17 ?_|(refine z23 ?_ ?_ <;> intro hg)|fail)
     all_goals try (exfalso;omega)
     exact⟨.inl rfl,_,rfl,rfl,rfl⟩
 ·clear hw hmore
  repeat' (first|refine z0 ?_|refine z12 ?_|apply ds_nil|refine z5 ?_|refine z10 ?_|apply dw_seq2|refine z16 ?_|apply dw_block|apply dw_skip|apply dw_ret|refine z18 ?_|refine z19 ?_|apply thenD_n|apply thenD_r|refine z22 ?_ (hc:=by apply h2)|refine z21 ?_ (hc:=by apply h3)|(refine z23 ?_ ?_ <;> intro hg)|((fail_if_success (apply ds_known;exact rfl));apply ds_guardP;exact rfl;exact rfl;exact rfl;all_goals intro hg))
  all_goals try (exfalso;omega)
  all_goals exact⟨.inl rfl,_,rfl,rfl,rfl⟩
theorem listOfR {R:Nat} {α:Type} {e:RT} {enc:α→List D} {p:α→Prop} (h:∀ x,TyDR R e x→∃ t,x=enc t∧p t):∀ (l:List (List D)),(∀ x∈l,TyDR R e x)→∃ ts:List α,l=ts.map enc∧∀ t∈ts,p t
 | [],_=>⟨[],rfl,by simp⟩
 | x::l,hl=>by
  obtain⟨t,rfl,ht⟩:=h x (hl x (List.mem_cons_self ..))
  obtain⟨ts,rfl,hts⟩:=listOfR h l fun y hy=>hl y (List.mem_cons_of_mem _ hy)
  exact⟨t::ts,rfl,fun u hu=>(List.mem_cons.1 hu).elim (fun e=>e▸ht) (hts u)⟩
theorem sliceOfR {R:Nat} {α:Type} {c b:Nat} {e:RT} {enc:α→List D} {p:α→Prop} (h:∀ x,TyDR R e x→∃ t,x=enc t∧p t) (x:List D) (hx:TyDR R (.slice c b e) x):∃ ts:List α,x=[.slice c (ts.map enc)]∧ts.length * b≤R∧∀ t∈ts,p t:=by
 obtain⟨l,h1,_,rfl,h3⟩:=hx
 obtain⟨ts,rfl,h4⟩:=listOfR h l h3
 exact⟨ts,rfl,by rw [← List.length_map (f:=enc)];exact h1,h4⟩
abbrev rtFctR:RT:=.struct [.int .i64,.slice 1 8 (.int .i64)]
theorem int_ofR {R:Nat} (x:List D) (h:TyDR R (.int .i64) x):∃ n:Int,x=encI n∧True:=by
 obtain⟨n,_,rfl⟩:=h
 exact⟨n,rfl,trivial⟩
theorem fct_ofR {R:Nat} (x:List D) (h:TyDR R rtFctR x):∃ t:Fct,x=encFct t∧t.args.length * 8≤R:=by
 obtain⟨a,b,rfl,⟨k,_,rfl⟩,c,d,rfl,h2,rfl⟩:=h
 obtain⟨l,rfl,hl,_⟩:=sliceOfR int_ofR c h2
 exact⟨⟨k,l⟩,rfl,hl⟩
theorem fcts_argR {R:Nat} (x:List D) (h:TyDR R (.slice 2 32 rtFctR) x):∃ l:List Fct,RT.arg (.slice 2 32 rtFctR) x = .d (.slice 2 (l.map encFct))∧l.length * 32≤R∧∀ t∈l,t.args.length * 8≤R:=by
 obtain⟨l,rfl,h1,h2⟩:=sliceOfR fct_ofR x h
 exact⟨l,rfl,h1,h2⟩
end Go.Proofs.YtapciiffpnociacGreat
namespace Go.Proofs.YtapciiffpnociacGreat
open Go Go.RowKit
attribute [local irreducible] DW DS DL DQ Ev FnOk FnP thenD inBlockD DWr
abbrev prgBk (p:Prg):HB:=.blk 26 [.d (.slice 1 (p.arity.map encI)),.d (.slice 1 (p.names.map encT)),.d (.slice 5 (p.rules.map encRul))]
abbrev svI (v:Int):SV:=.d (.int .i64 v)
def qOk (left:List Int) (off cap:Nat) (cs:List SV):Prop:=off + cap≤cs.length∧(cs.drop off).take left.length=left.map svI∧left.length≤cap
theorem qOk.head {n:Int} {left:List Int} {off cap:Nat} {cs:List SV} (h:qOk (n::left) off cap cs):cs[off]? = some (svI n):=by
 obtain⟨h1,h2,h3⟩:=h
 have:((cs.drop off).take (n::left).length)[0]? = some (svI n):=by rw [h2];rfl
 rw [List.getElem?_take,List.getElem?_drop] at this
 simpa using this
theorem qOk.tail {n:Int} {left:List Int} {off cap:Nat} {cs:List SV} (h:qOk (n::left) off cap cs):qOk left (off + 1) (cap - 1) cs:=by
 obtain⟨h1,h2,h3⟩:=h
 simp only [List.length_cons] at h2 h3
 refine⟨by omega,?_,by omega⟩
 have h4:((cs.drop off).take (left.length + 1)).drop 1=left.map svI:=by rw [h2];rfl
 rw [List.drop_take,List.drop_drop] at h4
 simpa using h4
theorem qOk.push {x:Int} {left:List Int} {off cap:Nat} {cs:List SV} (h:qOk left off cap cs) (hr:left.length + 1≤cap):qOk (left++[x]) off cap (splice cs (off + left.length * 1) [svI x]):=by
 obtain⟨h1,h2,h3⟩:=h
 have hl:left.length≤(cs.drop off).length:=by rw [List.length_drop];omega
 refine⟨by unfold splice;simp;omega,?_,by simpa using hr⟩
 unfold splice
 rw [Nat.mul_one,List.length_append,List.length_singleton,List.map_append,← h2,List.append_assoc,List.drop_append_of_le_length (by simp;omega),List.drop_take]
 rw [show off + left.length - off=left.length by omega]
 rw [← List.append_assoc,List.take_append_of_le_length (by simp;omega),List.take_of_length_le (by simp;omega)]
 rfl
theorem qOk.grow {x:Int} {left:List Int} {off cap c':Nat} {cs:List SV} (h:qOk left off cap cs) (hr:left.length + 1≤c') :
  qOk (left++[x]) 0 c' ((cs.drop off).take (left.length * 1)++[svI x]++List.replicate ((c' - (left.length + 1)) * 1) .junk):=by
 obtain⟨h1,h2,h3⟩:=h
 rw [Nat.mul_one,Nat.mul_one,h2]
 refine⟨by simp;omega,?_,by simpa using hr⟩
 rw [List.drop_zero,List.length_append,List.length_singleton,List.take_append_of_le_length (by simp),List.take_of_length_le (by simp),List.map_append]
 rfl
abbrev ndH (q:Nat) (p:Prg) (out:List Bool) (n off cap:Nat) (cs:List SV):Hp:=[(0,prgBk p),(1,.row 4 1 (out.map encBl)),(2,.blk 50 [.row 1]),(q,.blk 3 cs),(4,.blk 22 [.sl q off n cap])]
structure Qst where
 out:List Bool
 left:List Int
 n:Nat
 off:Nat
 cap:Nat
 cs:List SV
abbrev Qst.ok (x:Qst):Prop:=x.n=x.left.length∧qOk x.left x.off x.cap x.cs∧x.cap≤maxLen∧SV.lowL 0 x.cs=true
abbrev Qst.H (p:Prg) (q:Nat) (x:Qst):Hp:=ndH q p x.out x.n x.off x.cap x.cs
end Go.Proofs.YtapciiffpnociacGreat
