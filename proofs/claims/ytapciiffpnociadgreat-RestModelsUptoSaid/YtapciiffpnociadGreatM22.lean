/- Several texts in one: RelM RelY RelT RelG RelH RuX RuY RuTa MoA MoB SpoA SpoB GxSpm MoC MoD. Condition: none. -/
import Derived.Test.YtapciiffpnociadGreatM21
import Derived.Test.YtapciiffpnociadGreatM10
import Derived.Test.YtapciiffpnociadGreatM17
import Derived.Test.YtapciiffpnociadGreatM12
import Derived.Test.YtapciiffpnociadGreatM18
import Derived.Test.YtapciiffpnociadGreatM20
import Derived.Test.YtapciiffpnociadGreatM09
import Derived.Test.YtapciiffpnociadGreatM19
set_option linter.all false
set_option maxHeartbeats 8000000
open Bool renaming false_or→Cb,true_and→Bo,true_or→Hy
open List renaming getD→A9,getElem?_eq_getElem→Ab,getElem_mem→Ag,length_append→Ap,length_map→Aa,length_singleton→Bh,length_take→Au,map_append→Av,mem_singleton→A5,take_of_length_le→Ak,take_succ_eq_append_getElem→Am
open Nat renaming le_refl→Af,not_lt_zero→A6,zero_le→Ai
namespace Go.Proofs.YtapciiffpnociadGreat
section
open Go Go.RowKit
variable [Bnds]
attribute [local irreducible] DW DS DL DQ Ev FnOk FnP dp bh DT
theorem match1_fn (x:Fct) (pred:Int) (args:List Int) (bound:List Bool):Fn 77 [c9 x,.pd [.int .i64 pred],.pd [.slice 1 (args.map ah)],.pd [.slice 1 (bound.map encBm)]] (λr=>r = .d (.bool (uk pred args bound x))):=by
 refine fqE Tryz.func77 ?_;intro O w0 E0 β0;have lb:(args.map ah).length=args.length:=Aa _;have lc:(bound.map encBm).length=bound.length:=Aa _;have lx:(x.args.map ah).length=x.args.length:=Aa _;by_cases hp:x.pred=pred
 ·by_cases hl:x.args.length=args.length
  ·have hm:uk pred args bound x=vb (matchK args bound x) 0 (args.length-0):=by unfold uk;rw [decide_eq_true hp,decide_eq_true (by omega)];rfl
   rw [hm];repeat' (first|refine zr ?_|(refine zm ?_ ?_<;>intro hg)|(exfalso;omega))
   all_goals try (exfalso;simp_all;done)
   refine l9 (t:=20) rfl (λhk2=>?_);refine ak (ι:=Nat) (λi=>⟨1,[(1,.pd [.int .i64 pred]),(2,.pd [.slice 1 (args.map ah)]),(3,.pd [.slice 1 (bound.map encBm)]),(4,.loc 0 0),(20,.d (.slice 1 (args.map ah))),(21,.d (.int .i64 args.length)),(22,.d (.int .i64 i))],[(0,.blk 37 [.d (.int .i64 x.pred),.d (.slice 1 (x.args.map ah))])]⟩)
    (λi=>i<=args.length/\vb (matchK args bound x) 0 (args.length-0)=vb (matchK args bound x) i (args.length-i)) (λi=>args.length-i) 0 ⟨Ai _,rfl⟩ (ag id ⟨rfl,rfl,rfl,rfl,rfl,by rw [<- lb];rfl,rfl,trivial⟩ ⟨rfl,trivial⟩ rfl rfl rfl rfl rfl rfl) ?_
   rintro i ⟨e1,e3⟩;dsimp only at e1 e3 ⊢;by_cases hk:i<args.length
   ·rw [allFrom_step hk] at e3;have ha:args.getD i 0=args[i]:=by rw [A9,Ab hk];rfl
    have hx:x.args.getD i 0=x.args[i]'(by omega):=by rw [A9,Ab (by omega)];rfl
    have hmk:matchK args bound x i=(decide (bound.length<=i) || (!bound.getD i false || decide (x.args[i]'(by omega)=args[i]))):=by unfold matchK;rw [ha,hx]
    by_cases hbk:bound.length<=i
    ·rw [decide_eq_true hbk,Hy] at hmk;rw [hmk,Bo] at e3;repeat' (first|refine zr ?_|(refine zm ?_ ?_<;>intro hg)|(exfalso;omega))
     all_goals exact⟨i+1,⟨by omega,e3⟩,er id,by omega⟩
    ·have hbg:bound.getD i false=bound[i]'(by omega):=by rw [A9,Ab (by omega)];rfl
     rw [decide_eq_false hbk,Cb,hbg] at hmk;cases hbb:bound[i]'(by omega) with
     | false =>
      rw [hbb,Bool.not_false,Hy] at hmk;rw [hmk,Bo] at e3;repeat' (first|refine zr ?_|(refine zm ?_ ?_<;>intro hg)|(exfalso;omega))
      all_goals try (exfalso;simp_all;done)
      all_goals exact⟨i+1,⟨by omega,e3⟩,er id,by omega⟩
     | true =>
      rw [hbb,Bool.not_true,Cb] at hmk;rw [hmk] at e3;repeat' (first|refine zr ?_|(refine zm ?_ ?_<;>intro hg)|(exfalso;omega))
      all_goals try (exfalso;simp_all;done)
      all_goals first
       | exact⟨.inl rfl,_,rfl,rfl,congrArg (λz=>SV.d (.bool z)) (by rw [e3];simp_all)⟩
       | exact⟨i+1,⟨by omega,by rw [e3,decide_eq_true (by simp_all)];rfl⟩,er id,by omega⟩
   ·rw [e3,show args.length-i=0 by omega];repeat' (first|refine zr ?_|(refine zm ?_ ?_<;>intro hg)|(exfalso;omega))
    exact⟨.inl rfl,_,rfl,rfl,rfl⟩
  ·have hm:uk pred args bound x=false:=by unfold uk;rw [decide_eq_false (p:=(x.args.length:Int)=_) (by omega)];simp
   rw [hm];repeat' (first|refine zr ?_|(refine zm ?_ ?_<;>intro hg)|(exfalso;omega))
   all_goals try (exfalso;simp_all;done)
   exact⟨.inl rfl,_,rfl,rfl,rfl⟩
 ·have hm:uk pred args bound x=false:=by unfold uk;rw [decide_eq_false hp];rfl
  rw [hm];repeat' (first|refine zr ?_|(refine zm ?_ ?_<;>intro hg)|(exfalso;omega))
  all_goals try (exfalso;simp_all;done)
  exact⟨.inl rfl,_,rfl,rfl,rfl⟩
variable [Bnds]
theorem cv {Γ:Ctx} {k:Nat} {L:Sl} {H:Hp} (t i:Nat) {ty:TypeId} {ds:List D} (hL:L.get t = .loc i 0) (hH:Hp.get H i=some (.blk ty (ds.map .d))):Ent Γ k L H k ((t,.pd ds)::L) (Hp.del H i):=by
 intro e a w m;obtain⟨m2,hX⟩:=m.del i;have hmem:=Hp.mem_of hH;refine⟨e,m2.toHeap,m2.defers,m2.len,λt'=>?_⟩
 rw [Sl.get_cons];split
 ·rename_i ht;subst ht;have hs:=m.slot t;rw [hL] at hs;obtain⟨_,hv⟩:=hs;obtain⟨us,g1,g2,_⟩:=(m.heap _ hmem).2;have hown:HB.owned e (i,.blk ty (ds.map .d))=some (e.β i):=rfl;refine⟨e.β i,0,hv,co g1,λhx=>?_,λj hj=>?_⟩
  ·rcases hx with hx|hx
   ·exact (m.mine _ (List.mem_filterMap.2 ⟨_,hmem,hown⟩)).2 hx
   ·obtain⟨p,hp,hpg⟩:=List.mem_filterMap.1 hx;have hd:=Hp.del_mem (i:=i) H m.ids p hp;exact m.owned_ne hd.1 hmem hd.2 hpg hown
  ·obtain⟨u,g3,g4⟩:=RelL.get _ _ g2 j (.d ds[j]) (by rw [List.getElem?_map,Ab hj];rfl);refine⟨u,?_,RepC.keep (Af _) (λ_ _ _=>rfl) (λb _ h=>hX b h) g4⟩
   rw [cell_of_row w _ _ _ ty (0,0) g1,Nat.zero_add];simpa using g3
 ·exact m2.slot t'
theorem yk (l m:List Fct) (hl:l.length+m.length<=4398046511104) (ha:∀ x∈l,x.args.length<=17592186044416) (hb:∀ x∈m,x.args.length<=17592186044416) :
  Fn 27 [.d (.slice 2 (l.map aa)),.d (.slice 2 (m.map aa))] (λr=>r = .d (.own Bnds.B (.slice 2 ((av (l++m)).map aa)))):=by
 refine fqE Tryz.func27 ?_;intro O w0 E0 β0;have hc:Fn 75 [.d (.slice 1 [[.slice 2 (l.map aa)],[.slice 2 (m.map aa)]])] (λr=>r = .d (.slice 2 ((l++m).map aa))):=by
  have h:=concat_fn [l,m] (by simpa using hl) (by simp);rw [show [l,m].flatten=l++m by simp] at h;exact h
 have hs:=yn (l++m) (by rw [Ap];exact hl) (λx hx=>(List.mem_append.1 hx).elim (ha x) (hb x));repeat' (first|refine zr ?_|refine z21 ?_ (hc:=by apply hc)|refine z21 ?_ (hc:=by apply hs)|fail)
 exact⟨.inl rfl,_,rfl,rfl,rfl⟩
theorem union_fn (l m:List Fct) (hl:l.length+m.length<=4398046511104) (ha:∀ x∈l,x.args.length<=17592186044416) (hb:∀ x∈m,x.args.length<=17592186044416) :
  Fn 27 [.d (.slice 2 (l.map aa)),.d (.slice 2 (m.map aa))] (λr=>r = .d (.slice 2 ((av (l++m)).map aa))):=(yk l m hl ha hb).unown
theorem matchO_fn (l:List Fct) (pred:Int) (args:List Int) (bound:List Bool) (hl:l.length<=4398046511104) (ha:∀ x∈l,x.args.length<=17592186044416) :
  Fn 29 [.d (.slice 2 (l.map aa)),.d (.int .i64 pred),.d (.slice 1 (args.map ah)),.d (.slice 1 (bound.map encBm))] (λr=>r = .d (.own Bnds.B (.slice 2 ((av (ug l pred args bound)).map aa)))):=by
 refine fqE Tryz.func29 ?_;intro O w0 E0 β0;have hk:=keepSO_fn l 77 [.pd [.int .i64 pred],.pd [.slice 1 (args.map ah)],.pd [.slice 1 (bound.map encBm)]] (uk pred args bound) rfl hl ha (λx _=>match1_fn x pred args bound);repeat' ((fail_if_success (apply cp 1));(first|refine zs ?_|fail))
 refine au (cv (ds:=[.int .i64 pred]) 5 0 rfl rfl) ?_;refine au (cv (ds:=[.slice 1 (args.map ah)]) 6 1 rfl rfl) ?_;refine au (cv (ds:=[.slice 1 (bound.map encBm)]) 7 2 rfl rfl) ?_;repeat' (first|refine zr ?_|refine z21 ?_ (hc:=by apply hk)|fail)
 exact⟨.inl rfl,_,rfl,rfl,rfl⟩
theorem match_fn (l:List Fct) (pred:Int) (args:List Int) (bound:List Bool) (hl:l.length<=4398046511104) (ha:∀ x∈l,x.args.length<=17592186044416) :
  Fn 29 [.d (.slice 2 (l.map aa)),.d (.int .i64 pred),.d (.slice 1 (args.map ah)),.d (.slice 1 (bound.map encBm))] (λr=>r = .d (.slice 2 ((av (ug l pred args bound)).map aa))):=(matchO_fn l pred args bound hl ha).unown
variable [Bnds]
theorem hasF_set (m:List Fct) (x:Fct):hasF (av m) x=hasF m x:=by
 rw [Bool.eq_iff_iff,hasF_iff,hasF_iff,(a8 m).2]
theorem ue (l m:List Fct):(l.filter λx=>!hasF (av m) x)=df l m:=by
 unfold df;exact List.filter_congr λx _=>by rw [hasF_set]
theorem Fct.same_refl (x:Fct):Fct.same x x=true:=by unfold Fct.same;simp [js]
theorem mf (l:List Fct):Fn 19 [.d (.slice 2 (l.map aa)),.d (.slice 2 (l.map aa))] (λr=>r = .d (.bool true)):=by
 have h:=fa l l;rw [ny Fct.same_refl] at h;exact h
def fA:Fct:=⟨0,[1]⟩
def fB:Fct:=⟨0,[2]⟩
theorem relationBegun_fn:Fn 14 [] (λr=>r = .d (.bool true)):=by
 refine fqE Tryz.func14 ?_;intro O w0 E0 β0;have e1:=fv 0 [1];have e2:=fv 0 [2];have h1:=jr fA fB;rw [show cu fA fB = -1 by decide] at h1;have h2:=jr fB fB;rw [js] at h2;have hs:∀ x∈[fB,fA,fB],x.args.length<=17592186044416:=by decide
 have h3:=set_fn [fB,fA,fB] (by decide) hs;rw [show av [fB,fA,fB]=[fA,fB] by kernel_rfl] at h3;have h4:=has_fn [fB,fA,fB] fA;rw [show hasF [fB,fA,fB] fA=true by decide] at h4;have h5:=minus_fn [fB,fA,fB] [fB] (by decide) (by decide) hs (by decide);rw [ue,show av (df [fB,fA,fB] [fB])=[fA] by kernel_rfl] at h5;have h6:=union_fn [fB,fA,fB] [fB,fA,fB] (by decide) hs hs;rw [show av ([fB,fA,fB]++[fB,fA,fB])=[fA,fB] by kernel_rfl] at h6;have h7:=match_fn [fB,fA,fB] 0 [2] [true] (by decide) hs;rw [show av (ug [fB,fA,fB] 0 [2] [true])=[fB] by kernel_rfl] at h7;have s1:=mf [fA,fB];have s2:=mf [fA];have s3:=mf [fB];repeat' (first|refine zr ?_|refine z21 ?_ (hc:=by apply e1)|refine z21 ?_ (hc:=by apply e2)|refine z22 ?_ (hc:=by apply h1)|refine z22 ?_ (hc:=by apply h2)|refine z22 ?_ (hc:=by apply h3)|refine z22 ?_ (hc:=by apply h4)|refine z22 ?_ (hc:=by apply h5)|refine z22 ?_ (hc:=by apply h6)|refine z22 ?_ (hc:=by apply h7)|refine z22 ?_ (hc:=by apply s1)|refine z22 ?_ (hc:=by apply s2)|refine z22 ?_ (hc:=by apply s3)|fail)
 all_goals exact cm rfl (by decide)
variable [Bnds]
theorem set_ext {l m:List Fct} (h:∀ x,x∈l↔x∈m):av l=av m :=
 j4 (a8 l).1 (a8 m).1 λx=>by rw [(a8 l).2,(a8 m).2,h]
theorem set_set (l:List Fct):av (av l)=av l:=set_ext λx=>(a8 l).2 x
variable [Bnds]
section
variable {Γ : Ctx} {k : Nat} {L : Sl} {H : Hp} {t ty : TypeId} {x : Operand}
end
variable [Bnds]
def wayH (p:Prg) (n:Int) (l:List Fct):List Fct:=if vw p n l=0 then av (ep (iu p n) (zq p n l)) else []
theorem wayE_ways {p:Prg} {n:Int} {l:List Fct} (h:vw p n l=0):vt p n l=0:=by
 unfold vw at h;split at h
 ·rename_i h1;exact absurd h h1
 ·rename_i h1;simpa using h1
theorem heads_fn (p:Prg) (n:Int) (l:List Fct) (hmade:vw p n l=0->Fn 61 [k8 (iu p n),.d (.slice 1 ((zq p n l).map cx))] (λres=>res = .d (.slice 2 ((av (ep (iu p n) (zq p n l))).map aa)))) :
  Fn 21 [db p,.d (.int .i64 n),.d (.slice 2 (l.map aa))] (λr=>r = .tup [.d (.slice 2 ((wayH p n l).map aa)),.d (.int .i64 (vw p n l))]):=by
 refine fqE Tryz.func21 ?_;intro O w0 E0 β0;have w1:=ways_fn p n l;unfold wayH;have lr:(p.rules.map a6).length=p.rules.length:=Aa _;by_cases h0:vw p n l=0
 ·have hm:=hmade h0;have hw:=wayOk (wayE_ways h0);have hlo:=hw.lo;have hhi:=hw.hi;rw [if_pos h0];rw [tw hhi] at hm ⊢;rw [h0] at w1 ⊢;clear hmade hw;repeat' (first|refine zr ?_|refine z21 ?_ (hc:=by apply w1)|refine z21 ?_ (hc:=by apply hm)|(exfalso;omega))
  exact⟨.inl rfl,_,rfl,rfl,rfl⟩
 ·rw [if_neg h0];clear hmade;repeat' (first|refine zs ?_|refine z21 ?_ (hc:=by apply w1)|(refine zm ?_ ?_<;>intro hg)|(exfalso;omega))
  refine au (dz 6 2 rfl) ?_;repeat' (first|refine zr ?_|fail)
  exact⟨.inl rfl,_,rfl,rfl,rfl⟩
theorem headsO_fn (p:Prg) (n:Int) (l:List Fct) (hmade:vw p n l=0->Fn 61 [k8 (iu p n),.d (.slice 1 ((zq p n l).map cx))] (λres=>res = .d (.own Bnds.B (.slice 2 ((av (ep (iu p n) (zq p n l))).map aa))))) :
  Fn 21 [db p,.d (.int .i64 n),.d (.slice 2 (l.map aa))] (λr=>r = .tup [.d (.own Bnds.B (.slice 2 ((wayH p n l).map aa))),.d (.int .i64 (vw p n l))]):=by
 refine fqE Tryz.func21 ?_;intro O w0 E0 β0;have w1:=ways_fn p n l;unfold wayH;have lr:(p.rules.map a6).length=p.rules.length:=Aa _;by_cases h0:vw p n l=0
 ·have hm:=hmade h0;have hw:=wayOk (wayE_ways h0);have hlo:=hw.lo;have hhi:=hw.hi;rw [if_pos h0];rw [tw hhi] at hm ⊢;rw [h0] at w1 ⊢;clear hmade hw;repeat' (first|refine zr ?_|refine z21 ?_ (hc:=by apply w1)|refine z21 ?_ (hc:=by apply hm)|(exfalso;omega))
  exact⟨.inl rfl,_,rfl,rfl,rfl⟩
 ·rw [if_neg h0];clear hmade;repeat' (first|refine zs ?_|refine z21 ?_ (hc:=by apply w1)|(refine zm ?_ ?_<;>intro hg)|(exfalso;omega))
  refine au (cz 6 2 rfl) ?_;repeat' (first|refine zr ?_|fail)
  exact⟨.inl rfl,_,rfl,rfl,rfl⟩
theorem sameLists_fn (a b:List (List Int)):Fn 50 [.d (.slice 1 (a.map cx)),.d (.slice 1 (b.map cx))] (λr=>r = .d (.bool (decide (a=b)))):=by
 refine fqE Tryz.func50 ?_;intro O w0 E0 β0;have la:(a.map cx).length=a.length:=Aa _;have lb:(b.map cx).length=b.length:=Aa _;refine l9 (t:=0) rfl (λhk=>?_);by_cases hl:a.length=b.length
 ·repeat' (first|refine zr ?_|(refine zm ?_ ?_<;>intro hg)|(exfalso;omega))
  refine ak (ι:=Nat) (λi=>⟨0,[(0,.d (.slice 1 (a.map cx))),(1,.d (.slice 1 (b.map cx))),(5,.d (.int .i64 i))],[]⟩)
   (λi=>i<=a.length/\a.take i=b.take i) (λi=>a.length-i) 0 ⟨Ai _,rfl⟩ (er id) ?_
  rintro i ⟨g1,g2⟩;dsimp only at g1 g2 ⊢;by_cases hi:i<a.length
  ·have hb:i<b.length:=by omega
   have w:=wv a[i] b[i];rw [sameI_eq] at w;by_cases he:a[i]=b[i]
   ·rw [decide_eq_true he] at w;repeat' (first|refine zr ?_|refine z22 ?_ (hc:=by apply w)|(refine zm ?_ ?_<;>intro hg)|(exfalso;omega))
    exact⟨i+1,⟨hi,by rw [Am hi,Am hb,g2,he]⟩,er id,by omega⟩
   ·have hne:a≠b:=λh=>he (by subst h;rfl)
    rw [decide_eq_false he] at w;rw [decide_eq_false hne];repeat' (first|refine zr ?_|refine z22 ?_ (hc:=by apply w)|(refine zm ?_ ?_<;>intro hg)|(exfalso;omega))
    all_goals exact⟨.inl rfl,_,rfl,rfl,rfl⟩
  ·rw [Ak (by omega),Ak (by omega)] at g2;rw [decide_eq_true g2];repeat' (first|refine zr ?_|(refine zm ?_ ?_<;>intro hg)|(exfalso;omega))
   all_goals exact⟨.inl rfl,_,rfl,rfl,rfl⟩
 ·have hne:a≠b:=λh=>hl (by rw [h])
  rw [decide_eq_false hne];repeat' (first|refine zr ?_|(refine zm ?_ ?_<;>intro hg)|(exfalso;omega))
  all_goals exact⟨.inl rfl,_,rfl,rfl,rfl⟩
variable [Bnds]
theorem wd:vt smallP 1 fullF=0:=by kernel_rfl
def smallR:Rul:=⟨1,[⟨0,0⟩,⟨2,0⟩],0,[⟨1,0,1,[⟨0,0⟩,⟨1,0⟩]⟩,⟨1,0,0,[⟨1,0⟩,⟨2,0⟩]⟩],3⟩
theorem tp:iu smallP 1=smallR:=rfl
theorem small_fullS:av fullF=fullF:=by kernel_rfl
theorem small_from:dt fullF smallR.body (jl smallR.body) (e0 3)=[[1,2,3]]:=by kernel_rfl
theorem small_waysL:pn fullF 3 smallR.body=[[1,2,3]]:=(r7 (o:=[[1,2,3]]) (List.pairwise_singleton _ _) (by rw [small_from])).symm
theorem small_many:manyW fullF smallR=true:=by unfold manyW;rw [show smallR.vars.toNat=3 from rfl,small_waysL];rfl
theorem small_wayE:vw smallP 1 fullF=0:=by
 unfold vw;rw [if_neg (by rw [wd];simp),tp,small_fullS,small_many,if_pos rfl]
theorem small_wayL:zq smallP 1 fullF=[[1,2,3]]:=by
 unfold zq dg;rw [if_pos wd,tp,small_fullS,small_many,if_pos rfl];exact small_waysL
theorem small_wayH:wayH smallP 1 fullF=[⟨1,[1,3]⟩]:=by
 unfold wayH;rw [if_pos small_wayE,tp,small_wayL];kernel_rfl
theorem ruleBegun_fn:Fn 12 [] (λr=>r = .d (.bool true)):=by
 refine fqE Tryz.func12 ?_;intro O w0 E0 β0;have h1:=sn;have h2:=lfull_fn;have h3:=ways_fn smallP 1 fullF;have h4:=heads_fn smallP 1 fullF (λ_=>made0_fn _ _ _ (wayL_ok (wayOk wd)) (by rw [tp];rfl));rw [small_wayE,small_wayL] at h3;rw [small_wayE,small_wayH] at h4;have h5:=sameLists_fn [[1,2,3]] [[1,2,3]];rw [decide_eq_true rfl] at h5;have h6:=fv 1 [1,3];have h7:Fn 19 [.d (.slice 2 ([(⟨1,[1,3]⟩:Fct)].map aa)),.d (.slice 2 ([(⟨1,[1,3]⟩:Fct)].map aa))] (λr=>r = .d (.bool true)):=by
  have h:=fa [⟨1,[1,3]⟩] [⟨1,[1,3]⟩];rw [show d7 Fct.same [(⟨1,[1,3]⟩:Fct)] [⟨1,[1,3]⟩]=true by decide] at h;exact h
 repeat' (first|refine zr ?_|refine z21 ?_ (hc:=by apply h1)|refine z21 ?_ (hc:=by apply h2)|refine z21 ?_ (hc:=by apply h3)|refine z21 ?_ (hc:=by apply h4)|refine z21 ?_ (hc:=by apply h5)|refine z21 ?_ (hc:=by apply h6)|refine z21 ?_ (hc:=by apply h7)|fail)
 exact⟨.inl rfl,_,rfl,rfl,rfl⟩
variable [Bnds]
theorem madeO_fn (arity:List Int) (r:Rul) (ways:List (List Int)) (hok:HeadOk arity r ways):Fn 61 [k8 r,.d (.slice 1 (ways.map cx))] (λres=>res = .d (.own Bnds.B (.slice 2 ((av (ep r ways)).map aa)))):=by
 by_cases h0:r.fold=0
 ·exact made0O_fn arity r ways hok h0
 ·exact madeFO_fn arity r ways hok h0
theorem made_fn (arity:List Int) (r:Rul) (ways:List (List Int)) (hok:HeadOk arity r ways):Fn 61 [k8 r,.d (.slice 1 (ways.map cx))] (λres=>res = .d (.slice 2 ((av (ep r ways)).map aa))):=by
 by_cases h0:r.fold=0
 ·exact made0_fn arity r ways hok h0
 ·exact madeF_fn arity r ways hok h0
theorem headsAO_fn (p:Prg) (n:Int) (l:List Fct):Fn 21 [db p,.d (.int .i64 n),.d (.slice 2 (l.map aa))] (λr=>r = .tup [.d (.own Bnds.B (.slice 2 ((wayH p n l).map aa))),.d (.int .i64 (vw p n l))]) :=
 headsO_fn p n l λh0=>madeO_fn p.arity _ _ (wayL_ok (wayOk (wayE_ways h0)))
theorem sameF_eq (a:List Fct):d7 Fct.same a a=true:=ny (λx=>by unfold Fct.same;simp [js]) a
variable [Bnds]
abbrev elW (w:List Int):SV:=.d (.slice 1 (w.map ah))
theorem way1_fn (r:Rul) (f:Fct) (w:List Int) (hw:∀ t∈r.terms,okT w.length t) (hl:r.terms.length<=3) (hf:f.args.length=r.terms.length):Fn 280 ([elW w]++[.pd [.int .i64 r.pred,.slice 2 (r.terms.map aw),.int .i64 r.fold,.slice 4 (r.body.map ay),.int .i64 r.vars],.pd [.int .i64 (kW r)],.pd (aa f)]) (λres=>res = .d (.bool (isW r f w))):=by
 refine fqE Tryz.func280 ?_;intro O w0 E0 β0;have hk:=kW_le r;have l1:(r.terms.map aw).length=r.terms.length:=Aa _;have l2:(f.args.map ah).length=f.args.length:=Aa _;have w1:=args_fn (r.terms.take (kW r)) w (λt ht=>hw t (List.mem_of_mem_take ht)) (by rw [Au];omega);have w2:=s0 ((aW r w).take (kW r)) (f.args.take (kW r));rw [show (r.terms.take (kW r)).map (vA w)=(aW r w).take (kW r) by unfold aW;rw [List.map_take]] at w1;repeat' (first|refine zr ?_|refine z22 ?_ (hc:=by apply w1)|refine z22 ?_ (hc:=by apply w2)|(exfalso;omega))
 exact cm rfl rfl
theorem indexW_fn {f:FuncId} {caps:List SV} (p:List Int->Bool) (l:List (List Int)) (hcap:SV.lowL 0 caps=true) (hp:∀ x∈l,Fn f (elW x::caps) (λr=>r = .d (.bool (p x)))):Fn 209 [.d (.slice 1 (l.map cx)),.fn f caps] (λr=>r = .d (.int .i64 (n9 p l))):=by
 refine fqE Tryz.func209 ?_;intro O w0 E0 β0;refine c8 (t:=0) rfl λhb=>?_
 repeat' (first|refine zs ?_|fail)
 refine ak (ι:=Nat) (λi=>⟨0,[(0,.d (.slice 1 (l.map cx))),(1,.fn f caps),(7,.d (.int .i64 l.length)),(8,.d (.int .i64 i))],[]⟩)
  (λi=>i<=l.length/\∀ j (hj:j<l.length),j<i->p l[j]=false) (λi=>l.length-i) 0 ⟨Ai _,λj _ h=>absurd h (A6 j)⟩
  (ag id ⟨rfl,congrArg (SV.fn f) (SV.renL_id caps).symm,by simp;rfl,rfl,trivial⟩ trivial (by simp [Sl.low,SV.low,hcap]) rfl rfl rfl rfl rfl) ?_
 rintro i ⟨h1,h2⟩;repeat' (first|refine zs ?_|fail)
 refine bi rfl (λh=>?_) (λh=>?_)
 ·have hi:i<l.length:=by omega
  have hpx:=hp l[i] (Ag hi);repeat' (first|refine zs ?_|(apply jp;exact rfl;exact rfl;exact rfl;exact rfl;apply hpx;exact rfl;(assumption);exact rfl;rintro _ rfl))
  refine ff rfl (λhb=>?_) (λhb=>?_)
  ·repeat' (first|refine zr ?_|fail)
   exact br rfl (j8 h2 hi hb).symm
  ·repeat' (first|refine zs ?_|fail)
   exact⟨i+1,⟨hi,jt h2 hi hb⟩,ag id ⟨rfl,congrArg (SV.fn f) (SV.renL_id caps).symm,rfl,rfl,trivial⟩ trivial (by simp [Sl.low,SV.low,hcap]) rfl rfl rfl rfl rfl,by omega⟩
 ·repeat' (first|refine zr ?_|fail)
  exact br rfl (iy λj hj=>h2 j hj (by omega)).symm
theorem way_fn (r:Rul) (f:Fct) (ways:List (List Int)) (hw:∀ w∈ways,∀ t∈r.terms,okT w.length t) (hl:r.terms.length<=3) (hf:f.args.length=r.terms.length) (h0:r.fold≠0->0<r.terms.length) (hex:∃ w∈ways,isW r f w=true) (hwl:∀ w∈ways,w.length<=1000) :
  Fn 255 [k8 r,c9 f,.d (.slice 1 (ways.map cx))] (λres=>res = .d (.slice 1 ((vu r f ways).map ah))):=by
 refine fqE Tryz.func255 ?_;intro O w0 E0 β0;have l1:(r.terms.map aw).length=r.terms.length:=Aa _;have lw:(ways.map cx).length=ways.length:=Aa _;obtain⟨wm,wi⟩:=wayOf_mem hex;have hlt:ways.findIdx (isW r f)<ways.length:=by
  obtain⟨w,hw,h⟩:=hex;exact List.findIdx_lt_length_of_exists ⟨w,hw,h⟩
 have hidx:n9 (isW r f) ways=(ways.findIdx (isW r f):Int):=by
  unfold n9;rw [List.findIdx?_eq_some_iff_findIdx_eq.2 ⟨hlt,rfl⟩]
 have hget:ways[ways.findIdx (isW r f)]=vu r f ways:=by unfold vu;rw [List.getD_eq_getElem?_getD,Ab hlt];rfl
 have w3:=indexW_fn (isW r f) ways rfl (λw hw'=>way1_fn r f w (hw w hw') hl hf);rw [hidx] at w3;have w4:=cloneI_fn (vu r f ways) (by have:=hwl _ wm;omega);rw [<- hget] at w4;repeat' ((fail_if_success (apply cp 4));(first|refine zs ?_|(refine zm ?_ ?_<;>intro hg)|fail))
 ·have hk:((kW r:Nat):Int)=((r.terms.map aw).length:Int)-1:=by
   unfold kW;rw [if_neg (by assumption),l1];have:=h0 (by assumption)
   omega
  refine au (cv (ds:=[.int .i64 r.pred,.slice 2 (r.terms.map aw),.int .i64 r.fold,.slice 4 (r.body.map ay),.int .i64 r.vars]) 3 0 rfl rfl) ?_;refine au (cv (ds:=[.int .i64 (kW r)]) 7 2 rfl (by rw [hk];rfl)) ?_;refine au (cv (ds:=aa f) 4 1 rfl rfl) ?_;repeat' (first|refine zr ?_|refine z21 ?_ (hc:=by apply w3)|refine z21 ?_ (hc:=by apply w4)|(exfalso;omega))
  rw [<- hget];exact⟨.inl rfl,_,rfl,rfl,rfl⟩
 ·have hk:((kW r:Nat):Int)=((r.terms.map aw).length:Int):=by
   unfold kW;rw [if_pos (by simp_all),l1]
  refine au (cv (ds:=[.int .i64 r.pred,.slice 2 (r.terms.map aw),.int .i64 r.fold,.slice 4 (r.body.map ay),.int .i64 r.vars]) 3 0 rfl rfl) ?_;refine au (cv (ds:=[.int .i64 (kW r)]) 7 2 rfl (by rw [hk];rfl)) ?_;refine au (cv (ds:=aa f) 4 1 rfl rfl) ?_;repeat' (first|refine zr ?_|refine z21 ?_ (hc:=by apply w3)|refine z21 ?_ (hc:=by apply w4)|(exfalso;omega))
  rw [<- hget];exact⟨.inl rfl,_,rfl,rfl,rfl⟩
variable [Bnds]
def ck (s:Stp):List D:=[.int .i64 s.fact.pred,.slice 1 (s.fact.args.map ah),.int .i64 s.rule,.slice 1 (s.vars.map ah)]
abbrev bldH (p:Prg) (S:List Fct) (hw:List Stp):Hp :=
 [(0,.blk 206 [.d (.slice 1 (p.arity.map ah)),.d (.slice 1 (p.names.map dl)),.d (.slice 5 (p.rules.map a6)),.d (.own Bnds.B (.slice 2 (S.map aa))),.row 1]),(1,.row 187 4 (hw.map ck))]
theorem mtake_fn (p:Prg) (n:Nat) (hn:n<p.rules.length) (ways:List (List Int)) (heads S:List Fct) (hw:List Stp) (hr:RulR p.arity p.rules[n]) (hl:p.rules[n].terms.length<=3)
  (hwok:∀ w∈ways,(∀ t∈p.rules[n].terms,okT w.length t)/\w.length<=1000) (hh:∀ f∈heads,f.args.length=p.rules[n].terms.length/\∃ w∈ways,isW p.rules[n] f w=true)
  (hS:Strict S) (hSl:S.length<=60) (hhl:heads.length<=2000) (hwl:hw.length<=100000) (hSa:∀ x∈S,x.args.length<=3) :
  FnOk false Tryz.prog tab bp 208 [.loc 0 0,.d (.int .i64 n),.d (.slice 2 (heads.map aa)),.d (.slice 1 (ways.map cx))] 1 2 (bldH p S hw)
   (λk2 r H2=>k2=2/\r = .d (.bool (mb p.rules[n] n ways heads S hw).1)/\H2=bldH p (mb p.rules[n] n ways heads S hw).2.1 (mb p.rules[n] n ways heads S hw).2.2):=by
 refine frE Tryz.func208 ?_;intro O w0 E0 β0;have lr:(p.rules.map a6).length=p.rules.length:=Aa _;have lh:(heads.map aa).length=heads.length:=Aa _;repeat' (first|refine zs ?_|(exfalso;omega))
 refine ak (ι:=Nat×List Fct×List Stp) (λc=>⟨3,[(0,.loc 0 0),(1,.d (.int .i64 n)),(3,.d (.slice 1 (ways.map cx))),(8,.d (.bool false)),(9,.loc 2 0),(20,.d (.slice 2 (heads.map aa))),(21,.d (.int .i64 heads.length)),(22,.d (.int .i64 c.1))],
   (2,.blk 64 [.d (.int .i64 p.rules[n].pred),.d (.slice 2 (p.rules[n].terms.map aw)),.d (.int .i64 p.rules[n].fold),.d (.slice 4 (p.rules[n].body.map ay)),.d (.int .i64 p.rules[n].vars)])::bldH p c.2.1 c.2.2⟩)
  (λc=>c.1<=heads.length/\mb p.rules[n] n ways heads S hw=mb p.rules[n] n ways (heads.drop c.1) c.2.1 c.2.2/\Strict c.2.1/\c.2.1.length<=60/\c.2.2.length<=100000+c.1/\∀ x∈c.2.1,x.args.length<=3) (λc=>heads.length-c.1) (0,S,hw) ⟨Ai _,rfl,hS,hSl,hwl,hSa⟩
  (ag id ⟨rfl,rfl,rfl,rfl,rfl,rfl,by rw [<- lh];rfl,rfl,trivial⟩ ⟨rfl,rfl,rfl,trivial⟩ rfl rfl rfl rfl rfl rfl) ?_
 rintro⟨i,S',hw'⟩ ⟨g1,g2,g3,g4,g5,g6⟩;dsimp only at g1 g2 g3 g4 g5 g6 ⊢;by_cases hi:i<heads.length
 ·have hm:=Ag hi;obtain⟨q1,q2⟩:=hh _ hm;have w1:=(in_fn S' heads[i] (by omega) g3).own1 rfl;have w2:=(yk S' [heads[i]] (by rw [Bh];omega) (λx hx=>by have:=g6 x hx;omega) (λx hx=>by rw [A5] at hx;subst hx;omega)).own1 rfl;have w3:=way_fn p.rules[n] heads[i] ways (λw hw=>(hwok w hw).1) hl q1 (λhf=>(hr.folded hf).1) q2 (λw hw=>(hwok w hw).2);have lS:(S'.map aa).length=S'.length:=Aa _;have lhw:(hw'.map ck).length=hw'.length:=Aa _;rw [List.drop_eq_getElem_cons hi,mb] at g2;repeat' (first|refine zr ?_|refine z22 ?_ (hc:=by apply w1)|refine z22 ?_ (hc:=by apply w2)|refine z22 ?_ (hc:=by apply w3)|(refine zm ?_ ?_<;>intro hg)|(exfalso;omega))
  ·rw [if_pos (by assumption)] at g2;exact⟨(i+1,S',hw'),⟨hi,g2,g3,g4,by dsimp only;omega,g6⟩,er id,by dsimp only;omega⟩
  ·rw [if_neg (by simp_all),if_pos (by omega)] at g2;exact⟨.inl rfl,_,rfl,kp id 2 _ (bldH p S' hw') ⟨rfl,by rw [g2],by rw [g2]⟩⟩
  ·rw [if_neg (by simp_all),if_neg (by omega)] at g2;obtain⟨s1,s2⟩:=a8 (S'++[heads[i]]);have hle:=fu (S'++[heads[i]]);rw [Ap,Bh] at hle;refine⟨(i+1,av (S'++[heads[i]]),hw'++[⟨heads[i],n,vu p.rules[n] heads[i] ways⟩]),⟨hi,g2,s1,by dsimp only;omega,by dsimp only;rw [Ap,Bh];omega,λx hx=>?_⟩,
    ag (λj=>match j with|1=>17|j=>j) ⟨rfl,rfl,rfl,rfl,rfl,rfl,rfl,rfl,trivial⟩ ⟨rfl,rfl,by dsimp only;rw [Av];rfl,trivial⟩ rfl rfl rfl rfl rfl rfl,by dsimp only;omega⟩
   rcases List.mem_append.1 ((s2 x).1 hx) with hx|hx
   ·exact g6 x hx
   ·rw [A5] at hx;subst hx;omega
 ·rw [List.drop_of_length_le (by omega)] at g2;repeat' (first|refine zr ?_|(refine zm ?_ ?_<;>intro hg)|(exfalso;omega))
  exact⟨.inl rfl,_,rfl,kp id 2 _ (bldH p S' hw') ⟨rfl,by rw [g2,mb],by rw [g2,mb]⟩⟩
end
section
open Go Go.RowKit
variable [Bnds]
attribute [local irreducible] DW DWi DS DL DLi DQ Ev FnOk FnP dp bh DT
theorem zw (B:Nat) (l:List Fct):FnSp false Tryz.prog 30 B [.rg B 2 (.slice 2 (l.map aa))]:=by
 refine fnSp_enter (τ:=tab) (τok:=bp) _ Tryz.func30 rfl rfl rfl (by kernel_rfl) rfl ?_;intro O w0 E0 β0 hBB hΓ;refine dwi_lens 0 rfl λlens=>?_
 have len1:l.length<=9223372036854775807:=by simpa using lens.1
 repeat' (first|refine nq ?_|refine od ?_|refine ed rfl ?_|refine ic ?_ trivial|refine lu ?_|refine i6 ?_)
 refine dwi_loop (ι:=Nat) (λi=>⟨0,[(0,.rg B 2 (.slice 2 (l.map aa))),(2,.d (.int .i64 (i:Int)))],[]⟩) (λi=>i<=l.length) (λi=>l.length-i) 0 (Ai _) (er id) ?_;intro i hi;dsimp only;repeat' (first|refine nq ?_|refine ed rfl ?_|refine dlr_len ?_|refine ic ?_ trivial|refine lu ?_|refine i6 ?_)
 refine ze rfl (λhl=>?_) (λhl=>?_);rotate_left
 ·repeat' (first|refine dwi_exit ?_|refine yl ?_|refine inB_e rfl ?_)
  exact⟨by simp,rfl⟩
 have hj:i<l.length:=by simpa using hl
 have len2:(l[i]).args.length<=9223372036854775807:=by
  have mem:aa l[i]∈l.map aa:=List.mem_map.2 ⟨_,Ag hj,rfl⟩;have:=lens.2 _ mem (.slice 1 ((l[i]).args.map ah)) (by simp [aa]) 1 _ rfl
  simpa using this
 repeat' (first|refine nq ?_|refine od ?_|refine ed rfl ?_|refine dwi_skip ?_|refine ic ?_ trivial|refine lu ?_|refine i6 ?_)
 refine dwi_loop (ι:=Nat) (λj=>⟨0,[(0,.rg B 2 (.slice 2 (l.map aa))),(2,.d (.int .i64 (i:Int))),(3,.d (.int .i64 (j:Int)))],[]⟩) (λj=>j<=(l[i]).args.length) (λj=>(l[i]).args.length-j) 0 (Ai _) (er id) ?_;intro j hjl;dsimp only;repeat' (first|refine nq ?_|refine ed rfl ?_|refine dlr_len ?_|refine kq (h1:=hj) ?_|refine oe ?_|refine dlr_load ?_|refine ic ?_ trivial|refine lu ?_|refine i6 ?_)
 refine ze rfl (λhk=>?_) (λhk=>?_)
 ·have hm:j<(l[i]).args.length:=by simpa using hk
  repeat' (first|refine nq ?_|refine od ?_|refine ed rfl ?_|refine dwi_skip ?_|refine kq (h1:=hj) ?_|refine kq (h1:=hm) ?_|refine oe ?_|refine dlr_load ?_|refine zh hΓ ?_|refine ic ?_ trivial|(refine ic ?_ ?hp;case hp=>omega)|refine lu ?_|refine i6 ?_|refine inB_n ?_)
  exact⟨j+1,hm,(er id),by omega⟩
 repeat' (first|refine dwi_exit ?_|refine yl ?_|refine inB_e rfl ?_|refine i6 ?_|refine inB_n ?_|refine ed rfl ?_|refine kq (h1:=hj) ?_|refine oe ?_|refine zh hΓ ?_|refine ic ?_ trivial|(refine ic ?_ ?hp;case hp=>omega)|refine lu ?_)
 exact⟨i+1,hj,(er id),by omega⟩
theorem spoilSteps_fn (B:Nat) (l:List Stp):FnSp false Tryz.prog 25 B [.rg B 2 (.slice 4 (l.map ck))]:=by
 refine fnSp_enter (τ:=tab) (τok:=bp) _ Tryz.func25 rfl rfl rfl (by kernel_rfl) rfl ?_;intro O w0 E0 β0 hBB hΓ;refine dwi_lens 0 rfl λlens=>?_
 have len1:l.length<=9223372036854775807:=by simpa using lens.1
 repeat' (first|refine nq ?_|refine od ?_|refine ed rfl ?_|refine ic ?_ trivial|refine lu ?_|refine i6 ?_)
 refine dwi_loop (ι:=Nat) (λi=>⟨0,[(0,.rg B 2 (.slice 4 (l.map ck))),(2,.d (.int .i64 (i:Int)))],[]⟩) (λi=>i<=l.length) (λi=>l.length-i) 0 (Ai _) (er id) ?_;intro i hi;dsimp only;repeat' (first|refine nq ?_|refine ed rfl ?_|refine dlr_len ?_|refine ic ?_ trivial|refine lu ?_|refine i6 ?_)
 refine ze rfl (λhl=>?_) (λhl=>?_);rotate_left
 ·repeat' (first|refine dwi_exit ?_|refine yl ?_|refine inB_e rfl ?_)
  exact⟨by simp,rfl⟩
 have hj:i<l.length:=by simpa using hl
 have mem:ck l[i]∈l.map ck:=List.mem_map.2 ⟨_,Ag hj,rfl⟩;have len2:(l[i]).vars.length<=9223372036854775807:=by
  have:=lens.2 _ mem (.slice 1 ((l[i]).vars.map ah)) (by simp [ck]) 1 _ rfl
  simpa using this
 repeat' (first|refine nq ?_|refine od ?_|refine ed rfl ?_|refine dwi_skip ?_|refine kq (h1:=hj) ?_|refine oe ?_|refine dlr_loadA ?_|refine ic ?_ trivial|refine i6 ?_)
 refine dli_bs (B:=B) [aa (l[i]).fact] (.slot 0 2 _ rfl) rfl rfl rfl rfl rfl rfl rfl rfl rfl ⟨.inr (.inl rfl),.inr (.inl rfl),trivial⟩ (λx hx=>by rw [List.mem_singleton.1 hx];rfl) rfl rfl rfl ?_;refine dli_callSp hΓ (zw B [(l[i]).fact]) hBB ?_;repeat' (first|refine nq ?_|refine od ?_|refine ed rfl ?_|refine ic ?_ trivial|refine lu ?_|refine i6 ?_)
 refine dwi_loop (ι:=Nat) (λj=>⟨0,[(0,.rg B 2 (.slice 4 (l.map ck))),(2,.d (.int .i64 (i:Int))),(3,.d (.int .i64 (j:Int)))],[]⟩) (λj=>j<=(l[i]).vars.length) (λj=>(l[i]).vars.length-j) 0 (Ai _) (er id) ?_;intro j hjl;dsimp only;repeat' (first|refine nq ?_|refine ed rfl ?_|refine dlr_len ?_|refine kq (h1:=hj) ?_|refine oe ?_|refine dlr_load ?_|refine ic ?_ trivial|refine lu ?_|refine i6 ?_)
 refine ze rfl (λhk=>?_) (λhk=>?_)
 ·have hm:j<(l[i]).vars.length:=by simpa using hk
  repeat' (first|refine nq ?_|refine od ?_|refine ed rfl ?_|refine dwi_skip ?_|refine kq (h1:=hj) ?_|refine kq (h1:=hm) ?_|refine oe ?_|refine dlr_load ?_|refine zh hΓ ?_|refine ic ?_ trivial|(refine ic ?_ ?hp;case hp=>omega)|refine lu ?_|refine i6 ?_|refine inB_n ?_)
  exact⟨j+1,hm,(er id),by omega⟩
 repeat' (first|refine dwi_exit ?_|refine yl ?_|refine inB_e rfl ?_|refine i6 ?_|refine inB_n ?_|refine ed rfl ?_|refine kq (h1:=hj) ?_|refine oe ?_|refine zh hΓ ?_|refine ic ?_ trivial|(refine ic ?_ ?hp;case hp=>omega)|refine lu ?_)
 exact⟨i+1,hj,(er id),by omega⟩
variable [Bnds]
theorem q9 (l:List Fct) (hl:l.length<=4398046511104) (ha:∀ x∈l,x.args.length<=17592186044416):Fn 16 [.d (.slice 2 (l.map aa))] (λr=>r = .d (.slice 2 (l.map aa))):=by
 refine fqE Tryz.func16 ?_;intro O w0 E0 β0;have ll:(l.map aa).length=l.length:=Aa _;refine l9 (t:=0) rfl λhln=>?_
 rw [ll] at hln;repeat' (first|refine zs ?_|fail)
 refine au (dm (t:=3) 37 2 rfl) ?_;refine ak (ι:=Nat) (λi=>⟨1,[(0,.d (.slice 2 (l.map aa))),(3,.row 0),(4,.d (.int .i64 (i:Int)))],[(0,.row 37 2 ((l.take i).map aa))]⟩)
  (λi=>i<=l.length) (λi=>l.length-i) 0 (Ai _) (er id) ?_
 intro i hi;dsimp only;repeat' (first|refine zs ?_|fail)
 refine bi rfl (λhlt=>?_) (λhge=>?_);rotate_left
 ·have he:i=l.length:=by
   rw [ll] at hge;omega
  subst he;rw [List.take_length];repeat' (first|refine zs ?_|fail)
  refine au (cr 2 rfl rfl rfl) ?_;repeat' (apply dv)
  exact⟨.inl rfl,_,rfl,rfl,rfl⟩
 have hj:i<l.length:=by rw [ll] at hlt;omega
 have hal:=ha _ (Ag hj);have lal:((l[i]).args.map ah).length=(l[i]).args.length:=Aa _;have ltk:((l.take i).map aa).length=i:=by rw [Aa,Au];omega
 repeat' (first|(apply dt_bs0;exact rfl;exact rfl;exact rfl;exact rfl;exact rfl;exact rfl;exact rfl;exact rfl;exact rfl;exact rfl)|(first|refine zs ?_|fail))
 have hs:(l.take (i+1)).map aa=(l.take i).map aa++[[.int .i64 (l[i]).pred,.slice 1 ([]++(l[i]).args.map ah)]]:=by
  rw [Am hj,Av];rfl
 exact⟨i+1,hj,(ag (λj=>match j with|0=>16|j=>j) ⟨rfl,rfl,rfl,trivial⟩ ⟨by rw [hs];rfl,trivial⟩ rfl rfl rfl rfl rfl rfl),by omega⟩
end
section
open Go Go.RowKit
variable [Bnds]
mutual
def SV.mkd (B:Nat):SV->SV
 | .d (.slice es xs)=>.rg B 0 (.slice es xs)
 | .d (.ptr ds)=>.rg B 0 (.ptr ds)
 | .d (.own B' x)=>.rg B 0 (.own B' x)
 | .agg ss=>.agg (SV.mkdL B ss)
 | .tup ss=>.tup (SV.mkdL B ss)
 | s=>s
def SV.mkdL (B:Nat):List SV->List SV
 | []=>[]
 | s::ss=>SV.mkd B s::SV.mkdL B ss
end
section
variable {X : Nat -> Prop} {e : Env} {w : World} {B : Nat}
theorem RepC.mkd (hB:w.heap.size=B) {v:Value} {x:D} (h:RepC X w v x):RgC X w B 0 v x:=⟨Nat.le_of_eq hB.symm,RepC.keep (Af _) (λ_ _ _=>rfl) (λb hb hy=>hy.elim id λ(h:B<=b)=>absurd hb (by omega)) h⟩
mutual
theorem Rel.mkd (hB:w.heap.size=B):∀ (s:SV) (v:Value),Rel X e w s v->Rel X e w (s.mkd B) v
 | .d (.slice _ _),_,h=>RepC.mkd hB h
 | .d (.ptr _),_,h=>RepC.mkd hB h
 | .d (.own _ _),_,h=>RepC.mkd hB h
 | .d (.int _ _),_,h=>h
 | .d (.bool _),_,h=>h
 | .d (.str _),_,h=>h
 | .agg ss,_,⟨vs,g1,g2⟩=>⟨vs,g1,RelL.mkd hB ss vs g2⟩
 | .tup ss,_,⟨vs,g1,g2⟩=>⟨vs,g1,RelL.mkd hB ss vs g2⟩
 | .junk,_,h=>h
 | .nils,_,h=>h
 | .pd _,_,h=>h
 | .loc _ _,_,h=>h
 | .row _,_,h=>h
 | .mp _,_,h=>h
 | .md _ _,_,h=>h
 | .prow _ _ _ _,_,h=>h
 | .sl _ _ _ _,_,h=>h
 | .rsl _ _ _ _,_,h=>h
 | .rg _ _ _,_,h=>h
 | .fn _ _,_,h=>h
 | .val _,_,h=>h
theorem RelL.mkd (hB:w.heap.size=B):∀ (ss:List SV) (vs:List Value),RelL X e w ss vs->RelL X e w (SV.mkdL B ss) vs
 | [],[],_=>trivial
 | [],_::_,h=>h.elim
 | _::_,[],h=>h.elim
 | s::ss,v::vs,h=>⟨Rel.mkd hB s v h.1,RelL.mkd hB ss vs h.2⟩
end
end
def Sl.mapS (g:SV->SV):Sl->Sl
 | []=>[]
 | (t,s)::r=>(t,g s)::Sl.mapS g r
def SV.mapL (g:SV->SV):List SV->List SV
 | []=>[]
 | s::r=>g s::SV.mapL g r
def HB.mapS (g:SV->SV):HB->HB
 | .blk ty cs=>.blk ty (SV.mapL g cs)
 | b=>b
def Hp.mapS (g:SV->SV):Hp->Hp
 | []=>[]
 | (i,b)::r=>(i,HB.mapS g b)::Hp.mapS g r
theorem Sl.mapS_get {g:SV->SV} (hj:g .junk = .junk):∀ (L:Sl) (t:Nat),(Sl.mapS g L).get t=g (L.get t)
 | [],_=>hj.symm
 | (d,s)::r,t=>by
  simp only [Sl.mapS,Sl.get_cons]
  split
  ·rfl
  ·exact Sl.mapS_get hj r t
theorem Hp.mapS_mem {g:SV->SV}:∀ {H:Hp} {p:Nat×HB},p∈Hp.mapS g H->∃ b,(p.1,b)∈H/\p.2=HB.mapS g b
 | [],_,h=>nomatch h
 | (i,b)::r,p,h=>by
  rcases List.mem_cons.1 h with rfl|h
  ·exact⟨b,List.mem_cons_self ..,rfl⟩
  ·obtain⟨b',h1,h2⟩:=Hp.mapS_mem h
   exact⟨b',List.mem_cons_of_mem _ h1,h2⟩
theorem Hp.mapS_ids {g:SV->SV}:∀ (H:Hp),(Hp.mapS g H).map (·.1)=H.map (·.1)
 | []=>rfl
 | (i,b)::r=>by simp only [Hp.mapS,List.map_cons,Hp.mapS_ids r]
theorem Hp.mapS_owned {g:SV->SV} {e:Env}:∀ (H:Hp),ae e (Hp.mapS g H)=ae e H
 | []=>rfl
 | (i,b)::r=>by
  have ih:=Hp.mapS_owned (g:=g) (e:=e) r
  unfold ae at ih ⊢
  simp only [Hp.mapS,List.filterMap_cons,ih]
  cases b<;>rfl
def EntAt (B:Nat) (Γ:Ctx) (k:Nat) (L:Sl) (H:Hp) (k':Nat) (L':Sl) (H':Hp):Prop :=
 ∀ e a w,Models Γ k L H e a w->w.heap.size=B->∃ e',Models Γ k' L' H' e' a w
section
variable {Γ : Ctx} {k : Nat} {L : Sl} {H : Hp} {Q : d6} {B : Nat}
theorem RelL.mapS {X:Nat->Prop} {e:Env} {w:World} {g:SV->SV} (hg:∀ s v,Rel X e w s v->Rel X e w (g s) v):∀ (ss:List SV) (vs:List Value),RelL X e w ss vs->RelL X e w (SV.mapL g ss) vs
 | [],[],_=>trivial
 | [],_::_,h=>h.elim
 | _::_,[],h=>h.elim
 | s::ss,v::vs,h=>⟨hg s v h.1,RelL.mapS hg ss vs h.2⟩
theorem entAt_map {g:SV->SV} (hj:g .junk = .junk) (hg:∀ X e w s v,w.heap.size=B->Rel X e w s v->Rel X e w (g s) v):EntAt B Γ k L H k (Sl.mapS g L) (Hp.mapS g H):=by
 intro e a w m hB;have hown:ae e (Hp.mapS g H)=ae e H:=Hp.mapS_owned H;have hX:Γ.X e (Hp.mapS g H)=Γ.X e H:=by unfold Ctx.X;rw [hown]
 refine⟨e,⟨⟨m.top,λp hp=>?_,by rw [Hp.mapS_ids];exact m.ids,by rw [hown];exact m.nodup,by rw [hown];exact m.mine,m.os,m.tape,m.output,m.drawn,m.size,m.block,m.obound,m.tabs,m.jle,m.anchor⟩,m.defers,m.len,λt=>?_⟩⟩
 ·rw [hX];obtain⟨i,b'⟩:=p;obtain⟨b,h1,h2⟩:=Hp.mapS_mem hp;have h2:b'=HB.mapS g b:=h2;subst h2;obtain⟨g1,g2⟩:=m.heap _ h1;refine⟨g1,?_⟩
  cases b with
  | blk ty cs =>
   obtain⟨vs,q1,q2,q3⟩:=g2;exact⟨vs,q1,RelL.mapS (λs v h=>hg _ _ _ s v hB h) _ _ q2,q3⟩
  | row ty es xs=>exact g2
  | map kd kvs=>exact g2
 ·rw [hX,Sl.mapS_get hj];exact hg _ _ _ _ _ hB (m.slot t)
theorem ent_map {g:SV->SV} (hj:g .junk = .junk) (hg:∀ X e w s v,Rel X e w s v->Rel X e w (g s) v):Ent Γ k L H k (Sl.mapS g L) (Hp.mapS g H):=λe a w m=>entAt_map hj (λX e w s v _ h=>hg X e w s v h) e a w m rfl
theorem ent_transM {k2 k3:Nat} {L2 L3:Sl} {H2 H3:Hp} (h:Ent Γ k L H k2 L2 H2) (h':Ent Γ k2 L2 H2 k3 L3 H3):Ent Γ k L H k3 L3 H3:=λe a w m =>
 let ⟨e',m'⟩:=h e a w m
 h' e' a w m'
theorem entAt_mk {k':Nat} {L':Sl} {H':Hp} (h:Ent Γ k (Sl.mapS (SV.mkd B) L) (Hp.mapS (SV.mkd B) H) k' L' H'):EntAt B Γ k L H k' L' H':=λe a w m hw =>
 let ⟨e1,m1⟩:=entAt_map (g:=SV.mkd B) rfl (λ_ _ _ s v hB h=>Rel.mkd hB s v h) e a w m hw
 h e1 a w m1
theorem dw_old {c:Code} (h:∀ B,Γ.w0.heap.size<=B->DW Γ c Q k (Sl.mapS (SV.mkd B) L) (Hp.mapS (SV.mkd B) H)):DW Γ c Q k L H:=λe a w m =>
 let ⟨e',m'⟩:=entAt_map (g:=SV.mkd w.heap.size) rfl (λ_ _ _ s v hB h=>Rel.mkd hB s v h) e a w m rfl
 h w.heap.size m.size e' a w m'
theorem dw_dullAll {c:Code} (h:DW Γ c Q k (Sl.mapS SV.dull L) (Hp.mapS SV.dull H)):DW Γ c Q k L H:=au (ent_map rfl λ_ _ _ s v h=>Rel.dull s v h) h
theorem ent_weakAll:Ent Γ k L H k (Sl.mapS SV.weak L) (Hp.mapS SV.weak H):=ent_map rfl λ_ _ _ s v h=>Rel.weak s v h
theorem ent_weak {s:SV} (t:Nat) (hL:L.get t=s):Ent Γ k L H k ((t,s.weak)::L) H:=λe a w m=>⟨e,m.toHeap,m.defers,m.len,λt'=>by
 rw [Sl.get_cons]
 split
 ·rename_i ht
  subst ht
  have:=m.slot t
  rw [hL] at this
  exact Rel.weak s _ this
 ·exact m.slot t'⟩
theorem ent_dullAll:Ent Γ k L H k (Sl.mapS SV.dull L) (Hp.mapS SV.dull H):=ent_map rfl λ_ _ _ s v h=>Rel.dull s v h
theorem dw_rgsAt {c:Code} {x:D} (t:Nat) (hL:L.get t = .d (.own B x)) (hB:HasB B L H) (h:DW Γ c Q k ((t,.rg B 1 x)::L) H):DW Γ c Q k L H:=λe a w m =>
 h e a w ⟨m.toHeap,m.defers,m.len,λt'=>by
  rw [Sl.get_cons]
  split
  ·rename_i ht
   subst ht
   have:=m.slot t
   rw [hL] at this
   exact Rel.rgs (hB.le m) (.d (.own B x)) _ rfl this
  ·exact m.slot t'⟩
theorem dw_ownAt {c:Code} {x:D} (t:Nat) (hL:L.get t = .rg B 1 x) (h:DW Γ c Q k ((t,.d (.own B x))::L) H):DW Γ c Q k L H:=λe a w m =>
 h e a w ⟨m.toHeap,m.defers,m.len,λt'=>by
  rw [Sl.get_cons]
  split
  ·rename_i ht
   subst ht
   have:=m.slot t
   rw [hL] at this
   exact RepC.own this.2
  ·exact m.slot t'⟩
end
section
variable {Γ : Ctx} {k : Nat} {L : Sl} {H : Hp} {Q : d6} {B q es : Nat} {xs : List (List D)}
theorem dw_lensC {c:Code} {T:TypeId} {cs:List SV} (i j:Nat) (hL:Hp.get H i=some (.blk T cs)) (hj:cs[j]?=some (.rg B q (.slice es xs))) (hk:Lens xs->DW Γ c Q k L H):DW Γ c Q k L H:=λe a w m=>by
 obtain⟨vs,g1,g2,g3⟩:=(m.heap _ (Hp.mem_of hL)).2
 obtain⟨v,_,hv⟩:=RelL.get _ _ g2 j _ hj
 have hv:RgC _ _ _ _ _ _:=hv
 exact hk hv.shp.lens e a w m
end
section
variable {Γ : Ctx} {l : List Oper}
theorem dw_splitB {id k m:Nat} {L:Sl} {H:Hp} {Q:d6} (c:Nat) (hm:Γ.P.follows .mixedOrders=true) (hB:jx l=true) (hT:headB l c=true) (hcl:Nat.ble c l.length=true) (hnd:dd l=true) (hl:lenIs (l.take c) k m)
  (h:DT Γ l k (bu 0 (l.take c)) [] (xz Γ m (λk' L' H'=>∀ B,Γ.w0.heap.size<=B->(∀ B',HasB B' L' H'->B'<=B)->∃ (k2:Nat) (L2:Sl) (H2:Hp) (m2:Nat),EntAt B Γ k' L' H' k2 L2 H2/\lenIs l k2 m2/\DT Γ l k2 (bu c (l.drop c)) [] (xz Γ m2 (Q .normal)) L2 H2)) L H):DW Γ (.region id l.toArray true) Q k L H:=by
 have hcl:=Nat.le_of_ble_eq_true hcl;have hmc:k+c=m:=by
  have:=n8 (l.take c) k m hl
  rw [Au] at this;omega
 subst hmc;intro e a w mm;refine wpIn_mono (wpIn_region_any hm (wpAny_in (jg (Γ:=Γ) (K:=Q .normal)) hnd _ _ _ _ ?_)) (p7 (λex k' L' H' (⟨h1,h2⟩:fx (Q .normal) ex k' L' H')=>h1▸h2));have m0:=mm.below (w':={ w with drawn:=w.drawn+1 }) ((Beld.refl _ _ _).drew);have hsp:bu 0 (l.take c)++bu c (l.drop c)=bu 0 l:=by
  have:=zd (l.take c) (l.drop c) 0
  rw [List.take_append_drop,Au,Nat.zero_add,Nat.min_eq_left hcl] at this;exact this.symm
 have hg:Going l (Array.replicate l.length false) (bu 0 l):=by
  refine⟨by simp,λj o hj hl=>?_,λq=>?_,np l 0⟩
  ·have hlt:=bf hj;simp [hlt] at hl
  ·rw [cd l 0 q];simp only [Ai,Nat.sub_zero,true_and];constructor
   ·intro hq;exact⟨hq,by have:=bf hq;simp [this]⟩
   ·exact λh=>h.1
 have hlenO:∀ (l:List Oper) b,(bu b l).length=l.length:=by
  intro l;induction l with
  | nil=>intro b;rfl
  | cons o l ih=>intro b;simp [bu,ih]
 have hsize:l.toArray.size=c+(l.length-c):=by simp;omega
 rw [hsize];refine split_sim hB hT (K:=xz Γ (k+c) (λk' L' H'=>∀ B,Γ.w0.heap.size<=B->(∀ B',HasB B' L' H'->B'<=B)->∃ (k2:Nat) (L2:Sl) (H2:Hp) (m2:Nat),EntAt B Γ k' L' H' k2 L2 H2/\lenIs l k2 m2/\DT Γ l k2 (bu c (l.drop c)) [] (xz Γ m2 (Q .normal)) L2 H2)) (Q:=lift Γ (fx (Q .normal))) (λs e a w listed hk hr g=>?_) c _ a _ (ofL L H) e (lo k) (bu 0 (l.take c)) [] (by rw [hsp,<- hsize];simpa using hg) (λq hq=>?_) (by rw [hlenO,Au];omega) ⟨L,H,m0,rfl⟩ (λx hx=>⟨Nat.lt_of_lt_of_le hx (Nat.le_add_right _ _),λj hj=>?_⟩) h
 ·obtain⟨k0,L0,H0,e0,m0',hbb⟩:=hk e a w hr;obtain⟨k',L',H',m2,hent,hl2,hq⟩:=hbb w.heap.size m0'.size (λB' h=>h.le m0');obtain⟨e',m'⟩:=hent e0 a w m0' rfl;have hl3:=n8 l k' m2 hl2;refine any_sim hB (K:=xz Γ m2 (Q .normal)) (κ:=k') (λs e a w hk hr=>?_) (l.length-c) listed a w (ofL L' H') e' (lo k') _ [] g (by rw [hlenO,List.length_drop]) ⟨L',H',m',rfl⟩ (λx hx=>?_) hq
  ·obtain⟨k2,L2,H2,e2,m3,hq2⟩:=hk e a w (hl3▸hr);exact .inl ⟨k2,L2,H2,e2,m3,rfl,hq2⟩
  ·have hx:x<k':=hx;exact⟨by omega,λj hj=>by omega⟩
 ·have h2:=((cd _ _ _).1 hq).2;have:=bf h2
  rw [Au] at this;omega
 ·have:x<k:=hx
  omega
end
variable [Bnds]
theorem hw_len {given S:List Fct} {hw:List Stp} (h:HwOk given S hw):hw.length<=S.length:=by
 have:=mj h.nodup (b:=S) λx hx=>by
  obtain⟨g,hg,rfl⟩:=List.mem_map.1 hx;exact (h.all _).2 (.inr ⟨g,hg,rfl⟩)
 rw [Aa] at this;exact this
theorem rr {p:Prg} (hp:PrgR p) {x:Fct} (h:FctOk p.arity x):x.args.length<=3:=by
 have:=h.len
 have:=(hp.ar x.pred.toNat).2
 omega
def RndOk (p:Prg) (lv:List Int) (n:Nat) (S1 S:List Fct) (i:Nat):Prop :=
 ∀ j (hj:j<p.rules.length),j<i->lv.getD (p.rules[j]).pred.toNat 0=n->∃ S0,Strict S0/\(∀ x∈S1,x∈S0)/\(∀ x∈S0,x∈S)/\manyW S0 p.rules[j]=true/\∀ x∈hdW S0 p.rules[j],x∈S
theorem RndOk.more {p:Prg} {lv:List Int} {n:Nat} {S1 S S':List Fct} {i:Nat} (h:RndOk p lv n S1 S i) (hs:∀ x∈S,x∈S') (hi:i<p.rules.length)
  (hn:lv.getD (p.rules[i]).pred.toNat 0=n->∃ S0,Strict S0/\(∀ x∈S1,x∈S0)/\(∀ x∈S0,x∈S')/\manyW S0 p.rules[i]=true/\∀ x∈hdW S0 p.rules[i],x∈S'):RndOk p lv n S1 S' (i+1):=by
 intro j hj hji hl;by_cases he:j=i
 ·subst he;exact hn hl
 ·obtain⟨S0,a,b,c,d,e⟩:=h j hj (by omega) hl;exact⟨S0,a,b,λx hx=>hs x (c x hx),d,λx hx=>hs x (e x hx)⟩
theorem round_fit {p:Prg} {lv:List Int} {n:Nat} {given m0 S1 S:List Fct} {hw:List Stp} (hb:BldOk p lv n given m0 S hw) (h1:Strict S1) (hs:∀ x∈S1,x∈S) (hr:RndOk p lv n S1 S p.rules.length) (hl:S.length<=S1.length):Fit (lvV p lv n m0) m0 S:=by
 have he:=same_len h1 hb.inv.strict hs hl;subst he;have key:∀ r∈(lvV p lv n m0).rs,manyW S1 r=true/\∀ x∈hdW S1 r,x∈S1:=by
  intro r hr';obtain⟨hm,hn⟩:=List.mem_filter.1 hr';have hn:=of_decide_eq_true hn;obtain⟨j,hj,rfl⟩:=List.mem_iff_getElem.1 hm;obtain⟨S0,a,b,c,d,e⟩:=hr j hj hj hn;have:S0=S1:=j4 a h1 λx=>⟨c x,b x⟩
  subst this;exact⟨d,e⟩
 exact sw hb.inv (λr hr=>(key r hr).1) λr hr=>(key r hr).2
attribute [local irreducible] DW DS DL DQ Ev FnOk FnP dp bh DT
theorem level_fn (p:Prg) (lv:List Int) (n:Nat) (given m0:List Fct) (hw:List Stp) (hp:PrgR p) (hlv:LvFit p lv) (hb:BldOk p lv n given m0 m0 hw) :
  FnOk false Tryz.prog tab bp 150 [.loc 0 0,.d (.slice 1 (lv.map ah)),.d (.int .i64 n)] 1 2 (bldH p m0 hw)
   (λk2 r H2=>k2=2/\∃ S' hw',H2=bldH p S' hw'/\((r = .d (.bool true)/\Fit (lvV p lv n m0) m0 S'/\BldOk p lv n given m0 S' hw')∨(r = .d (.bool false)/\¬ ∃ M,Fit (lvV p lv n m0) m0 M))):=by
 refine frE Tryz.func150 ?_;intro O w0 E0 β0;have lr:(p.rules.map a6).length=p.rules.length:=Aa _;have llv:(lv.map ah).length=lv.length:=Aa _;have hrl:=hp.rlen;repeat' (first|refine zs ?_|fail)
 refine ak (ι:=Int×List Fct×List Stp) (λc=>⟨2,[(0,.loc 0 0),(1,.d (.slice 1 (lv.map ah))),(2,.d (.int .i64 n)),(6,.d (.bool false)),(7,.d (.int .i64 c.1))],bldH p c.2.1 c.2.2⟩)
  (λc=>BldOk p lv n given m0 c.2.1 c.2.2/\(c.1 = -1∨∃ S1,c.1=(S1.length:Int)/\Strict S1/\(∀ x∈S1,x∈c.2.1)/\RndOk p lv n S1 c.2.1 p.rules.length)) (λc=>2*(61-c.2.1.length)+if c.1<c.2.1.length then 1 else 0) (-1,m0,hw) ⟨hb,.inl rfl⟩
  (er id) ?_
 rintro⟨many,S,hw1⟩ ⟨g1,g2⟩;dsimp only at g1 g2 ⊢;have lS:(S.map aa).length=S.length:=Aa _;have hS60:=g1.inv.len;repeat' (first|refine zr ?_|(refine zm ?_ ?_<;>intro hg)|fail)
 ·refine ak (ι:=Nat×List Fct×List Stp) (λc=>⟨2,[(0,.loc 0 0),(1,.d (.slice 1 (lv.map ah))),(2,.d (.int .i64 n)),(6,.d (.bool false)),(7,.d (.int .i64 S.length)),(28,.d (.slice 5 (p.rules.map a6))),(29,.d (.int .i64 p.rules.length)),(30,.d (.int .i64 c.1))],bldH p c.2.1 c.2.2⟩)
   (λc=>c.1<=p.rules.length/\BldOk p lv n given m0 c.2.1 c.2.2/\(∀ x∈S,x∈c.2.1)/\RndOk p lv n S c.2.1 c.1) (λc=>p.rules.length-c.1) (0,S,hw1) ⟨Ai _,g1,λ_ h=>h,λj _ h=>absurd h (A6 j)⟩
   (ag id ⟨rfl,rfl,rfl,rfl,by rw [<- lS];rfl,rfl,by rw [<- lr];rfl,rfl,trivial⟩ ⟨rfl,rfl,trivial⟩ rfl rfl rfl rfl rfl rfl) ?_
  rintro⟨i,S2,hw2⟩ ⟨q1,q2,q3,q4⟩;dsimp only at q1 q2 q3 q4 ⊢;by_cases hi:i<p.rules.length
  ·have hr:=hp.rul _ (Ag hi);have hpr:=hr.pred;have hlvl:=hlv.len;have hgd:lv.getD (p.rules[i]).pred.toNat 0=lv[(p.rules[i]).pred.toNat]'(by omega):=by rw [A9,Ab (by omega)];rfl
   have hS2:=q2.inv.len;have hok:=raw_ok hr hp.ar q2.inv.a.1 q2.inv.strict.nodup;have w1:=(raw_fn S2 p.rules[i] q2.inv.strict (by omega) (oq hr hp.ar q2.inv.a.1)).own2 rfl rfl;have w2:=made_fn p.arity p.rules[i] (dg S2 p.rules[i]) hok;by_cases hlev:lv.getD (p.rules[i]).pred.toNat 0=n
   ·have hrs:p.rules[i]∈(lvV p lv n m0).rs:=List.mem_filter.2 ⟨Ag hi,decide_eq_true hlev⟩;cases hmm:manyW S2 p.rules[i] with
    | false =>
     rw [hmm] at w1;clear w2;rw [hgd] at hlev;repeat' (first|refine zr ?_|refine z22 ?_ (hc:=by apply w1)|(refine zm ?_ ?_<;>intro hg)|(exfalso;omega))
     exact⟨.inl rfl,_,rfl,kp id 2 _ (bldH p S2 hw2) ⟨rfl,S2,hw2,rfl,.inr ⟨rfl,no_many (lvV_ok hp hlv n m0) q2.inv hrs hmm⟩⟩⟩
    | true =>
     rw [hmm] at w1;rw [hgd] at hlev;repeat' (first|refine zs ?_|refine z22 ?_ (hc:=by apply w1)|refine z21 ?_ (hc:=by apply w2)|(refine zm ?_ ?_<;>intro hg)|(exfalso;omega))
     clear w1 w2;have hhd:∀ f∈hdW S2 p.rules[i],f.args.length=p.rules[i].terms.length/\∃ w∈dg S2 p.rules[i],isW p.rules[i] f w=true:=λf hf=>head_way (((a8 _).2 f).1 hf) λhf=>(hr.folded hf).1
     have hhl:(hdW S2 p.rules[i]).length<=2000:=by
      refine Nat.le_trans (fu _) ?_;rw [mr];exact Nat.le_trans (List.length_filterMap_le _ _) hok.many
     have wt:=mtake_fn p i hi (dg S2 p.rules[i]) (hdW S2 p.rules[i]) S2 hw2 hr hok.tlen (λw hw=>⟨hok.terms hw,by rw [hok.len w hw];have:=hr.vars;omega⟩) hhd q2.inv.strict hS2 hhl (by have:=hw_len q2.hwk;omega) (λx hx=>rr hp (q2.inv.a.1 x hx));obtain⟨t1,t2⟩:=take_spec hp hlv hi (hgd.trans hlev) q2 hmm (hdW S2 p.rules[i]) S2 hw2 (λ_ h=>h) q2 (λ_ h=>h) (λ_ h=>h) (Af _);generalize mb p.rules[i] i (dg S2 p.rules[i]) (hdW S2 p.rules[i]) S2 hw2=res at wt t1 t2;obtain⟨ok,S3,hw3⟩:=res;dsimp only at wt t1 t2;(refine bk id (wt) rfl rfl rfl rfl ⟨rfl,rfl,trivial⟩ rfl rfl rfl rfl rfl rfl ?_ ?_)
     ·rintro k2 r H2 ⟨rfl,rfl,rfl⟩;exact⟨rfl,rfl⟩
     rintro k2 r H2 ⟨rfl,rfl,rfl⟩;change DS _ _ _ _ _ _ _ _;cases ok with
     | false =>
      repeat' (first|refine zr ?_|(exfalso;omega))
      exact⟨.inl rfl,_,rfl,kp (λj=>match j with|1=>4|j=>j) 2 _ (bldH p S3 hw3) ⟨rfl,S3,hw3,rfl,.inr ⟨rfl,t2 rfl⟩⟩⟩
     | true =>
      obtain⟨a1,a2,a3,a4⟩:=t1 rfl;repeat' (first|refine zs ?_|(exfalso;omega))
      exact⟨(i+1,S3,hw3),⟨hi,a1,λx hx=>a2 x (q3 x hx),q4.more a2 hi λ_=>⟨S2,q2.inv.strict,q3,a2,hmm,a3⟩⟩,er (λj=>match j with|1=>4|j=>j),by dsimp only;omega⟩
   ·rw [hgd] at hlev;clear w1 w2;repeat' (first|refine zs ?_|(refine zm ?_ ?_<;>intro hg)|(exfalso;omega))
    exact⟨(i+1,S2,hw2),⟨hi,q2,q3,q4.more (λ_ h=>h) hi λh=>absurd (hgd.symm.trans h) hlev⟩,er id,by dsimp only;omega⟩
  ·have hil:i=p.rules.length:=by omega
   subst hil;repeat' (first|refine zs ?_|(refine zm ?_ ?_<;>intro hg)|(exfalso;omega))
   have hlen:S.length<=S2.length:=mj g1.inv.strict.nodup q3;have hS2:=q2.inv.len;refine⟨((S.length:Int),S2,hw2),⟨q2,.inr ⟨S,rfl,g1.inv.strict,q3,q4⟩⟩,er id,?_⟩
   dsimp only;rw [if_pos (by omega:many<(S.length:Int))];split<;>omega
 ·rcases g2 with g2|⟨S1,e1,e2,e3,e4⟩
  ·exfalso;omega
  ·exact⟨.inl rfl,_,rfl,kp id 2 _ (bldH p S hw1) ⟨rfl,S,hw1,rfl,.inl ⟨rfl,round_fit g1 e2 e3 e4 (by omega),g1⟩⟩⟩
variable [Bnds]
theorem hwm_next {p:Prg} {lv:List Int} {n:Nat} {given m0:List Fct} {hw:List Stp} (hp:PrgR p) (hl:LvFit p lv) (hm:∀ x∈m0,FctOk p.arity x) (hs:Strict m0) (h:HwM p lv n given hw m0) {T:List Fct} (hT:Good (lvV p lv n m0) m0 T):HwM p lv (n+1) given hw T:=by
 intro i s hsi;have h1:=h i s hsi;have hr:=hp.rul _ (Ag h1.hi);obtain⟨_,e2⟩:=same_ways hr hp.ar hT.a.1 hm hT.strict.nodup hs.nodup λl hlb hk x hx=>hT.a.2 x (by
  have h2:=hl.fit _ (Ag h1.hi) l hlb hk;have h3:0<=ks (p.rules[s.rule.toNat]'h1.hi).fold l:=by unfold ks;split<;>omega
  have h4:=h1.level;rw [hx];omega)
 refine⟨h1.lo,h1.hi,by have:=h1.level;omega,by rw [e2];exact h1.way,?_,h1.is,h1.ahead⟩
 unfold hdW;rw [e2];exact h1.head
theorem bld_first {p:Prg} {lv:List Int} {n:Nat} {given m0:List Fct} {hw:List Stp} (hp:PrgR p) (hl:LvFit p lv) (hm:∀ x∈m0,FctOk p.arity x) (hs:Strict m0) (hlen:m0.length<=60) (hk:HwOk given m0 hw) (h:HwM p lv n given hw m0):BldOk p lv n given m0 m0 hw :=
 ⟨p9 hs ⟨hm,λ_ _=>Iff.rfl⟩ hlen,hk,λ_ hT=>hwm_next hp hl hm hs h hT⟩
theorem hw_first (given:List Fct):HwOk given (av given) [] :=
 ⟨λx=>by rw [(a8 given).2];simp,by simp,λ_ h=>by simp at h⟩
theorem run_none {p:Prg} {lv:List Int} {given:List Fct} {n N:Nat} {m:List Fct} (hn:n<N) (h:RunTo p lv given n m) (hno:¬ ∃ M,Fit (lvV p lv n m) m M):¬ ∃ M,RunTo p lv given N M:=by
 rintro⟨M,hM⟩;have hN:n+1+(N-(n+1))=N:=by omega
 rw [<- hN] at hM;obtain⟨m1,m',h1,h2⟩:=RunTo.back hM;have:=h1.unique h
 subst this;exact hno ⟨m1,h2⟩
theorem builtO_fn (p:Prg) (lv:List Int) (l:List Fct) (hp:PrgR p) (hlv:LvFit p lv) (hl:l.length<=60) (hf:∀ x∈l,FctOk p.arity x) :
  Fn 95 [db p,.d (.slice 1 (lv.map ah)),.d (.slice 2 (l.map aa))]
   (λr=>∃ (m:List Fct) (hw:List Stp) (b:Bool),r = .tup [.d (.own Bnds.B (.slice 2 (m.map aa))),.d (.slice 4 (hw.map ck)),.d (.bool b)] /\
    ((b=true/\RunTo p lv l p.arity.length m/\HwOk l m hw/\HwM p lv p.arity.length l hw m)∨(b=false/\m=[]/\hw=[]/\¬ ∃ m,RunTo p lv l p.arity.length m))):=by
 refine fqE Tryz.func95 ?_;intro O w0 E0 β0;have la:(p.arity.map ah).length=p.arity.length:=Aa _;have hal:=hp.alen;have ws:=yn l (by omega) (λx hx=>by have:=rr hp (hf x hx);omega);repeat' ((fail_if_success (apply cp 2));(first|refine zs ?_|refine z22 ?_ (hc:=by apply ws)|fail))
 refine au (ib 5 4 187 4 rfl rfl rfl) ?_;repeat' (first|refine zs ?_|fail)
 refine ak (ι:=Nat×List Fct×List Stp) (λc=>⟨3,[(1,.d (.slice 1 (lv.map ah))),(9,.loc 0 0),(18,.d (.int .i64 p.arity.length)),(19,.d (.int .i64 c.1))],
   (2,.blk 26 [.d (.slice 1 (p.arity.map ah)),.d (.slice 1 (p.names.map dl)),.d (.slice 5 (p.rules.map a6))])::bldH p c.2.1 c.2.2⟩)
  (λc=>c.1<=p.arity.length/\RunTo p lv l c.1 c.2.1/\HwOk l c.2.1 c.2.2/\HwM p lv c.1 l c.2.2 c.2.1) (λc=>p.arity.length-c.1) (0,av l,[]) ⟨Ai _,rfl,hw_first l,λi h hi=>by simp at hi⟩
  (ag (λj=>match j with|0=>5|1=>7|_=>0) ⟨rfl,rfl,by rw [<- la];rfl,rfl,trivial⟩ ⟨rfl,rfl,rfl,trivial⟩ rfl rfl rfl rfl rfl rfl) ?_
 rintro⟨n,S,hw⟩ ⟨g1,g2,g3,g4⟩;dsimp only at g1 g2 g3 g4 ⊢;obtain⟨s1,s2,s3,s4⟩:=RunTo.ok hf hl g2;have lS:(S.map aa).length=S.length:=Aa _;by_cases hn:n<p.arity.length
 ·have hb:=bld_first hp hlv s3 s1 s2 g3 g4;have wl:=level_fn p lv n l S hw hp hlv hb;repeat' (first|refine zr ?_|(refine zm ?_ ?_<;>intro hg)|(exfalso;omega))
  (refine bk id (wl) rfl rfl rfl rfl ⟨rfl,rfl,trivial⟩ rfl rfl rfl rfl rfl rfl ?_ ?_)
  ·rintro k2 r H2 ⟨rfl,S',hw',rfl,⟨rfl,_⟩|⟨rfl,_⟩⟩
   ·exact⟨rfl,rfl⟩
   ·exact⟨rfl,rfl⟩
  rintro k2 r H2 ⟨rfl,S',hw',rfl,⟨rfl,hfit,hb2⟩|⟨rfl,hno⟩⟩
  ·change DS _ _ _ _ _ _ _ _;repeat' (first|refine zs ?_|(exfalso;omega))
   exact⟨(n+1,S',hw'),⟨hn,⟨S,g2,hfit⟩,hb2.hwk,by have:=hb2.stp S' hfit.good;exact this⟩,er (λj=>match j with|1=>4|j=>j),by dsimp only;omega⟩
  ·change DS _ _ _ _ _ _ _ _;repeat' (first|refine zs ?_|(exfalso;omega))
   refine au (cz 6 2 rfl) ?_;refine au (dz 7 4 rfl) ?_;repeat' (first|refine zr ?_|fail)
   exact⟨.inl rfl,_,rfl,rfl,[],[],false,rfl,.inr ⟨rfl,rfl,rfl,run_none hn g2 hno⟩⟩
 ·have hnn:n=p.arity.length:=by omega
  subst hnn;repeat' (first|refine zs ?_|(refine zm ?_ ?_<;>intro hg)|(exfalso;omega))
  refine au (cr 7 rfl rfl rfl) ?_;repeat' (apply dv)
  exact⟨.inl rfl,_,rfl,rfl,S,hw,true,by rw [lS,decide_eq_true (by omega:(S.length:Int)<=60)];rfl,.inl ⟨rfl,g2,g3,g4⟩⟩
theorem built_fn (p:Prg) (lv:List Int) (l:List Fct) (hp:PrgR p) (hlv:LvFit p lv) (hl:l.length<=60) (hf:∀ x∈l,FctOk p.arity x) :
  Fn 95 [db p,.d (.slice 1 (lv.map ah)),.d (.slice 2 (l.map aa))]
   (λr=>∃ (m:List Fct) (hw:List Stp) (b:Bool),r = .tup [.d (.slice 2 (m.map aa)),.d (.slice 4 (hw.map ck)),.d (.bool b)] /\
    ((b=true/\RunTo p lv l p.arity.length m/\HwOk l m hw/\HwM p lv p.arity.length l hw m)∨(b=false/\m=[]/\hw=[]/\¬ ∃ m,RunTo p lv l p.arity.length m))) :=
 (builtO_fn p lv l hp hlv hl hf).wk.imp λr ⟨r0,⟨m,hw,b,h0,h⟩,hr⟩=>⟨m,hw,b,by rw [hr,h0];rfl,h⟩
end
end Go.Proofs.YtapciiffpnociadGreat
