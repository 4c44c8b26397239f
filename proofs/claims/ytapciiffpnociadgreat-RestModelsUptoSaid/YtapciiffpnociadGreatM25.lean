/- Several texts in one: ChA GxArg ChB ChC StrH StrJ StrK StrT RsmA RelIn ChIn GxUpt. Condition: none. -/
import Derived.Test.YtapciiffpnociadGreatM23
import Derived.Test.YtapciiffpnociadGreatM19
import Derived.Test.YtapciiffpnociadGreatM02
import Derived.Test.YtapciiffpnociadGreatM20
import Derived.Test.YtapciiffpnociadGreatM21
import Derived.Test.YtapciiffpnociadGreatM22
import Derived.Test.YtapciiffpnociadGreatM24
import Derived.Test.YtapciiffpnociadGreatM11
import Derived.Test.YtapciiffpnociadGreatM10
import Derived.Test.YtapciiffpnociadGreatRows
set_option linter.all false
set_option maxHeartbeats 8000000
open Bool renaming and_eq_true→Ad
open List renaming foldl_cons→A2,foldl_nil→Fe,getElem_mem→Ag,length_filter_le→Cj,length_map→Aa,mem_append→Bq,mem_cons→Be,mem_singleton→A5,not_mem_nil→Bz,pairwise_singleton→Dt,take_of_length_le→Ak
open Nat renaming le_mul_of_pos_right→Fz,le_refl→Af,le_trans→Ar,mul_le_mul_right→Bc,zero_le→Ai
namespace Go.Proofs.YtapciiffpnociadGreat
section
open Go Go.RowKit
variable [Bnds]
def encL (l:List Fct):List D:=[.slice 2 (l.map aa)]
abbrev elChgO (came went:List Fct):SV:=.agg [.d (.own Bnds.B (.slice 2 (came.map aa))),.d (.own Bnds.B (.slice 2 (went.map aa)))]
abbrev elChg (came went:List Fct):SV:=.agg [.d (.slice 2 (came.map aa)),.d (.slice 2 (went.map aa))]
def nd (e:Int) (x:List Fct):Int:=if e=0/\60<x.length then 2 else e
def pg (arity:List Int) (e:Int) (x:List Fct):Int:=if e=0 then et arity x else e
def putE (arity:List Int) (e:Int) (puts takes:List Fct):Int:=[puts,takes].foldl (pg arity) ([puts,takes].foldl nd e)
def chgE (arity:List Int) (e:Int) (was m puts takes:List Fct):Int:=if putE arity e puts takes=0/\d7 Fct.same was (av m)=false then 4 else putE arity e puts takes
def xr (l puts takes:List Fct):List Fct:=av (av (df l takes)++puts)
theorem many_ne {e:Int} (h:e≠0) (x:List Fct):nd e x=e:=by unfold nd;rw [if_neg (λhc=>h hc.1)]
theorem ql {arity:List Int} {e:Int} (h:e≠0) (x:List Fct):pg arity e x=e:=by unfold pg;rw [if_neg h]
theorem putE_ne {arity:List Int} {e:Int} (h:e≠0) (puts takes:List Fct):putE arity e puts takes=e:=by
 unfold putE;simp only [A2,Fe];rw [many_ne h,many_ne h,ql h,ql h]
theorem putE_zero {arity:List Int} {e:Int} {puts takes:List Fct} (h:putE arity e puts takes=0):e=0/\puts.length<=60/\takes.length<=60/\(∀ x∈puts,FctOk arity x)/\∀ x∈takes,FctOk arity x:=by
 have h0:e=0:=Classical.byContradiction λhn=>hn ((putE_ne hn puts takes).symm.trans h)
 subst h0;unfold putE at h;simp only [A2,Fe] at h;by_cases h1:60<puts.length
 ·exfalso;rw [show nd 0 puts=2 by unfold nd;rw [if_pos ⟨rfl,h1⟩],many_ne (by simp),ql (e:=2) (by simp),ql (e:=2) (by simp)] at h;cases h
 rw [show nd 0 puts=0 by unfold nd;rw [if_neg (λhc=>h1 hc.2)]] at h;by_cases h2:60<takes.length
 ·exfalso;rw [show nd 0 takes=2 by unfold nd;rw [if_pos ⟨rfl,h2⟩],ql (e:=2) (by simp),ql (e:=2) (by simp)] at h;cases h
 rw [show nd 0 takes=0 by unfold nd;rw [if_neg (λhc=>h2 hc.2)],show pg arity 0 puts=et arity puts by unfold pg;rw [if_pos rfl]] at h;by_cases h3:et arity puts=0
 ·rw [h3,show pg arity 0 takes=et arity takes by unfold pg;rw [if_pos rfl]] at h;exact⟨rfl,by omega,by omega,(zc h3).2,(zc h).2⟩
 ·rw [ql h3] at h;exact absurd h h3
theorem fold_tk {α β:Type} (f:β->α->β) (e:β) {l:List α} {i:Nat} (hi:i<l.length):(l.take (i+1)).foldl f e=f ((l.take i).foldl f e) l[i]:=by
 rw [List.take_succ_eq_append_getElem hi,List.foldl_append];rfl
attribute [local irreducible] DW DS DL DQ Ev FnOk FnP dp bh DT
theorem csame1_fn (a b:Fct):Fn 122 ([c9 a,c9 b]++[]) (λr=>r = .d (.bool (Fct.same a b))):=by
 refine fqE Tryz.func122 ?_;intro O w0 E0 β0;have w1:=jr a b;repeat' (first|refine zr ?_|refine z21 ?_ (hc:=by apply w1)|fail)
 exact cm rfl rfl
theorem csame_fn (l m:List Fct):Fn 63 [.d (.slice 2 (l.map aa)),.d (.slice 2 (m.map aa))] (λr=>r = .d (.bool (d7 Fct.same l m))):=by
 refine fqE Tryz.func63 ?_;intro O w0 E0 β0;have w1:=equalFunc_fn l m csame1_fn;repeat' (first|refine zr ?_|refine z21 ?_ (hc:=by apply w1)|fail)
 exact cm rfl rfl
theorem betweenO_fn' (m n:List Fct) (hm:m.length<=4398046511104) (hn:n.length<=4398046511104) (ha:∀ x∈m,x.args.length<=17592186044416) (hb:∀ x∈n,x.args.length<=17592186044416) :
  Fn 64 [.d (.slice 2 (m.map aa)),.d (.slice 2 (n.map aa))] (λr=>r=elChgO (av (df n m)) (av (df m n))):=by
 refine fqE Tryz.func64 ?_;intro O w0 E0 β0;have w1:=sk n m hn hm hb ha;have w2:=sk m n hm hn ha hb;rw [ue] at w1 w2;repeat' (first|refine zr ?_|refine z21 ?_ (hc:=by apply w1)|refine z21 ?_ (hc:=by apply w2)|fail)
 exact⟨.inl rfl,_,rfl,rfl,rfl⟩
theorem applyO_fn (p:Prg) (l m puts takes:List Fct) (e e2:Int) (was now:List Fct) (hx:ModelR p l e was) (hy:ModelR p (xr l puts takes) e2 now) (hm:m.length<=4398046511104) (ha:∀ x∈m,x.args.length<=17592186044416) :
  Fn 22 [db p,.d (.slice 2 (l.map aa)),.d (.slice 2 (m.map aa)),.d (.slice 2 (puts.map aa)),.d (.slice 2 (takes.map aa))]
   (λr=>r=if chgE p.arity e was m puts takes=0/\e2=0 then .tup [.d (.own Bnds.B (.slice 2 ((xr l puts takes).map aa))),.d (.own Bnds.B (.slice 2 (now.map aa))),elChgO (av (df now was)) (av (df was now)),.d (.int .i64 0)]
    else .tup [.d (.own Bnds.B (.slice 2 (([]:List Fct).map aa))),.d (.own Bnds.B (.slice 2 (([]:List Fct).map aa))),elChgO [] [],.d (.int .i64 (if chgE p.arity e was m puts takes=0 then e2 else chgE p.arity e was m puts takes))]):=by
 refine fqE Tryz.func22 ?_;intro O w0 E0 β0;have w1:=yz p l e was hx;have w2:=(yz p (xr l puts takes) e2 now hy).own2 rfl rfl;repeat' (first|refine zs ?_|refine z21 ?_ (hc:=by apply w1)|fail)
 obtain⟨xs,hxs⟩:∃ xs,xs=[puts,takes]:=⟨_,rfl⟩;have hxl:xs.length=2:=by rw [hxs];rfl
 have hxm:(xs.map encL).length=2:=by rw [Aa];exact hxl
 refine ak (ι:=Nat) (λi=>⟨2,[(1,.d (.slice 2 (l.map aa))),(2,.d (.slice 2 (m.map aa))),(3,.d (.slice 2 (puts.map aa))),(4,.d (.slice 2 (takes.map aa))),(5,.loc 0 0),(10,.nils),(11,.nils),(12,.loc 1 0),(14,.d (.own Bnds.B (.slice 2 (was.map aa)))),(15,.d (.int .i64 ((xs.take i).foldl nd e))),(30,.d (.slice 1 (xs.map encL))),(31,.d (.int .i64 2)),(32,.d (.int .i64 i))],
   [(1,.blk 49 [.nils,.nils]),(0,.blk 26 [.d (.slice 1 (p.arity.map ah)),.d (.slice 1 (p.names.map dl)),.d (.slice 5 (p.rules.map a6))])]⟩)
  (λi=>i<=2) (λi=>2-i) 0 (Ai _) (ag id ⟨rfl,rfl,rfl,rfl,rfl,rfl,rfl,rfl,rfl,rfl,by rw [hxs];rfl,rfl,rfl,trivial⟩ ⟨rfl,rfl,trivial⟩ rfl rfl rfl rfl rfl rfl) ?_
 intro i g1;dsimp only at g1 ⊢;by_cases hi:i<xs.length
 ·have hst:=fold_tk nd e hi;have lx:(xs[i].map aa).length=xs[i].length:=Aa _;generalize (xs.take i).foldl nd e=ei at *;repeat' (first|refine zs ?_|(refine zm ?_ ?_<;>intro hg)|(exfalso;omega))
  all_goals refine⟨i+1,by omega,ag id ⟨rfl,rfl,rfl,rfl,rfl,rfl,rfl,rfl,rfl,by rw [hst];unfold nd;first|(rw [if_pos ⟨by assumption,by omega⟩];rfl)|(rw [if_neg (by omega)];rfl),rfl,rfl,rfl,trivial⟩ ⟨rfl,rfl,trivial⟩ rfl rfl rfl rfl rfl rfl,by omega⟩
 ·rw [Ak (by omega)];repeat' (first|refine zs ?_|(refine zm ?_ ?_<;>intro hg)|(exfalso;omega))
  refine ak (ι:=Nat) (λi=>⟨2,[(1,.d (.slice 2 (l.map aa))),(2,.d (.slice 2 (m.map aa))),(3,.d (.slice 2 (puts.map aa))),(4,.d (.slice 2 (takes.map aa))),(5,.loc 0 0),(10,.nils),(11,.nils),(12,.loc 1 0),(14,.d (.own Bnds.B (.slice 2 (was.map aa)))),(15,.d (.int .i64 ((xs.take i).foldl (pg p.arity) (xs.foldl nd e)))),(46,.d (.slice 1 (xs.map encL))),(47,.d (.int .i64 2)),(48,.d (.int .i64 i))],
    [(1,.blk 49 [.nils,.nils]),(0,.blk 26 [.d (.slice 1 (p.arity.map ah)),.d (.slice 1 (p.names.map dl)),.d (.slice 5 (p.rules.map a6))])]⟩)
   (λi=>i<=2) (λi=>2-i) 0 (Ai _) (ag id ⟨rfl,rfl,rfl,rfl,rfl,rfl,rfl,rfl,rfl,rfl,by rw [hxs];rfl,rfl,rfl,trivial⟩ ⟨rfl,rfl,trivial⟩ rfl rfl rfl rfl rfl rfl) ?_
  intro i g1;dsimp only at g1 ⊢;by_cases hi:i<xs.length
  ·have hst:=fold_tk (pg p.arity) (xs.foldl nd e) hi;have w3:=yq p xs[i];generalize (xs.take i).foldl (pg p.arity) (xs.foldl nd e)=ei at *;repeat' (first|refine zr ?_|refine z21 ?_ (hc:=by apply w3)|(refine zm ?_ ?_<;>intro hg)|(exfalso;omega))
   all_goals refine⟨i+1,by omega,ag id ⟨rfl,rfl,rfl,rfl,rfl,rfl,rfl,rfl,rfl,by rw [hst];unfold pg;first|(rw [if_pos (by assumption)];rfl)|(rw [if_neg (by omega)];rfl),rfl,rfl,rfl,trivial⟩ ⟨rfl,rfl,trivial⟩ rfl rfl rfl rfl rfl rfl,by omega⟩
  ·rw [Ak (by omega)];have hpe:xs.foldl (pg p.arity) (xs.foldl nd e)=putE p.arity e puts takes:=by rw [hxs];rfl
   rw [hpe];have w4:=set_fn m hm ha;have w5:=(csame_fn was (av m)).own1 rfl;by_cases hE:putE p.arity e puts takes=0
   ·obtain⟨he0,p1,p2,p3,p4⟩:=putE_zero hE;subst he0;rw [hE];have hcc:chgE p.arity 0 was m puts takes=if d7 Fct.same was (av m)=false then 4 else 0:=by unfold chgE;rw [hE];simp
    have ho:=mOk hx.ok0;have h3:∀ x:Fct,FctOk p.arity x->x.args.length<=17592186044416:=λx hx=>by have:=rr ho.pr hx;omega
    have hll:=ho.len;have hml:(av (df l takes)).length<=60:=Ar (fu _) (Ar (Cj _ _) hll);have hma:∀ x∈av (df l takes),FctOk p.arity x:=λx hx=>ho.facts x (List.mem_filter.1 (((a8 _).2 x).1 hx)).1
    have w6:=sk l takes (by omega) (by omega) (λx hx=>h3 x (ho.facts x hx)) (λx hx=>h3 x (p4 x hx));rw [ue] at w6;have w7:=(yk (av (df l takes)) puts (by omega) (λx hx=>h3 x (hma x hx)) (λx hx=>h3 x (p3 x hx))).own1 rfl;obtain⟨uu1,uu2,uu3⟩:=hy.strict;obtain⟨zz1,zz2,zz3⟩:=hx.strict;have w8:=(betweenO_fn' was now (by omega) (by omega) (λx hx=>h3 x (zz3 x hx)) (λx hx=>h3 x (uu3 x hx))).ofWeak [.d (.own Bnds.B (.slice 2 (was.map aa))),.d (.own Bnds.B (.slice 2 (now.map aa)))] rfl;cases hs:d7 Fct.same was (av m) with
    | false =>
     rw [hs] at w5;rw [hs,if_pos rfl] at hcc;rw [hcc,if_neg (by simp),if_neg (by simp)];clear w6 w7 w8;repeat' (first|refine zs ?_|refine z21 ?_ (hc:=by apply w4)|refine z21 ?_ (hc:=by apply w5)|(refine zm ?_ ?_<;>intro hg)|(exfalso;omega))
     refine au (cz 10 2 rfl) ?_;refine au (cz 11 2 rfl) ?_;refine au (ef 1 0 2 rfl rfl rfl) ?_;refine au (ef 1 1 2 rfl rfl rfl) ?_;repeat' (first|refine zr ?_|fail)
     exact⟨.inl rfl,_,rfl,rfl,rfl⟩
    | true =>
     rw [hs] at w5;rw [hs,if_neg (by simp)] at hcc;rw [hcc];by_cases h2:e2=0
     ·subst h2;rw [if_pos ⟨rfl,rfl⟩];repeat' (first|refine zr ?_|refine z21 ?_ (hc:=by apply w4)|refine z21 ?_ (hc:=by apply w5)|refine z21 ?_ (hc:=by apply w6)|refine z21 ?_ (hc:=by apply w7)|refine z21 ?_ (hc:=by apply w2)|refine z21 ?_ (hc:=by apply w8)|(refine zm ?_ ?_<;>intro hg)|(exfalso;omega))
      exact⟨.inl rfl,_,rfl,rfl,rfl⟩
     ·rw [if_neg (λh=>h2 h.2),if_pos rfl];clear w8;repeat' (first|refine zs ?_|refine z21 ?_ (hc:=by apply w4)|refine z21 ?_ (hc:=by apply w5)|refine z21 ?_ (hc:=by apply w6)|refine z21 ?_ (hc:=by apply w7)|refine z21 ?_ (hc:=by apply w2)|(refine zm ?_ ?_<;>intro hg)|(exfalso;omega))
      refine au (cz 10 2 rfl) ?_;refine au (cz 11 2 rfl) ?_;refine au (ef 1 0 2 rfl rfl rfl) ?_;refine au (ef 1 1 2 rfl rfl rfl) ?_;repeat' (first|refine zr ?_|fail)
      exact⟨.inl rfl,_,rfl,rfl,rfl⟩
   ·have hcc:chgE p.arity e was m puts takes=putE p.arity e puts takes:=by unfold chgE;rw [if_neg (λh=>hE h.1)]
    rw [hcc,if_neg (λh=>hE h.1),if_neg hE];generalize putE p.arity e puts takes=e3 at *;clear w4 w5;repeat' (first|refine zs ?_|(refine zm ?_ ?_<;>intro hg)|(exfalso;omega))
    refine au (cz 10 2 rfl) ?_;refine au (cz 11 2 rfl) ?_;refine au (ef 1 0 2 rfl rfl rfl) ?_;refine au (ef 1 1 2 rfl rfl rfl) ?_;repeat' (first|refine zr ?_|fail)
    exact⟨.inl rfl,_,rfl,rfl,rfl⟩
theorem apply_fn (p:Prg) (l m puts takes:List Fct) (e e2:Int) (was now:List Fct) (hx:ModelR p l e was) (hy:ModelR p (xr l puts takes) e2 now) (hm:m.length<=4398046511104) (ha:∀ x∈m,x.args.length<=17592186044416) :
  Fn 22 [db p,.d (.slice 2 (l.map aa)),.d (.slice 2 (m.map aa)),.d (.slice 2 (puts.map aa)),.d (.slice 2 (takes.map aa))]
   (λr=>r=if chgE p.arity e was m puts takes=0/\e2=0 then .tup [.d (.slice 2 ((xr l puts takes).map aa)),.d (.slice 2 (now.map aa)),elChg (av (df now was)) (av (df was now)),.d (.int .i64 0)]
    else .tup [.d (.slice 2 (([]:List Fct).map aa)),.d (.slice 2 (([]:List Fct).map aa)),elChg [] [],.d (.int .i64 (if chgE p.arity e was m puts takes=0 then e2 else chgE p.arity e was m puts takes))]) :=
 (applyO_fn p l m puts takes e e2 was now hx hy hm ha).wk.imp λr ⟨r0,h0,hr⟩=>by
  rw [hr,h0]
  split<;>rfl
end
section
open Go Go.RowKit
variable [Bnds]
theorem FnP.args {dr:Bool} {P:Program} {τ:List (Nat×TI)} {τok:dc P τ} {f:FuncId} {args args':List SV} {R:SV->Prop} (hc:FnP dr P τ τok f args R) (h:∀ X e w vs,RelL X e w args' vs->RelL X e w args vs):FnP dr P τ τok f args' R :=
 ⟨hc.1,λO e w vs hH hr=>hc.2 O e w vs hH (h _ _ _ _ hr)⟩
theorem nil_rel {X e w} {es:Nat} {v:Value} (h:Rel X e w .nils v):Rel X e w (.d (.slice es [])) v:=by
 rw [show v = .slice none 0 0 from h];exact .nil
variable [Bnds]
def playL (m came went:List Fct):List Fct:=av (av (df m went)++came)
def oneF:List Fct:=[⟨0,[1,2]⟩]
def oneM:List Fct:=[⟨0,[1,2]⟩,⟨1,[1,2]⟩]
theorem one_err:pk smallP oneF=0:=by
 unfold pk;rw [if_neg (by rw [show dw dx smallP=0 by kernel_rfl];simp),if_neg (by rw [small_doc];simp)];kernel_rfl
theorem q_one:manyW oneF i7=true/\dg oneF i7=[[1,2]]:=uc (by kernel_rfl) (Dt _ _) (by simp)
theorem q_oneM:manyW oneM i7=true/\dg oneM i7=[[1,2]]:=uc (by kernel_rfl) (Dt _ _) (by simp)
theorem r_oneM:manyW oneM smallR=true/\dg oneM smallR=[]:=uc (by kernel_rfl) .nil (by simp)
theorem one_model:ModelR smallP oneF 0 oneM:=by
 have ho:=mOk one_err;have hV:=lvV_ok ho.pr ho.fit 0 oneF;have hset0:av oneF=oneF:=by kernel_rfl
 have hst0:Strict oneF:=by
  have:=(a8 oneF).1
  rw [hset0] at this;exact this
 have i0:InvM (lvV smallP (d8 smallP) 0 oneF) oneF oneF:=p9 hst0 ⟨ho.facts,λ_ _=>Iff.rfl⟩ (by decide);have hQ:i7∈(lvV smallP (d8 smallP) 0 oneF).rs:=List.mem_filter.2 ⟨by rw [ja];simp,by rw [wg];decide⟩;have hq:hdW oneF i7=[⟨1,[1,2]⟩]:=by unfold hdW;rw [q_one.2];kernel_rfl
 have hqf:hdW oneM i7=[⟨1,[1,2]⟩]:=by unfold hdW;rw [q_oneM.2];kernel_rfl
 have hrf:hdW oneM smallR=[]:=by unfold hdW;rw [r_oneM.2];kernel_rfl
 have i1:=inv_put hV i0 (H:=[⟨1,[1,2]⟩]) (λx hx=>⟨i7,hQ,oneF,i0,by show x∈hdW oneF i7;rw [hq];exact hx⟩) (by decide);rw [show av (oneF++[⟨1,[1,2]⟩])=oneM by kernel_rfl] at i1;have hfit0:Fit (lvV smallP (d8 smallP) 0 oneF) oneF oneM:=by
  have key:∀ r∈(lvV smallP (d8 smallP) 0 oneF).rs,manyW oneM r=true/\∀ x∈hdW oneM r,x∈oneM:=by
   intro r hr';have hm:=(List.mem_filter.1 hr').1;rw [ja] at hm;simp only [Be,Bz,or_false] at hm;rcases hm with rfl|rfl
   ·refine⟨q_oneM.1,λx hx=>?_⟩
    rw [hqf] at hx;simp only [Be,Bz,or_false] at hx;subst hx;simp [oneM]
   ·refine⟨r_oneM.1,λx hx=>?_⟩
    rw [hrf] at hx;simp at hx
  exact sw i1 (λr hr=>(key r hr).1) λr hr=>(key r hr).2
 have hfit1:Fit (lvV smallP (d8 smallP) 1 oneM) oneM oneM:=by
  have hno:∀ r∈(lvV smallP (d8 smallP) 1 oneM).rs,False:=by
   intro r hr';obtain⟨hm,hl⟩:=List.mem_filter.1 hr';rw [ja] at hm;simp only [Be,Bz,or_false] at hm;rw [wg] at hl;rcases hm with rfl|rfl<;>exact absurd (of_decide_eq_true hl) (by decide)
  exact sw (p9 i1.strict ⟨i1.a.1,λ_ _=>Iff.rfl⟩ (by decide)) (λr hr=>(hno r hr).elim) λr hr=>(hno r hr).elim
 exact .ok oneM one_err ⟨oneM,⟨oneF,hset0.symm,hfit0⟩,hfit1⟩
attribute [local irreducible] DW DS DL DQ Ev FnOk FnP dp bh DT
theorem play_fn (m came went:List Fct) (hm:m.length+came.length<=4398046511104) (hw:went.length<=4398046511104) (ha:∀ x∈m,x.args.length<=17592186044416) (hb:∀ x∈came,x.args.length<=17592186044416) (hc:∀ x∈went,x.args.length<=17592186044416) :
  Fn 51 [.d (.slice 2 (m.map aa)),elChg came went] (λr=>r = .d (.slice 2 ((playL m came went).map aa))):=by
 refine fqE Tryz.func51 ?_;intro O w0 E0 β0;have w1:=minus_fn m went (by omega) hw ha hc;rw [ue] at w1;have hl:(av (df m went)).length<=m.length:=Ar (fu _) (Cj _ _);have w2:=union_fn (av (df m went)) came (by omega) (λx hx=>ha x (List.mem_filter.1 (((a8 _).2 x).1 hx)).1) hb;repeat' (first|refine zr ?_|refine z22 ?_ (hc:=by apply w1)|refine z22 ?_ (hc:=by apply w2)|fail)
 exact⟨.inl rfl,_,rfl,rfl,rfl⟩
variable [Bnds]
theorem relL_nil {X e w} {es:Nat}:∀ (a b:List SV) (vs:List Value),RelL X e w (a++.nils::b) vs->RelL X e w (a++.d (.slice es [])::b) vs
 | [],_,[],h=>(show False from h).elim
 | [],_,_::_,⟨h,t⟩=>⟨nil_rel h,t⟩
 | _::_,_,[],h=>(show False from h).elim
 | _::a,b,_::vs,⟨h,t⟩=>⟨h,relL_nil a b vs t⟩
def backF:List Fct:=[⟨0,[2,3]⟩]
def wentF:List Fct:=[⟨0,[2,3]⟩,⟨1,[1,3]⟩,⟨1,[2,3]⟩]
theorem one_given:xr pairsF [] backF=oneF:=by kernel_rfl
theorem one_chg:chgE smallP.arity 0 fullF fullF [] backF=0:=by kernel_rfl
theorem one_came:av (df oneM fullF)=[]:=by kernel_rfl
theorem one_went:av (df fullF oneM)=wentF:=by kernel_rfl
theorem one_play:playL fullF [] wentF=oneM:=by kernel_rfl
theorem onePlay_fn:Fn 51 [.d (.slice 2 (fullF.map aa)),.agg [.d (.slice 2 []),.d (.slice 2 (wentF.map aa))]] (λr=>r = .d (.slice 2 (oneM.map aa))):=by
 have h:=play_fn fullF [] wentF (by decide) (by decide) (by decide) (by simp) (by decide);rw [one_play] at h;exact h
theorem oneApply_fn:Fn 22 [db smallP,.d (.slice 2 (pairsF.map aa)),.d (.slice 2 (fullF.map aa)),.nils,.d (.slice 2 (backF.map aa))]
  (λr=>r = .tup [.d (.slice 2 (oneF.map aa)),.d (.slice 2 (oneM.map aa)),.agg [.d (.slice 2 []),.d (.slice 2 (wentF.map aa))],.d (.int .i64 0)]):=by
 have h:=apply_fn smallP pairsF fullF [] backF 0 0 fullF oneM i5 (by rw [one_given];exact one_model) (by decide) (by decide);rw [if_pos ⟨one_chg,rfl⟩,one_given,one_came,one_went] at h;exact h.args λX e w vs hr=>relL_nil [db smallP,.d (.slice 2 (pairsF.map aa)),.d (.slice 2 (fullF.map aa))] [.d (.slice 2 (backF.map aa))] vs hr
theorem changeBegun_fn:Fn 13 [] (λr=>r = .d (.bool true)):=by
 refine fqE Tryz.func13 ?_;intro O w0 E0 β0;have h1:=sn;have h2:=lpairs_fn;have h3:=lfull_fn;have h4:=fv 0 [2,3];have h5:=fv 0 [1,2];have h6:=fv 1 [1,2];have h7:=oneApply_fn;have h8:=onePlay_fn;have h9:=fa oneF oneF;have ha:=fa oneM oneM;rw [sameF_eq] at h9 ha;have lw:(wentF.map aa).length=3:=rfl;have lw2:wentF.length=3:=rfl;have lp:(pairsF.map aa).length=2:=rfl;have lp2:pairsF.length=2:=rfl;repeat' (first|refine zr ?_|refine z21 ?_ (hc:=by apply h1)|refine z21 ?_ (hc:=by apply h2)|refine z22 ?_ (hc:=by apply h2)|refine z21 ?_ (hc:=by apply h3)|refine z22 ?_ (hc:=by apply h3)|refine z21 ?_ (hc:=by apply h4)|refine z22 ?_ (hc:=by apply h5)|refine z22 ?_ (hc:=by apply h6)|refine z21 ?_ (hc:=by apply h7)|refine z22 ?_ (hc:=by apply h8)|refine z22 ?_ (hc:=by apply h9)|refine z22 ?_ (hc:=by apply ha)|fail)
 exact⟨.inl rfl,_,rfl,rfl,rfl⟩
end
section
open Go Go.RowKit
variable [Bnds]
attribute [local irreducible] DW DS DL DQ Ev FnOk FnP dp bh DWr
variable [Bnds]
variable [Bnds]
variable [Bnds]
theorem small_levE:levE smallP=0:=by kernel_rfl
theorem small_levL:levL smallP=[0,0]:=by kernel_rfl
theorem small_r1:kv smallP 1=0:=by kernel_rfl
theorem small_r0:kv smallP 0=0:=by kernel_rfl
theorem small_n1:ud smallP 1=[true,true]:=by kernel_rfl
theorem small_f0:xt smallP 0=⟨[2,2],[⟨#[113]⟩,⟨#[112]⟩],[]⟩:=by kernel_rfl
theorem begun_fn:Fn 15 [] (λres=>res = .d (.bool true)):=by
 refine fqE Tryz.func15 ?_;intro O w0 E0 β0;have h1:=sn;have h2:=levels_fn smallP;rw [small_levE,small_levL] at h2;have h3:=pneeds_fn smallP 1;rw [small_r1,if_pos rfl,small_n1] at h3;have h4:=focus_fn smallP 0;rw [small_r0,small_f0] at h4;have h5:=wv [0,0] [0,0];repeat' (first|refine zr ?_|refine z21 ?_ (hc:=by apply h1)|refine z21 ?_ (hc:=by apply h2)|refine z21 ?_ (hc:=by apply h3)|refine z21 ?_ (hc:=by apply h4)|refine z21 ?_ (hc:=by apply h5)|fail)
 exact⟨.inl rfl,_,rfl,rfl,rfl⟩
variable [iB : Bnds]
attribute [local irreducible] DT
theorem applyAt (p:Prg) (l m puts takes:List Fct) (hm:m.length<=4398046511104) (ha:∀ x∈m,x.args.length<=17592186044416) :
  ∃ (g n c w:List Fct) (e:Int),∀ i:Bnds,@FnP i false Tryz.prog tab bp 22 [db p,.d (.slice 2 (l.map aa)),.d (.slice 2 (m.map aa)),.d (.slice 2 (puts.map aa)),.d (.slice 2 (takes.map aa))]
   (λr=>r = .tup [.d (.own i.B (.slice 2 (g.map aa))),.d (.own i.B (.slice 2 (n.map aa))),.agg [.d (.own i.B (.slice 2 (c.map aa))),.d (.own i.B (.slice 2 (w.map aa)))],.d (.int .i64 e)]):=by
 obtain⟨e,was,hx⟩:=ModelR.total p l;obtain⟨e2,now,hy⟩:=ModelR.total p (xr l puts takes);by_cases hc:chgE p.arity e was m puts takes=0/\e2=0
 ·refine⟨xr l puts takes,now,av (df now was),av (df was now),0,λi=>?_⟩
  have h:=@applyO_fn i p l m puts takes e e2 was now hx hy hm ha;rw [if_pos hc] at h;exact h
 ·refine⟨[],[],[],[],if chgE p.arity e was m puts takes=0 then e2 else chgE p.arity e was m puts takes,λi=>?_⟩
  have h:=@applyO_fn i p l m puts takes e e2 was now hx hy hm ha;rw [if_neg hc] at h;exact h
theorem model_args {p:Prg} {l m:List Fct} {e:Int} (hm:ModelR p l e m):∀ x∈m,x.args.length<=3:=by
 intro x hx;obtain⟨_,_,uu3⟩:=hm.strict;cases hm with
 | bad h=>cases hx
 | ok m h hr=>exact rr (mOk h).pr (uu3 x hx)
 | much h hr=>cases hx
theorem restModels_fn (p:Prg) (n:Int) (l puts takes:List Fct) (hl:l.length<=2199023255552) (hp:puts.length<=2199023255552) (ht:takes.length<=2199023255552) (al:∀ x∈l,x.args.length<=17592186044416) (ap:∀ x∈puts,x.args.length<=17592186044416) (at':∀ x∈takes,x.args.length<=17592186044416) :
  Fn 4 [db p,.d (.int .i64 n),.d (.slice 2 (l.map aa)),.d (.slice 2 (puts.map aa)),.d (.slice 2 (takes.map aa))] (λr=>r = .d (.bool true)):=by
 refine fqE Tryz.func4 ?_;intro O w0 E0 β0;obtain⟨e,m,hm⟩:=ModelR.total p l;have h1:=modelBegun_fn;have h2:=ruleBegun_fn;have h3:=whyBegun_fn;have h4:=changeBegun_fn;have h5:=relationBegun_fn;have h6:=begun_fn;have c1:=q9 l (by omega) al;have c2:=q9 puts (by omega) ap;have c3:=q9 takes (by omega) at';have f1:=fullModel_fn p l e m hm;repeat' (first|(apply nr;exact rfl;exact rfl;exact rfl;exact rfl;exact rfl;exact rfl;(refine⟨?_,?_,?_⟩<;>(first|omega|(simp only [Aa];omega)));((with_reducible apply ni);(first|exact bg _|exact bq _));exact rfl;exact rfl)|refine zs ?_|refine z21 ?_ (hc:=by apply h1)|refine z21 ?_ (hc:=by apply h2)|refine z21 ?_ (hc:=by apply h3)|refine z21 ?_ (hc:=by apply h4)|refine z21 ?_ (hc:=by apply h5)|refine z21 ?_ (hc:=by apply h6)|refine z21 ?_ (hc:=by apply c1)|refine z21 ?_ (hc:=by apply c2)|refine z21 ?_ (hc:=by apply c3)|refine z21 ?_ (hc:=by apply f1)|fail)
 refine ak (ι:=Nat) (λi=>⟨1,[(1,.d (.int .i64 n)),(2,.d (.slice 2 (l.map aa))),(3,.d (.slice 2 (puts.map aa))),(4,.d (.slice 2 (takes.map aa))),(5,.loc 0 0),(11,.d (.slice 2 (l.map aa))),(12,.d (.slice 2 (puts.map aa))),(13,.d (.slice 2 (takes.map aa))),(14,.d (.slice 2 (m.map aa))),(15,.d (.int .i64 e)),(16,.d (.int .i64 (i:Int)))],[(0,.blk 26 [.d (.slice 1 (p.arity.map ah)),.d (.slice 1 (p.names.map dl)),.d (.slice 5 (p.rules.map a6))])]⟩)
  (λi=>i<=2) (λi=>2-i) 0 (Ai _) (er id) ?_
 intro i hi;clear h1 h2 h3 h4 h5 h6 c1 c2 c3 f1;dsimp only;repeat' (first|refine zs ?_|fail)
 refine bi rfl (λhlt=>?_) (λhge=>?_);rotate_left
 ·repeat' (first|refine zr ?_|fail)
  exact cm rfl rfl
 refine au (k':=1) (L':=[(1,.d (.int .i64 n)),(2,.d (.slice 2 (l.map aa))),(3,.d (.slice 2 (puts.map aa))),(4,.d (.slice 2 (takes.map aa))),(5,.loc 0 0),(11,.d (.slice 2 (l.map aa))),(12,.d (.slice 2 (puts.map aa))),(13,.d (.slice 2 (takes.map aa))),(14,.d (.slice 2 (m.map aa))),(15,.d (.int .i64 e)),(16,.d (.int .i64 (i:Int)))])
  (H':=[(0,.blk 26 [.d (.slice 1 (p.arity.map ah)),.d (.slice 1 (p.names.map dl)),.d (.slice 5 (p.rules.map a6))])]) (er id) ?_
 refine dw_old λB hB=>?_
 have hB:w0.heap.size<=B:=hB;dsimp only [Sl.mapS,Hp.mapS,HB.mapS,SV.mapL,SV.mkd];obtain⟨uu1,uu2,uu3⟩:=hm.strict;obtain⟨g4,n4,c4,w4,e4,hA⟩:=applyAt p l m puts takes (by omega) (λx hx=>by have:=model_args hm x hx;omega);have c10:Fn 10 [.agg [.rg B 0 (.slice 1 (p.arity.map ah)),.rg B 0 (.slice 1 (p.names.map dl)),.rg B 0 (.slice 5 (p.rules.map a6))],.rg B 0 (.slice 2 (l.map aa))] (λr=>r = .tup [.rg B 1 (.slice 2 (m.map aa)),.d (.int .i64 e)]) :=
  FnP.atB B (@yz (kg iB B) p l e m hm) rfl (.agg _ _ (.here ..)) (by rintro _ rfl;exact⟨⟨rfl,trivial,trivial⟩,rfl⟩)
 have v1:Fn 18 [.rg B 1 (.slice 2 (m.map aa)),.d (.int .i64 e),.d (.int .i64 e),.rg B 0 (.slice 2 (m.map aa))] (λr=>r = .d (.bool true)):=by
  have h:=factsAre_fn m e e m;rw [decide_eq_true rfl,Bool.true_and] at h;have h0:(if e≠0 then [] else m)=m:=by
   split
   ·rename_i he;cases hm with
    | bad h=>rfl
    | ok m h hr=>exact absurd rfl he
    | much h hr=>rfl
   ·rfl
  rw [h0,sameF_eq] at h;exact h.ofWeak _ rfl
 have v2:Fn 19 [.rg B 0 (.slice 2 (l.map aa)),.rg B 0 (.slice 2 (l.map aa))] (λr=>r = .d (.bool true)):=(mf l).ofWeak _ rfl;have v3:Fn 19 [.rg B 0 (.slice 2 (puts.map aa)),.rg B 0 (.slice 2 (puts.map aa))] (λr=>r = .d (.bool true)):=(mf puts).ofWeak _ rfl;have v4:Fn 19 [.rg B 0 (.slice 2 (takes.map aa)),.rg B 0 (.slice 2 (takes.map aa))] (λr=>r = .d (.bool true)):=(mf takes).ofWeak _ rfl;have c11:Fn 20 [.agg [.rg B 0 (.slice 1 (p.arity.map ah)),.rg B 0 (.slice 1 (p.names.map dl)),.rg B 0 (.slice 5 (p.rules.map a6))],.d (.int .i64 n),.rg B 0 (.slice 2 (l.map aa))] (λr=>r = .tup [.rg B 1 (.slice 1 ((zq p n l).map cx)),.d (.int .i64 (vw p n l))]) :=
  FnP.atB B (@waysO_fn (kg iB B) p n l) rfl (.agg _ _ (.here ..)) (by rintro _ rfl;exact⟨⟨rfl,trivial,trivial⟩,rfl⟩)
 have c12:Fn 21 [.agg [.rg B 0 (.slice 1 (p.arity.map ah)),.rg B 0 (.slice 1 (p.names.map dl)),.rg B 0 (.slice 5 (p.rules.map a6))],.d (.int .i64 n),.rg B 0 (.slice 2 (l.map aa))] (λr=>r = .tup [.rg B 1 (.slice 2 ((wayH p n l).map aa)),.d (.int .i64 (vw p n l))]) :=
  FnP.atB B ((@headsAO_fn _ _ _ _ _ _ _ (kg iB B) p n l)) rfl (.agg _ _ (.here ..)) (by rintro _ rfl;exact⟨⟨rfl,trivial,trivial⟩,rfl⟩)
 have c13:Fn 22 [.agg [.rg B 0 (.slice 1 (p.arity.map ah)),.rg B 0 (.slice 1 (p.names.map dl)),.rg B 0 (.slice 5 (p.rules.map a6))],.rg B 0 (.slice 2 (l.map aa)),.rg B 1 (.slice 2 (m.map aa)),.rg B 0 (.slice 2 (puts.map aa)),.rg B 0 (.slice 2 (takes.map aa))]
   (λr=>r = .tup [.rg B 1 (.slice 2 (g4.map aa)),.rg B 1 (.slice 2 (n4.map aa)),.agg [.rg B 1 (.slice 2 (c4.map aa)),.rg B 1 (.slice 2 (w4.map aa))],.d (.int .i64 e4)]) :=
  FnP.atB B (hA (kg iB B)) rfl (.agg _ _ (.here ..)) (by rintro _ rfl;exact⟨⟨rfl,rfl,⟨rfl,rfl,trivial⟩,trivial,trivial⟩,rfl⟩)
 have c14:Fn 23 [.agg [.rg B 0 (.slice 1 (p.arity.map ah)),.rg B 0 (.slice 1 (p.names.map dl)),.rg B 0 (.slice 5 (p.rules.map a6))],.d (.int .i64 0)]
   (λr=>r = .tup [.agg [.rg B 1 (.slice 1 ((xt p 0).arity.map ah)),.rg B 1 (.slice 1 ((xt p 0).names.map dl)),.rg B 1 (.slice 5 ((xt p 0).rules.map a6))],.d (.int .i64 (kv p 0))]) :=
  FnP.atB B (@focusO_fn (kg iB B) p 0) rfl (.agg _ _ (.here ..)) (by rintro _ rfl;exact⟨⟨⟨rfl,rfl,rfl,trivial⟩,trivial,trivial⟩,rfl⟩)
 clear hA;obtain⟨ws,hws⟩:∃ q,zq p n l=q:=⟨_,rfl⟩;obtain⟨hs,hhs⟩:∃ q,wayH p n l=q:=⟨_,rfl⟩;obtain⟨fp,hfp⟩:∃ q,xt p 0=q:=⟨_,rfl⟩;rw [hws] at c11;rw [hhs] at c12;rw [hfp] at c14;repeat' (first|refine zs ?_|refine z21 ?_ (hc:=by apply c10)|refine z21 ?_ (hc:=by apply v1)|refine z21 ?_ (hc:=by apply v2)|refine z21 ?_ (hc:=by apply v3)|refine z21 ?_ (hc:=by apply v4)|refine z21 ?_ (hc:=by apply c11)|refine z21 ?_ (hc:=by apply c12)|refine z21 ?_ (hc:=by apply c13)|refine z21 ?_ (hc:=by apply c14)|fail)
 refine dw_ownAt 17 rfl ?_;refine dw_dullAll ?_;dsimp only [Sl.mapS,Hp.mapS,HB.mapS,SV.mapL,SV.dull,SV.dullL];refine ak (ι:=Nat) (λk=>⟨3,[(1,.d (.int .i64 n)),(2,.rg B 0 (.slice 2 (l.map aa))),(3,.rg B 0 (.slice 2 (puts.map aa))),(4,.rg B 0 (.slice 2 (takes.map aa))),(5,.loc 0 0),(11,.rg B 0 (.slice 2 (l.map aa))),(12,.rg B 0 (.slice 2 (puts.map aa))),(13,.rg B 0 (.slice 2 (takes.map aa))),(14,.rg B 0 (.slice 2 (m.map aa))),(15,.d (.int .i64 e)),(16,.d (.int .i64 (i:Int))),(17,.d (.own B (.slice 2 (m.map aa)))),(19,.rg B 2 (.slice 1 (ws.map cx))),(21,.rg B 2 (.slice 2 (hs.map aa))),(23,.rg B 2 (.slice 2 (g4.map aa))),(24,.rg B 2 (.slice 2 (n4.map aa))),(25,.loc 1 0),(27,.loc 2 0),(29,.d (.int .i64 (k:Int)))],[(0,.blk 26 [.rg B 0 (.slice 1 (p.arity.map ah)),.rg B 0 (.slice 1 (p.names.map dl)),.rg B 0 (.slice 5 (p.rules.map a6))]),(1,.blk 49 [.rg B 2 (.slice 2 (c4.map aa)),.rg B 2 (.slice 2 (w4.map aa))]),(2,.blk 26 [.rg B 2 (.slice 1 (fp.arity.map ah)),.rg B 2 (.slice 1 (fp.names.map dl)),.rg B 2 (.slice 5 (fp.rules.map a6))])]⟩)
  (λk=>k<=m.length) (λk=>m.length-k) 0 (Ai _) (ag id (by (repeat' (first|exact trivial|exact rfl|refine⟨?_,?_⟩))) ⟨rfl,rfl,rfl,trivial⟩ rfl rfl rfl rfl rfl rfl) ?_
 intro k hk;dsimp only;repeat' ((fail_if_success (apply e8 18));(first|refine zs ?_|fail))
 refine bi rfl (λhkl=>?_) (λhkl=>?_)
 ·have hkm:k<m.length:=by simpa using hkl
  repeat' ((fail_if_success (apply e8 18));(first|refine zs ?_|fail))
  refine dw_splitB 6 (by kernel_rfl) (by kernel_rfl) (by kernel_rfl) rfl rfl rfl ?_;repeat' (first|refine zs ?_|fail)
  intro B2 hB2 hle;have hBB:B<=B2:=hle B (.slot 2 0 _ rfl);have hB2:w0.heap.size<=B2:=hB2;refine⟨3,[(1,.d (.int .i64 n)),(2,.rg B 0 (.slice 2 (l.map aa))),(3,.rg B 0 (.slice 2 (puts.map aa))),(4,.rg B 0 (.slice 2 (takes.map aa))),(5,.loc 0 0),(11,.rg B 0 (.slice 2 (l.map aa))),(12,.rg B 0 (.slice 2 (puts.map aa))),(13,.rg B 0 (.slice 2 (takes.map aa))),(14,.rg B 0 (.slice 2 (m.map aa))),(15,.d (.int .i64 e)),(16,.d (.int .i64 (i:Int))),(17,.rg B2 0 (.own B (.slice 2 (m.map aa)))),(19,.rg B 2 (.slice 1 (ws.map cx))),(21,.rg B 2 (.slice 2 (hs.map aa))),(23,.rg B 2 (.slice 2 (g4.map aa))),(24,.rg B 2 (.slice 2 (n4.map aa))),(25,.loc 1 0),(27,.loc 2 0),(29,.d (.int .i64 (k:Int))),(146,.agg [.rg B 0 (.slice 1 (p.arity.map ah)),.rg B 0 (.slice 1 (p.names.map dl)),.rg B 0 (.slice 5 (p.rules.map a6))]),(147,.rg B 0 (.slice 2 (l.map aa))),(151,.agg [.d (.int .i64 (m[k]).pred),.rg B2 0 (.slice 1 ((m[k]).args.map ah))])],[(0,.blk 26 [.rg B 0 (.slice 1 (p.arity.map ah)),.rg B 0 (.slice 1 (p.names.map dl)),.rg B 0 (.slice 5 (p.rules.map a6))]),(1,.blk 49 [.rg B 2 (.slice 2 (c4.map aa)),.rg B 2 (.slice 2 (w4.map aa))]),(2,.blk 26 [.rg B 2 (.slice 1 (fp.arity.map ah)),.rg B 2 (.slice 1 (fp.names.map dl)),.rg B 2 (.slice 5 (fp.rules.map a6))])],_,entAt_mk (ag id (by (repeat' (first|exact trivial|exact rfl|refine⟨?_,?_⟩))) ⟨rfl,rfl,rfl,trivial⟩ rfl rfl rfl rfl rfl rfl),rfl,?_⟩
  have c24:Fn 24 [.agg [.rg B 0 (.slice 1 (p.arity.map ah)),.rg B 0 (.slice 1 (p.names.map dl)),.rg B 0 (.slice 5 (p.rules.map a6))],.rg B 0 (.slice 2 (l.map aa)),.agg [.d (.int .i64 (m[k]).pred),.rg B2 0 (.slice 1 ((m[k]).args.map ah))]]
    (λr=>∃ (xs:List Stp) (b:Bool) (e':Int),r = .tup [.rg B2 1 (.slice 4 (xs.map ck)),.d (.bool b),.d (.int .i64 e')]) :=
   FnP.atB B2 (@wproveO_fn _ _ _ _ _ _ _ _ _ _ _ (kg iB B2) p l m[k] e m hm) rfl (.next _ _ (.next _ _ (.agg _ _ (.next _ _ (.here ..))))) (by rintro _ ⟨xs,rfl,_⟩;exact⟨⟨rfl,trivial,trivial,trivial⟩,xs,_,_,rfl⟩)
  refine dt_call rfl rfl c24 rfl rfl rfl rfl ⟨_,[],false,0,rfl⟩ ?_;rintro _ ⟨xs,b,e',rfl⟩;repeat' (first|refine zs ?_|fail)
  refine jw (k':=3) (L':=[(1,.d (.int .i64 n)),(2,.rg B 0 (.slice 2 (l.map aa))),(3,.rg B 0 (.slice 2 (puts.map aa))),(4,.rg B 0 (.slice 2 (takes.map aa))),(5,.loc 0 0),(11,.rg B 0 (.slice 2 (l.map aa))),(12,.rg B 0 (.slice 2 (puts.map aa))),(13,.rg B 0 (.slice 2 (takes.map aa))),(14,.rg B 0 (.slice 2 (m.map aa))),(15,.d (.int .i64 e)),(16,.d (.int .i64 (i:Int))),(17,.rg B2 0 (.own B (.slice 2 (m.map aa)))),(19,.rg B 2 (.slice 1 (ws.map cx))),(21,.rg B 2 (.slice 2 (hs.map aa))),(23,.rg B 2 (.slice 2 (g4.map aa))),(24,.rg B 2 (.slice 2 (n4.map aa))),(25,.loc 1 0),(27,.loc 2 0),(29,.d (.int .i64 (k:Int))),(156,.rg B2 2 (.slice 4 (xs.map ck)))]) (H':=[(0,.blk 26 [.rg B 0 (.slice 1 (p.arity.map ah)),.rg B 0 (.slice 1 (p.names.map dl)),.rg B 0 (.slice 5 (p.rules.map a6))]),(1,.blk 49 [.rg B 2 (.slice 2 (c4.map aa)),.rg B 2 (.slice 2 (w4.map aa))]),(2,.blk 26 [.rg B 2 (.slice 1 (fp.arity.map ah)),.rg B 2 (.slice 1 (fp.names.map dl)),.rg B 2 (.slice 5 (fp.rules.map a6))])]) (ent_transM ent_dullAll (ag id (by (repeat' (first|exact trivial|exact rfl|refine⟨?_,?_⟩))) ⟨rfl,rfl,rfl,trivial⟩ rfl rfl rfl rfl rfl rfl)) ?_;refine ds_callSp (B:=B2) (spoilSteps_fn B2 xs) hB2 rfl rfl (.here ..) rfl rfl (by (repeat' (first|exact trivial|exact hBB|exact Af _|refine⟨?_,?_⟩))) (by (repeat' (first|exact trivial|exact hBB|refine⟨?_,?_⟩))) ?_;refine jw (ent_weak 17 rfl) ?_;repeat' (first|refine zs ?_|fail)
  exact⟨k+1,hkm,(ag id (by (repeat' (first|exact trivial|exact rfl|refine⟨?_,?_⟩))) ⟨rfl,rfl,rfl,trivial⟩ rfl rfl rfl rfl rfl rfl),by omega⟩
 clear c10 v1 v2 v3 v4 c11 c12 c13 c14;have c26:Fn 26 [.rg B 0 (.slice 2 (l.map aa))] (λr=>r = .rg B 1 (.slice 2 ((av l).map aa))) :=
  FnP.atB B (@yn _ (kg iB B) l (by omega) al) rfl (.here ..) (by rintro _ rfl;exact⟨rfl,rfl⟩)
 have c27:Fn 27 [.rg B 0 (.slice 2 (l.map aa)),.rg B 0 (.slice 2 (puts.map aa))] (λr=>r = .rg B 1 (.slice 2 ((av (l++puts)).map aa))) :=
  FnP.atB B (@yk _ (kg iB B) l puts (by omega) al ap) rfl (.here ..) (by rintro _ rfl;exact⟨rfl,rfl⟩)
 have c28:Fn 28 [.rg B 0 (.slice 2 (l.map aa)),.rg B 0 (.slice 2 (takes.map aa))] (λr=>r = .rg B 1 (.slice 2 ((av (l.filter λx=>!hasF (av takes) x)).map aa))) :=
  FnP.atB B (@sk _ (kg iB B) l takes (by omega) (by omega) al at') rfl (.here ..) (by rintro _ rfl;exact⟨rfl,rfl⟩)
 have c29:Fn 29 [.rg B 0 (.slice 2 (l.map aa)),.d (.int .i64 0),.nils,.nils] (λr=>r = .rg B 1 (.slice 2 ((av (ug l 0 [] [])).map aa))):=by
  have h:Fn 29 [.rg B 0 (.slice 2 (l.map aa)),.d (.int .i64 0),.d (.slice 1 []),.d (.slice 1 [])] (λr=>r = .rg B 1 (.slice 2 ((av (ug l 0 [] [])).map aa))) :=
   FnP.atB B (@matchO_fn _ (kg iB B) l 0 [] [] (by omega) al) rfl (.here ..) (by rintro _ rfl;exact⟨rfl,rfl⟩)
  exact h.args λX e w vs hr=>relL_nil [.rg B 0 (.slice 2 (l.map aa)),.d (.int .i64 0)] [.d (.slice 1 [])] vs (relL_nil [.rg B 0 (.slice 2 (l.map aa)),.d (.int .i64 0),.nils] [] vs hr)
 refine dw_rgsAt (B:=B) 17 rfl (.slot 2 0 _ rfl) ?_;refine dw_dull 17 rfl ?_;repeat' ((fail_if_success (apply e8 20));(first|refine zs ?_|fail))
 refine au (k':=3) (L':=[(1,.d (.int .i64 n)),(2,.rg B 0 (.slice 2 (l.map aa))),(3,.rg B 0 (.slice 2 (puts.map aa))),(4,.rg B 0 (.slice 2 (takes.map aa))),(5,.loc 0 0),(11,.rg B 0 (.slice 2 (l.map aa))),(12,.rg B 0 (.slice 2 (puts.map aa))),(13,.rg B 0 (.slice 2 (takes.map aa))),(14,.rg B 0 (.slice 2 (m.map aa))),(15,.d (.int .i64 e)),(16,.d (.int .i64 (i:Int))),(27,.loc 2 0),(17,.rg B 2 (.slice 2 (m.map aa))),(19,.rg B 2 (.slice 1 (ws.map cx))),(21,.rg B 2 (.slice 2 (hs.map aa))),(23,.rg B 2 (.slice 2 (g4.map aa))),(24,.rg B 2 (.slice 2 (n4.map aa))),(25,.loc 1 0)]) (H':=[(0,.blk 26 [.rg B 0 (.slice 1 (p.arity.map ah)),.rg B 0 (.slice 1 (p.names.map dl)),.rg B 0 (.slice 5 (p.rules.map a6))]),(1,.blk 49 [.rg B 2 (.slice 2 (c4.map aa)),.rg B 2 (.slice 2 (w4.map aa))]),(2,.blk 26 [.rg B 2 (.slice 1 (fp.arity.map ah)),.rg B 2 (.slice 1 (fp.names.map dl)),.rg B 2 (.slice 5 (fp.rules.map a6))])]) (ag id (by (repeat' (first|exact trivial|exact rfl|refine⟨?_,?_⟩))) ⟨rfl,rfl,rfl,trivial⟩ rfl rfl rfl rfl rfl rfl) ?_;refine ru 18 (by kernel_rfl) (by kernel_rfl) (by kernel_rfl) rfl rfl rfl ?_;iterate 18 (first|refine zs ?_|refine z22 ?_ (hc:=by apply c26)|refine z22 ?_ (hc:=by apply c27)|refine z22 ?_ (hc:=by apply c28)|refine z22 ?_ (hc:=by apply c29)|fail)
 refine dt_nil rfl ?_;obtain⟨fss,hfss⟩:∃ q:List (List Fct),q=[av l,av (l++puts),av (l.filter λx=>!hasF (av takes) x),av (ug l 0 [] []),m,hs,g4,n4,c4,w4]:=⟨_,rfl⟩;refine ds_bsB (B:=B) (es:=1) (len:=10) (cs':=[.rg B 1 (.slice 2 ((av l).map aa)),.rg B 1 (.slice 2 ((av (l++puts)).map aa)),.rg B 1 (.slice 2 ((av (l.filter λx=>!hasF (av takes) x)).map aa)),.rg B 1 (.slice 2 ((av (ug l 0 [] [])).map aa)),.rg B 2 (.slice 2 (m.map aa)),.rg B 2 (.slice 2 (hs.map aa)),.rg B 2 (.slice 2 (g4.map aa)),.rg B 2 (.slice 2 (n4.map aa)),.rg B 2 (.slice 2 (c4.map aa)),.rg B 2 (.slice 2 (w4.map aa))]) (fss.map encL) (.slot 2 0 _ rfl) rfl rfl rfl rfl rfl rfl (by kernel_rfl) rfl (by kernel_rfl) (by rw [hfss];exact⟨.inl rfl,.inl rfl,.inl rfl,.inl rfl,.inr (.inl rfl),.inr (.inl rfl),.inr (.inl rfl),.inr (.inl rfl),.inr (.inl rfl),.inr (.inl rfl),trivial⟩) (λx hx=>by obtain⟨y,_,rfl⟩:=List.mem_map.1 hx;rfl) (by rw [hfss];rfl) rfl rfl ?_;clear hfss c26 c27 c28 c29;repeat' (first|refine zs ?_|fail)
 refine dw_lens 33 rfl λlens0=>?_
 have len0:fss.length<=9223372036854775807:=by simpa using lens0.1
 refine dw_lens 19 rfl λlens1=>?_
 have len1:ws.length<=9223372036854775807:=by simpa using lens1.1
 refine dw_lensC (B:=B) 2 2 rfl rfl λlens2=>?_
 have len2:fp.rules.length<=9223372036854775807:=by simpa using lens2.1
 refine dw_lensC (B:=B) 2 0 rfl rfl λlens3=>?_
 have len3:fp.arity.length<=9223372036854775807:=by simpa using lens3.1
 refine ak (ι:=Nat) (λj=>⟨3,[(1,.d (.int .i64 n)),(2,.rg B 0 (.slice 2 (l.map aa))),(3,.rg B 0 (.slice 2 (puts.map aa))),(4,.rg B 0 (.slice 2 (takes.map aa))),(5,.loc 0 0),(11,.rg B 0 (.slice 2 (l.map aa))),(12,.rg B 0 (.slice 2 (puts.map aa))),(13,.rg B 0 (.slice 2 (takes.map aa))),(14,.rg B 0 (.slice 2 (m.map aa))),(15,.d (.int .i64 e)),(16,.d (.int .i64 (i:Int))),(27,.loc 2 0),(19,.rg B 2 (.slice 1 (ws.map cx))),(33,.rg B 2 (.slice 1 (fss.map encL))),(34,.d (.int .i64 (j:Int)))],[(0,.blk 26 [.rg B 0 (.slice 1 (p.arity.map ah)),.rg B 0 (.slice 1 (p.names.map dl)),.rg B 0 (.slice 5 (p.rules.map a6))]),(1,.blk 49 [.rg B 2 (.slice 2 (c4.map aa)),.rg B 2 (.slice 2 (w4.map aa))]),(2,.blk 26 [.rg B 2 (.slice 1 (fp.arity.map ah)),.rg B 2 (.slice 1 (fp.names.map dl)),.rg B 2 (.slice 5 (fp.rules.map a6))])]⟩)
  (λj=>j<=fss.length) (λj=>fss.length-j) 0 (Ai _) (ag id (by (repeat' (first|exact trivial|exact rfl|refine⟨?_,?_⟩))) ⟨rfl,rfl,rfl,trivial⟩ rfl rfl rfl rfl rfl rfl) ?_
 intro j hjl;dsimp only;repeat' (first|(first|refine zs ?_|fail)|refine ux ?_)
 refine bi rfl (λhl=>?_) (λhl=>?_)
 ·have hj:j<fss.length:=by simpa using hl
  repeat' (first|(first|refine zs ?_|fail)|refine gu (h1:=hj) ?_|refine qz ?_)
  refine ds_callSp (B:=B) (zw B fss[j]) hB rfl rfl (.here ..) rfl rfl (by (repeat' (first|exact trivial|exact Af _|refine⟨?_,?_⟩))) (by (repeat' (first|exact trivial|exact Af _|refine⟨?_,?_⟩))) ?_;repeat' (first|refine zs ?_|fail)
  exact⟨j+1,hj,(ag id (by (repeat' (first|exact trivial|exact rfl|refine⟨?_,?_⟩))) ⟨rfl,rfl,rfl,trivial⟩ rfl rfl rfl rfl rfl rfl),by omega⟩
 repeat' (first|refine zs ?_|fail)
 refine ak (ι:=Nat) (λj=>⟨3,[(1,.d (.int .i64 n)),(2,.rg B 0 (.slice 2 (l.map aa))),(3,.rg B 0 (.slice 2 (puts.map aa))),(4,.rg B 0 (.slice 2 (takes.map aa))),(5,.loc 0 0),(11,.rg B 0 (.slice 2 (l.map aa))),(12,.rg B 0 (.slice 2 (puts.map aa))),(13,.rg B 0 (.slice 2 (takes.map aa))),(14,.rg B 0 (.slice 2 (m.map aa))),(15,.d (.int .i64 e)),(16,.d (.int .i64 (i:Int))),(27,.loc 2 0),(19,.rg B 2 (.slice 1 (ws.map cx))),(35,.d (.int .i64 (j:Int)))],[(0,.blk 26 [.rg B 0 (.slice 1 (p.arity.map ah)),.rg B 0 (.slice 1 (p.names.map dl)),.rg B 0 (.slice 5 (p.rules.map a6))]),(1,.blk 49 [.rg B 2 (.slice 2 (c4.map aa)),.rg B 2 (.slice 2 (w4.map aa))]),(2,.blk 26 [.rg B 2 (.slice 1 (fp.arity.map ah)),.rg B 2 (.slice 1 (fp.names.map dl)),.rg B 2 (.slice 5 (fp.rules.map a6))])]⟩)
  (λj=>j<=ws.length) (λj=>ws.length-j) 0 (Ai _) (ag id (by (repeat' (first|exact trivial|exact rfl|refine⟨?_,?_⟩))) ⟨rfl,rfl,rfl,trivial⟩ rfl rfl rfl rfl rfl rfl) ?_
 intro j hjl;dsimp only;repeat' (first|(first|refine zs ?_|fail)|refine ux ?_)
 refine bi rfl (λhl=>?_) (λhl=>?_)
 ·have hj:j<ws.length:=by simpa using hl
  have mem:cx ws[j]∈ws.map cx:=List.mem_map.2 ⟨_,Ag hj,rfl⟩;have len4:(ws[j]).length<=9223372036854775807:=by
   have:=lens1.2 _ mem (.slice 1 ((ws[j]).map ah)) (by simp [cx]) 1 _ rfl
   simpa using this
  repeat' (first|refine zs ?_|fail)
  refine ak (ι:=Nat) (λh=>⟨3,[(1,.d (.int .i64 n)),(2,.rg B 0 (.slice 2 (l.map aa))),(3,.rg B 0 (.slice 2 (puts.map aa))),(4,.rg B 0 (.slice 2 (takes.map aa))),(5,.loc 0 0),(11,.rg B 0 (.slice 2 (l.map aa))),(12,.rg B 0 (.slice 2 (puts.map aa))),(13,.rg B 0 (.slice 2 (takes.map aa))),(14,.rg B 0 (.slice 2 (m.map aa))),(15,.d (.int .i64 e)),(16,.d (.int .i64 (i:Int))),(27,.loc 2 0),(19,.rg B 2 (.slice 1 (ws.map cx))),(35,.d (.int .i64 (j:Int))),(36,.d (.int .i64 (h:Int)))],[(0,.blk 26 [.rg B 0 (.slice 1 (p.arity.map ah)),.rg B 0 (.slice 1 (p.names.map dl)),.rg B 0 (.slice 5 (p.rules.map a6))]),(1,.blk 49 [.rg B 2 (.slice 2 (c4.map aa)),.rg B 2 (.slice 2 (w4.map aa))]),(2,.blk 26 [.rg B 2 (.slice 1 (fp.arity.map ah)),.rg B 2 (.slice 1 (fp.names.map dl)),.rg B 2 (.slice 5 (fp.rules.map a6))])]⟩)
   (λh=>h<=(ws[j]).length) (λh=>(ws[j]).length-h) 0 (Ai _) (ag id (by (repeat' (first|exact trivial|exact rfl|refine⟨?_,?_⟩))) ⟨rfl,rfl,rfl,trivial⟩ rfl rfl rfl rfl rfl rfl) ?_
  intro h hhl;dsimp only;repeat' (first|(first|refine zs ?_|fail)|refine ux ?_|refine gu (h1:=hj) ?_|refine qz ?_)
  refine bi rfl (λhk=>?_) (λhk=>?_)
  ·have hh:h<(ws[j]).length:=by simpa using hk
   repeat' (first|(first|refine zs ?_|fail)|refine gu (h1:=hj) ?_|refine gu (h1:=hh) ?_|refine qz ?_|refine s6 ?_)
   exact⟨h+1,hh,(ag id (by (repeat' (first|exact trivial|exact rfl|refine⟨?_,?_⟩))) ⟨rfl,rfl,rfl,trivial⟩ rfl rfl rfl rfl rfl rfl),by omega⟩
  repeat' (first|refine zs ?_|fail)
  exact⟨j+1,hj,(ag id (by (repeat' (first|exact trivial|exact rfl|refine⟨?_,?_⟩))) ⟨rfl,rfl,rfl,trivial⟩ rfl rfl rfl rfl rfl rfl),by omega⟩
 repeat' (first|refine zs ?_|fail)
 refine ak (ι:=Nat) (λj=>⟨3,[(1,.d (.int .i64 n)),(2,.rg B 0 (.slice 2 (l.map aa))),(3,.rg B 0 (.slice 2 (puts.map aa))),(4,.rg B 0 (.slice 2 (takes.map aa))),(5,.loc 0 0),(11,.rg B 0 (.slice 2 (l.map aa))),(12,.rg B 0 (.slice 2 (puts.map aa))),(13,.rg B 0 (.slice 2 (takes.map aa))),(14,.rg B 0 (.slice 2 (m.map aa))),(15,.d (.int .i64 e)),(16,.d (.int .i64 (i:Int))),(27,.loc 2 0),(37,.d (.int .i64 (j:Int)))],[(0,.blk 26 [.rg B 0 (.slice 1 (p.arity.map ah)),.rg B 0 (.slice 1 (p.names.map dl)),.rg B 0 (.slice 5 (p.rules.map a6))]),(1,.blk 49 [.rg B 2 (.slice 2 (c4.map aa)),.rg B 2 (.slice 2 (w4.map aa))]),(2,.blk 26 [.rg B 2 (.slice 1 (fp.arity.map ah)),.rg B 2 (.slice 1 (fp.names.map dl)),.rg B 2 (.slice 5 (fp.rules.map a6))])]⟩)
  (λj=>j<=fp.rules.length) (λj=>fp.rules.length-j) 0 (Ai _) (ag id (by (repeat' (first|exact trivial|exact rfl|refine⟨?_,?_⟩))) ⟨rfl,rfl,rfl,trivial⟩ rfl rfl rfl rfl rfl rfl) ?_
 intro j hjl;dsimp only;repeat' (first|(first|refine zs ?_|fail)|refine ux ?_)
 refine bi rfl (λhl=>?_) (λhl=>?_)
 ·have hj:j<fp.rules.length:=by simpa using hl
  have mem:a6 fp.rules[j]∈fp.rules.map a6:=List.mem_map.2 ⟨_,Ag hj,rfl⟩;have len4:(fp.rules[j]).terms.length<=9223372036854775807:=by
   have:=lens2.2 _ mem (.slice 2 ((fp.rules[j]).terms.map aw)) (by simp [a6]) 2 _ rfl
   simpa using this
  have len5:(fp.rules[j]).body.length<=9223372036854775807:=by
   have:=lens2.2 _ mem (.slice 4 ((fp.rules[j]).body.map ay)) (by simp [a6]) 4 _ rfl
   simpa using this
  repeat' (first|(first|refine zs ?_|fail)|refine gu (h1:=hj) ?_|refine s7 ?_|refine s6 ?_)
  refine ak (ι:=Nat) (λh=>⟨3,[(1,.d (.int .i64 n)),(2,.rg B 0 (.slice 2 (l.map aa))),(3,.rg B 0 (.slice 2 (puts.map aa))),(4,.rg B 0 (.slice 2 (takes.map aa))),(5,.loc 0 0),(11,.rg B 0 (.slice 2 (l.map aa))),(12,.rg B 0 (.slice 2 (puts.map aa))),(13,.rg B 0 (.slice 2 (takes.map aa))),(14,.rg B 0 (.slice 2 (m.map aa))),(15,.d (.int .i64 e)),(16,.d (.int .i64 (i:Int))),(27,.loc 2 0),(37,.d (.int .i64 (j:Int))),(38,.d (.int .i64 (h:Int)))],[(0,.blk 26 [.rg B 0 (.slice 1 (p.arity.map ah)),.rg B 0 (.slice 1 (p.names.map dl)),.rg B 0 (.slice 5 (p.rules.map a6))]),(1,.blk 49 [.rg B 2 (.slice 2 (c4.map aa)),.rg B 2 (.slice 2 (w4.map aa))]),(2,.blk 26 [.rg B 2 (.slice 1 (fp.arity.map ah)),.rg B 2 (.slice 1 (fp.names.map dl)),.rg B 2 (.slice 5 (fp.rules.map a6))])]⟩)
   (λh=>h<=(fp.rules[j]).terms.length) (λh=>(fp.rules[j]).terms.length-h) 0 (Ai _) (ag id (by (repeat' (first|exact trivial|exact rfl|refine⟨?_,?_⟩))) ⟨rfl,rfl,rfl,trivial⟩ rfl rfl rfl rfl rfl rfl) ?_
  intro h hhl;dsimp only;repeat' (first|(first|refine zs ?_|fail)|refine ux ?_|refine gu (h1:=hj) ?_|refine s7 ?_|refine qz ?_)
  refine bi rfl (λhk=>?_) (λhk=>?_)
  ·have hh:h<(fp.rules[j]).terms.length:=by simpa using hk
   repeat' (first|(first|refine zs ?_|fail)|refine gu (h1:=hj) ?_|refine gu (h1:=hh) ?_|refine s7 ?_|refine qz ?_|refine s6 ?_)
   exact⟨h+1,hh,(ag id (by (repeat' (first|exact trivial|exact rfl|refine⟨?_,?_⟩))) ⟨rfl,rfl,rfl,trivial⟩ rfl rfl rfl rfl rfl rfl),by omega⟩
  repeat' (first|refine zs ?_|fail)
  refine ak (ι:=Nat) (λh=>⟨3,[(1,.d (.int .i64 n)),(2,.rg B 0 (.slice 2 (l.map aa))),(3,.rg B 0 (.slice 2 (puts.map aa))),(4,.rg B 0 (.slice 2 (takes.map aa))),(5,.loc 0 0),(11,.rg B 0 (.slice 2 (l.map aa))),(12,.rg B 0 (.slice 2 (puts.map aa))),(13,.rg B 0 (.slice 2 (takes.map aa))),(14,.rg B 0 (.slice 2 (m.map aa))),(15,.d (.int .i64 e)),(16,.d (.int .i64 (i:Int))),(27,.loc 2 0),(37,.d (.int .i64 (j:Int))),(39,.d (.int .i64 (h:Int)))],[(0,.blk 26 [.rg B 0 (.slice 1 (p.arity.map ah)),.rg B 0 (.slice 1 (p.names.map dl)),.rg B 0 (.slice 5 (p.rules.map a6))]),(1,.blk 49 [.rg B 2 (.slice 2 (c4.map aa)),.rg B 2 (.slice 2 (w4.map aa))]),(2,.blk 26 [.rg B 2 (.slice 1 (fp.arity.map ah)),.rg B 2 (.slice 1 (fp.names.map dl)),.rg B 2 (.slice 5 (fp.rules.map a6))])]⟩)
   (λh=>h<=(fp.rules[j]).body.length) (λh=>(fp.rules[j]).body.length-h) 0 (Ai _) (ag id (by (repeat' (first|exact trivial|exact rfl|refine⟨?_,?_⟩))) ⟨rfl,rfl,rfl,trivial⟩ rfl rfl rfl rfl rfl rfl) ?_
  intro h hhl;dsimp only;repeat' (first|(first|refine zs ?_|fail)|refine ux ?_|refine gu (h1:=hj) ?_|refine s7 ?_|refine qz ?_)
  refine bi rfl (λhk=>?_) (λhk=>?_)
  ·have hh:h<(fp.rules[j]).body.length:=by simpa using hk
   repeat' (first|(first|refine zs ?_|fail)|refine gu (h1:=hj) ?_|refine gu (h1:=hh) ?_|refine s7 ?_|refine qz ?_|refine s6 ?_)
   exact⟨h+1,hh,(ag id (by (repeat' (first|exact trivial|exact rfl|refine⟨?_,?_⟩))) ⟨rfl,rfl,rfl,trivial⟩ rfl rfl rfl rfl rfl rfl),by omega⟩
  repeat' (first|refine zs ?_|fail)
  exact⟨j+1,hj,(ag id (by (repeat' (first|exact trivial|exact rfl|refine⟨?_,?_⟩))) ⟨rfl,rfl,rfl,trivial⟩ rfl rfl rfl rfl rfl rfl),by omega⟩
 repeat' (first|refine zs ?_|fail)
 refine ak (ι:=Nat) (λj=>⟨3,[(1,.d (.int .i64 n)),(2,.rg B 0 (.slice 2 (l.map aa))),(3,.rg B 0 (.slice 2 (puts.map aa))),(4,.rg B 0 (.slice 2 (takes.map aa))),(5,.loc 0 0),(11,.rg B 0 (.slice 2 (l.map aa))),(12,.rg B 0 (.slice 2 (puts.map aa))),(13,.rg B 0 (.slice 2 (takes.map aa))),(14,.rg B 0 (.slice 2 (m.map aa))),(15,.d (.int .i64 e)),(16,.d (.int .i64 (i:Int))),(27,.loc 2 0),(40,.d (.int .i64 (j:Int)))],[(0,.blk 26 [.rg B 0 (.slice 1 (p.arity.map ah)),.rg B 0 (.slice 1 (p.names.map dl)),.rg B 0 (.slice 5 (p.rules.map a6))]),(1,.blk 49 [.rg B 2 (.slice 2 (c4.map aa)),.rg B 2 (.slice 2 (w4.map aa))]),(2,.blk 26 [.rg B 2 (.slice 1 (fp.arity.map ah)),.rg B 2 (.slice 1 (fp.names.map dl)),.rg B 2 (.slice 5 (fp.rules.map a6))])]⟩)
  (λj=>j<=fp.arity.length) (λj=>fp.arity.length-j) 0 (Ai _) (ag id (by (repeat' (first|exact trivial|exact rfl|refine⟨?_,?_⟩))) ⟨rfl,rfl,rfl,trivial⟩ rfl rfl rfl rfl rfl rfl) ?_
 intro j hjl;dsimp only;repeat' (first|(first|refine zs ?_|fail)|refine ux ?_)
 refine bi rfl (λhl=>?_) (λhl=>?_)
 ·have hj:j<fp.arity.length:=by simpa using hl
  repeat' (first|(first|refine zs ?_|fail)|refine gu (h1:=hj) ?_|refine s6 ?_)
  exact⟨j+1,hj,(ag id (by (repeat' (first|exact trivial|exact rfl|refine⟨?_,?_⟩))) ⟨rfl,rfl,rfl,trivial⟩ rfl rfl rfl rfl rfl rfl),by omega⟩
 repeat' (first|refine zs ?_|fail)
 exact⟨i+1,by omega,ent_transM ent_weakAll (ag id (by (repeat' (first|exact trivial|exact rfl|refine⟨?_,?_⟩))) ⟨rfl,trivial⟩ rfl rfl rfl rfl rfl rfl),by omega⟩
variable [Bnds]
theorem listOfR {R:Nat} {α:Type} {e:RT} {enc:α->List D} {p:α->Prop} (h:∀ x,vn R e x->∃ t,x=enc t/\p t):∀ (l:List (List D)),(∀ x∈l,vn R e x)->∃ ts:List α,l=ts.map enc/\∀ t∈ts,p t
 | [],_=>⟨[],rfl,by simp⟩
 | x::l,hl=>by
  obtain⟨t,rfl,ht⟩:=h x (hl x (List.mem_cons_self ..))
  obtain⟨ts,rfl,hts⟩:=listOfR h l λy hy=>hl y (List.mem_cons_of_mem _ hy)
  exact⟨t::ts,rfl,λu hu=>(List.mem_cons.1 hu).elim (λe=>e▸ht) (hts u)⟩
theorem oz {R:Nat} {α:Type} {c b:Nat} {e:RT} {enc:α->List D} {p:α->Prop} (h:∀ x,vn R e x->∃ t,x=enc t/\p t) (x:List D) (hx:vn R (.slice c b e) x):∃ ts:List α,x=[.slice c (ts.map enc)]/\ts.length*b<=R/\∀ t∈ts,p t:=by
 obtain⟨l,h1,_,rfl,h3⟩:=hx;obtain⟨ts,rfl,h4⟩:=listOfR h l h3;exact⟨ts,rfl,by rw [<- Aa (f:=enc)];exact h1,h4⟩
abbrev rtFctR:RT:=.struct [.int .i64,.slice 1 8 (.int .i64)]
theorem int_ofR {R:Nat} (x:List D) (h:vn R (.int .i64) x):∃ n:Int,x=ah n/\True:=by
 obtain⟨n,_,rfl⟩:=h;exact⟨n,rfl,trivial⟩
theorem fct_ofR {R:Nat} (x:List D) (h:vn R rtFctR x):∃ t:Fct,x=aa t/\t.args.length*8<=R:=by
 obtain⟨a,b,rfl,⟨k,_,rfl⟩,c,d,rfl,h2,rfl⟩:=h;obtain⟨l,rfl,hl,_⟩:=oz int_ofR c h2;exact⟨⟨k,l⟩,rfl,hl⟩
theorem fcts_argR {R:Nat} (x:List D) (h:vn R (.slice 2 32 rtFctR) x):∃ l:List Fct,RT.arg (.slice 2 32 rtFctR) x = .d (.slice 2 (l.map aa))/\l.length*32<=R/\∀ t∈l,t.args.length*8<=R:=by
 obtain⟨l,rfl,h1,h2⟩:=oz fct_ofR x h;exact⟨l,rfl,h1,h2⟩
variable [Bnds]
abbrev rtTrmR:RT:=.struct [.int .i64,.int .i64]
abbrev rtLtlR:RT:=.struct [.int .i64,.int .i64,.int .i64,.slice 2 16 rtTrmR]
abbrev rtRulR:RT:=.struct [.int .i64,.slice 2 16 rtTrmR,.int .i64,.slice 4 48 rtLtlR,.int .i64]
abbrev rtPrgR:RT:=.struct [.slice 1 8 (.int .i64),.slice 1 16 .str,.slice 5 72 rtRulR]
theorem str_ofR {R:Nat} (x:List D) (h:vn R .str x):∃ n:ByteArray,x=dl n/\True:=by
 obtain⟨n,_,rfl⟩:=h;exact⟨n,rfl,trivial⟩
theorem trm_ofR {R:Nat} (x:List D) (h:vn R rtTrmR x):∃ t:Trm,x=aw t/\True:=by
 obtain⟨a,b,rfl,⟨k,_,rfl⟩,c,d,rfl,⟨p,_,rfl⟩,rfl⟩:=h;exact⟨⟨k,p⟩,rfl,trivial⟩
theorem ltl_ofR {R:Nat} (x:List D) (h:vn R rtLtlR x):∃ t:Ltl,x=ay t/\True:=by
 obtain⟨a,b,rfl,⟨k,_,rfl⟩,c,d,rfl,⟨p,_,rfl⟩,e,f,rfl,⟨q,_,rfl⟩,g,i,rfl,h4,rfl⟩:=h;obtain⟨l,rfl,_⟩:=oz trm_ofR g h4;exact⟨⟨k,p,q,l⟩,rfl,trivial⟩
theorem rul_ofR {R:Nat} (x:List D) (h:vn R rtRulR x):∃ t:Rul,x=a6 t/\True:=by
 obtain⟨a,b,rfl,⟨k,_,rfl⟩,c,d,rfl,h2,e,f,rfl,⟨q,_,rfl⟩,g,i,rfl,h4,j,m,rfl,⟨v,_,rfl⟩,rfl⟩:=h;obtain⟨l,rfl,_⟩:=oz trm_ofR c h2;obtain⟨n,rfl,_⟩:=oz ltl_ofR g h4;exact⟨⟨k,l,q,n,v⟩,rfl,trivial⟩
theorem prg_argR {R:Nat} (x:List D) (h:vn R rtPrgR x):∃ p:Prg,RT.arg rtPrgR x=db p:=by
 obtain⟨c,d,rfl,h2,e,f,rfl,h3,g,h,rfl,h4,rfl⟩:=h;obtain⟨l,rfl,_⟩:=oz int_ofR c h2;obtain⟨m,rfl,_⟩:=oz str_ofR e h3;obtain⟨n,rfl,_⟩:=oz rul_ofR g h4;exact⟨⟨l,m,n⟩,rfl⟩
end
section
open Go Go.RowKit
variable [Bnds]
section
variable {H : Type} {P : Program} {M : Nat}
theorem bulk_pos (d:DataW H):1<=Rows.uptoBulk d:=by
 cases d with
 | lit l=>cases l<;>simp [Rows.uptoBulk]
 | _=>simp [Rows.uptoBulk]
theorem bulk_len:∀ l:List (DataW H),l.length<=Rows.uptoBulkAll l
 | []=>by simp
 | x::r=>by
  have h1:=bulk_pos x
  have h2:=bulk_len r
  simp only [Rows.uptoBulkAll,List.length_cons];omega
theorem vc {n a b M:Nat} (h:n<=a*M) (g:a<=b):n<=b*M:=Ar h (Bc M g)
theorem rx {e:TypeId} (h:∀ (d:DataW H),∀ n∈d.weights P e,n<=Rows.uptoBulk d*M):∀ (l:List (DataW H)),∀ n∈DataW.weightsAll P e l,n<=Rows.uptoBulkAll l*M
 | [],n,hn=>by simp [DataW.weightsAll] at hn
 | d::r,n,hn=>by
  simp only [DataW.weightsAll,Bq] at hn
  rcases hn with hn|hn
  ·exact vc (h d n hn) (by simp only [Rows.uptoBulkAll];omega)
  ·exact vc (rx h r n hn) (by simp only [Rows.uptoBulkAll];omega)
mutual
def RT.fits (M:Nat):RT->Bool
 | .struct fs=>RT.fitsL M fs
 | .slice _ b e=>Nat.ble b M && e.fits M
 | .bool=>true
 | .int _=>true
 | .str=>true
def RT.fitsL (M:Nat):List RT->Bool
 | []=>true
 | r::rs=>r.fits M && RT.fitsL M rs
end
theorem plain_le {t:TypeId} (h1:1<=M) (h2:∀ e,P.underlying t≠some (.pointer e)) (h3:∀ e,P.underlying t≠some (.slice e)) (h4:∀ e,P.underlying t≠some (.struct e)) (h5:∀ n e,P.underlying t≠some (.array n e)) (h6:∀ k e,P.underlying t≠some (.map k e)) (d:DataW H):∀ n∈d.weights P t,n<=Rows.uptoBulk d*M:=by
 intro n hn;cases d with
 | lit l =>
  cases l with
  | string b =>
   simp only [DataW.weights,A5] at hn;subst hn;simp only [Rows.uptoBulk];exact vc (a:=b.length) (Fz _ h1) (by omega)
  | _=>simp [DataW.weights] at hn
 | _ =>
  simp only [DataW.weights] at hn;first
   | (simp at hn;done)
   | (split at hn<;>first|(rename_i hh;exact absurd hh (by first|exact h2 _|exact h3 _|exact h4 _|exact h5 _ _|exact h6 _ _))|(simp at hn;done))
theorem string_le {b:List UInt8} (h1:1<=M) {t:TypeId}:∀ n∈DataW.weights (H:=H) P t (.lit (.string b)),n<=Rows.uptoBulk (DataW.lit (H:=H) (.string b))*M:=by
 intro n hn;simp only [DataW.weights,A5] at hn;subst hn;simp only [Rows.uptoBulk];exact vc (a:=b.length) (Fz _ h1) (by omega)
mutual
theorem tj (h1:1<=M):∀ (r:RT) (t:TypeId) (d:DataW H),rtB P r t=true->r.fits M=true->∀ n∈d.weights P t,n<=Rows.uptoBulk d*M
 | .bool,t,d,hb,_=>by
  have ht:P.underlying t=some .bool:=by
   unfold rtB at hb;split at hb<;>first|assumption|cases hb
  refine plain_le h1 ?_ ?_ ?_ ?_ ?_ d<;>(intros;rw [ht];simp)
 | .int k,t,d,hb,_=>by
  have ht:P.underlying t=some (.int k):=by
   unfold rtB at hb;split at hb
   ·rename_i k' hk;rw [hk,lz hb]
   ·cases hb
  refine plain_le h1 ?_ ?_ ?_ ?_ ?_ d<;>(intros;rw [ht];simp)
 | .str,t,d,hb,_=>by
  have ht:P.underlying t=some .string:=by
   unfold rtB at hb;split at hb<;>first|assumption|cases hb
  refine plain_le h1 ?_ ?_ ?_ ?_ ?_ d<;>(intros;rw [ht];simp)
 | .slice c b e,t,d,hb,hf=>by
  obtain⟨te,ht,hby,hre⟩:∃ te,P.underlying t=some (.slice te)/\P.bytesOf te=b/\rtB P e te=true:=by
   unfold rtB at hb;split at hb
   ·rename_i te ht;simp only [Ad] at hb;exact⟨te,ht,Nat.eq_of_beq_eq_true hb.2.1,hb.2.2.2.2⟩
   ·cases hb
  simp only [RT.fits,Ad] at hf;have hbm:=Nat.le_of_ble_eq_true hf.1;intro n hn;cases d with
  | slice elems spare =>
   simp only [DataW.weights,ht,Be,Bq] at hn;rcases hn with rfl|hn|hn
   ·have g1:=bulk_len elems;have g2:=bulk_len spare;rw [hby];refine Ar (Nat.mul_le_mul_left _ hbm) (Bc M ?_);simp only [Rows.uptoBulk];omega
   ·exact vc (rx (λd=>tj h1 e te d hre hf.2) elems n hn) (by simp only [Rows.uptoBulk];omega)
   ·exact vc (rx (λd=>tj h1 e te d hre hf.2) spare n hn) (by simp only [Rows.uptoBulk];omega)
  | lit l =>
   cases l with
   | string b=>exact string_le h1 n hn
   | _=>simp [DataW.weights] at hn
  | _=>simp [DataW.weights,ht] at hn
 | .struct fs,t,d,hb,hf=>by
  obtain⟨fl,ht,hfl⟩:∃ fl,P.underlying t=some (.struct fl)/\rtL P fs fl.toList 0=true:=by
   unfold rtB at hb;split at hb
   ·rename_i fl ht;simp only [Ad] at hb;exact⟨fl,ht,hb.1⟩
   ·cases hb
  simp only [RT.fits] at hf;intro n hn;cases d with
  | agg parts =>
   simp only [DataW.weights,ht] at hn;exact vc (weightsL_le h1 fs fl.toList 0 parts hfl hf n hn) (by simp only [Rows.uptoBulk];omega)
  | lit l =>
   cases l with
   | string b=>exact string_le h1 n hn
   | _=>simp [DataW.weights] at hn
  | _=>simp [DataW.weights,ht] at hn
theorem weightsL_le (h1:1<=M):∀ (rs:List RT) (fl:List Field) (o:Nat) (ds:List (DataW H)),rtL P rs fl o=true->RT.fitsL M rs=true->∀ n∈DataW.weightsEach P (fl.map (·.type)) ds,n<=Rows.uptoBulkAll ds*M
 | [],[],_,ds,_,_=>by intro n hn;simp [DataW.weightsEach] at hn
 | [],_::_,_,_,hb,_=>by simp [rtL] at hb
 | _::_,[],_,_,hb,_=>by simp [rtL] at hb
 | r::rs,f::fl,o,[],_,_=>by intro n hn;simp [DataW.weightsEach] at hn
 | r::rs,f::fl,o,d::ds,hb,hf=>by
  simp only [rtL,Ad] at hb
  simp only [RT.fitsL,Ad] at hf
  intro n hn
  simp only [List.map_cons,DataW.weightsEach,Bq] at hn
  rcases hn with hn|hn
  ·exact vc (tj h1 r f.type d hb.2.2.1 hf.1 n hn) (by simp only [Rows.uptoBulkAll];omega)
  ·exact vc (weightsL_le h1 rs fl _ ds hb.2.2.2 hf.2 n hn) (by simp only [Rows.uptoBulkAll];omega)
end
theorem weightsR_le (h1:1<=M):∀ (rs:List RT) (ts:List TypeId) (ds:List (DataW H)),rtsB P rs ts=true->RT.fitsL M rs=true->∀ n∈DataW.weightsEach P ts ds,n<=Rows.uptoBulkAll ds*M
 | [],[],ds,_,_=>by intro n hn;simp [DataW.weightsEach] at hn
 | [],_::_,_,hb,_=>by simp [rtsB] at hb
 | _::_,[],_,hb,_=>by simp [rtsB] at hb
 | r::rs,t::ts,[],_,_=>by intro n hn;simp [DataW.weightsEach] at hn
 | r::rs,t::ts,d::ds,hb,hf=>by
  simp only [rtsB,Ad] at hb
  simp only [RT.fitsL,Ad] at hf
  intro n hn
  simp only [DataW.weightsEach,Bq] at hn
  rcases hn with hn|hn
  ·exact vc (tj h1 r t d hb.1 hf.1 n hn) (by simp only [Rows.uptoBulkAll];omega)
  ·exact vc (weightsR_le h1 rs ts ds hb.2 hf.2 n hn) (by simp only [Rows.uptoBulkAll];omega)
theorem upto_weights {rs:List RT} {ts:List TypeId} {ds:List (DataW H)} (hb:rtsB P rs ts=true) (hf:RT.fitsL 4096 rs=true) (hk:Rows.uptoSmall H ds=true):∀ n∈DataW.weightsEach P ts ds,n<=4294967296:=by
 intro n hn;have hb2:Rows.uptoBulkAll ds<=1048576:=of_decide_eq_true hk;have:=vc (weightsR_le (by decide) rs ts ds hb hf n hn) hb2
 omega
end
end
end Go.Proofs.YtapciiffpnociadGreat
