/- Several texts in one: RuP RuA RuQ RuB RuR RuC RuD. Condition: none. -/
import Derived.Test.YtapciiffpnociadGreatT02
import Derived.Test.YtapciiffpnociadGreatT11
import Derived.Test.YtapciiffpnociadGreatT18
import Derived.Test.YtapciiffpnociadGreatT10
set_option maxHeartbeats 8000000
open Bool renaming and_eq_true→Ae,false_and→Dw,false_or→B9,or_eq_true→Dz,true_and→Df
open List renaming all_cons→Do,all_eq_true→B5,drop_eq_getElem_cons→Am,drop_of_length_le→As,drop_succ_cons→Ff,drop_zero→E3,findIdx_getElem→D6,findIdx_lt_length_of_exists→Ez,foldlM_cons→F9,foldl_cons→Bf,foldl_nil→H8,getD→A6,getD_cons_succ→Eh,getD_cons_zero→Ei,getElem?_eq_getElem→Ad,getElem?_eq_none→A8,getElem?_map→Bg,getElem?_set_ne→Ce,getElem?_set_self→B4,getElem_mem→Aj,length_drop→A7,length_eraseIdx→D7,length_map→Aa,length_set→Ba,length_take→Aq,map_append→Ar,map_cons→A3,map_nil→Db,map_set→C3,mem_cons_of_mem→Ag,mem_cons_self→Ac,mem_of_mem_drop→B2,mem_singleton→A1,take_of_length_le→Ai,take_succ_eq_append_getElem→An
open Nat renaming zero_le→Ak
namespace Go.Proofs.YtapciiffpnociadGreat
abbrev RE:=List (Option Int)
def vOf (e:RE) (t:Trm):Option Int:=if t.var<0 then some t.n else e.getD t.var.toNat none
def vA (a:List Int) (t:Trm):Int:=if t.var<0 then t.n else a.getD t.var.toNat 0
def bx (e:RE):List Bool:=e.map Option.isSome
def bq (e:RE):List Int:=e.map λx=>x.getD 0
def kf (e:RE) (a:List Int):Prop:=a.length=e.length/\∀ (v:Nat) (x:Int),e[v]?=some (some x)->a[v]?=some x
def cw:RE->List Trm->List Int->Option RE
 | e,t::ts,n::ns=>match vOf e t with
  | some x=>if x=n then cw e ts ns else none
  | none=>cw (e.set t.var.toNat (some n)) ts ns
 | e,_,_=>some e
theorem cx (e:RE):(bx e).length=e.length:=Aa _
theorem dx (e:RE):(bq e).length=e.length:=Aa _
theorem qu (e:RE) (t:Trm):isT (bx e) t=(vOf e t).isSome:=by
 unfold isT vOf bx;by_cases h:t.var<0
 ·simp [h]
 ·simp only [h,decide_false,B9,if_false,A6,Bg];cases e[t.var.toNat]?<;>rfl
theorem vOf_out {e:RE} {t:Trm} {x:Int} (h:vOf e t=some x):vA (bq e) t=x:=by
 unfold vOf at h;unfold vA bq;by_cases hv:t.var<0
 ·simp [hv] at h ⊢;exact h
 ·simp only [hv,if_false,A6,Bg] at h ⊢;cases he:e[t.var.toNat]? with
  | none=>rw [he] at h;simp at h
  | some y=>rw [he] at h;simp at h;subst h;rfl
theorem vOf_ext {e:RE} {a:List Int} {t:Trm} {x:Int} (h:kf e a) (hx:vOf e t=some x):vA a t=x:=by
 unfold vOf at hx;unfold vA;by_cases hv:t.var<0
 ·simp [hv] at hx ⊢;exact hx
 ·simp only [hv,if_false,A6] at hx ⊢;cases he:e[t.var.toNat]? with
  | none=>rw [he] at hx;simp at hx
  | some y =>
   rw [he] at hx;simp at hx;subst hx;rw [h.2 _ _ he];rfl
theorem vA_same {e:RE} {a:List Int} {t:Trm} (h:kf e a) (hx:(vOf e t).isSome=true):vA a t=vA (bq e) t:=by
 obtain⟨x,hx⟩:=Option.isSome_iff_exists.1 hx;rw [vOf_ext h hx,vOf_out hx]
theorem set_ext' {e:RE} {a:List Int} {t:Trm} {n:Int} (ho:okT e.length t) (hn:vOf e t=none):kf (e.set t.var.toNat (some n)) a↔kf e a/\vA a t=n:=by
 unfold vOf at hn;unfold okT at ho;have hv:¬ t.var<0:=λh=>by simp [h] at hn
 simp only [hv,if_false,A6] at hn;have hlt:t.var.toNat<e.length:=by omega
 have he:e[t.var.toNat]?=some none:=by
  rw [Ad hlt] at hn ⊢;simpa using hn
 unfold kf vA;rw [Ba];simp only [hv,if_false];constructor
 ·rintro⟨h1,h2⟩;have h3:=h2 t.var.toNat n (by rw [B4 hlt]);refine⟨⟨h1,λv x hx=>?_⟩,by rw [A6,h3];rfl⟩
  by_cases hq:t.var.toNat=v
  ·subst hq;rw [he] at hx;cases hx
  ·exact h2 v x (by rw [Ce hq];exact hx)
 ·rintro⟨⟨h1,h2⟩,h3⟩;refine⟨h1,λv x hx=>?_⟩
  by_cases hq:t.var.toNat=v
  ·subst hq;rw [B4 hlt] at hx;simp at hx;subst hx;rw [A6,Ad (by omega)] at h3;rw [Ad (by omega)];simpa using h3
  ·exact h2 v x (by rw [Ce hq] at hx;exact hx)
theorem set_has {e:RE} {t:Trm} {n:Int} (hn:vOf e t=none):bx (e.set t.var.toNat (some n))=ji (bx e) t:=by
 have hv:¬ t.var<0:=λh=>by unfold vOf at hn;simp [h] at hn
 unfold bx ji;rw [if_neg hv,C3];rfl
theorem f9:∀ {ts:List Trm} {ns:List Int} {e e':RE},ts.length=ns.length->(∀ t∈ts,okT e.length t)->cw e ts ns=some e' ->
  e'.length=e.length/\(∀ a,kf e' a↔kf e a/\ts.map (vA a)=ns)/\bx e'=ts.foldl ji (bx e)
 | [],[],e,e',_,_,h=>by
  simp only [cw,Option.some.injEq] at h;subst h;exact⟨rfl,λa=>by simp,rfl⟩
 | t::ts,n::ns,e,e',hl,ho,h=>by
  have hl':ts.length=ns.length:=by simpa using hl
  rw [cw] at h;cases hv:vOf e t with
  | some x =>
   rw [hv] at h;simp only at h;split at h
   ·rename_i hx;subst hx;obtain⟨h1,h2,h3⟩:=f9 hl' (λy hy=>ho y (Ag _ hy)) h;refine⟨h1,λa=>?_,?_⟩
    ·rw [h2,A3,List.cons.injEq];exact⟨fun⟨g1,g2⟩=>⟨g1,vOf_ext g1 hv,g2⟩,fun⟨g1,_,g2⟩=>⟨g1,g2⟩⟩
    ·rw [h3,Bf,pz (by rw [qu,hv];rfl)]
   ·cases h
  | none =>
   rw [hv] at h;simp only at h;obtain⟨h1,h2,h3⟩:=f9 hl' (λy hy=>by rw [Ba];exact ho y (Ag _ hy)) h;refine⟨by rw [h1,Ba],λa=>?_,?_⟩
   ·rw [h2,set_ext' (ho t (Ac ..)) hv,A3,List.cons.injEq,and_assoc]
   ·rw [h3,Bf,set_has hv]
 | [],_::_,_,_,hl,_,_=>by simp at hl
 | _::_,[],_,_,hl,_,_=>by simp at hl
theorem rq:∀ {ts:List Trm} {ns:List Int} {e:RE},ts.length=ns.length->(∀ t∈ts,okT e.length t)->cw e ts ns=none->∀ a,kf e a->ts.map (vA a)≠ns
 | [],[],e,_,_,h,_,_=>by simp [cw] at h
 | t::ts,n::ns,e,hl,ho,h,a,ha=>by
  have hl':ts.length=ns.length:=by simpa using hl
  rw [cw] at h;intro hm;rw [A3,List.cons.injEq] at hm;cases hv:vOf e t with
  | some x =>
   rw [hv] at h;simp only at h;split at h
   ·exact rq hl' (λy hy=>ho y (Ag _ hy)) h a ha hm.2
   ·rename_i hx;exact hx ((vOf_ext ha hv).symm.trans hm.1)
  | none =>
   rw [hv] at h;simp only at h;exact rq hl' (λy hy=>by rw [Ba];exact ho y (Ag _ hy)) h a ((set_ext' (ho t (Ac ..)) hv).2 ⟨ha,hm.1⟩) hm.2
 | [],_::_,_,hl,_,_,_,_=>by simp at hl
 | _::_,[],_,hl,_,_,_,_=>by simp at hl
def zo (op a b:Int):Bool:=if op=1 then decide (a<b) else if op=2 then decide (a<=b) else if op=3 then decide (a=b) else decide (a≠b)
def mt (op a b:Int):Int:=if op=5 then a+b else if op=6 then a-b else a*b
def kx (l:Ltl) (a:List Int):Int:=mt l.op ((l.terms.map (vA a)).getD 0 0) ((l.terms.map (vA a)).getD 1 0)
def holdE (S:List Fct) (l:Ltl) (a:List Int):Bool :=
 if l.kind=1 then hasF S ⟨l.pred,l.terms.map (vA a)⟩
 else if l.kind=2 then !hasF S ⟨l.pred,l.terms.map (vA a)⟩
 else if l.kind=3 then zo l.op ((l.terms.map (vA a)).getD 0 0) ((l.terms.map (vA a)).getD 1 0)
 else numB (kx l a) && decide (kx l a=(l.terms.map (vA a)).getD 2 0)
theorem map_same {e:RE} {a:List Int} (h:kf e a) {ts:List Trm} (hr:∀ t∈ts,(vOf e t).isSome=true):ts.map (vA a)=ts.map (vA (bq e)) :=
 List.map_congr_left λt ht=>vA_same h (hr t ht)
theorem holdE_same {S:List Fct} {l:Ltl} {e:RE} {a:List Int} (h:kf e a) (hr:∀ t∈l.terms,(vOf e t).isSome=true):holdE S l a=holdE S l (bq e):=by
 unfold holdE kx;rw [map_same h hr]
structure okL (S:List Fct) (v:Nat) (l:Ltl):Prop where
 kind:1<=l.kind/\l.kind<=4
 terms:∀ t∈l.terms,okT v t
 test2:l.kind=3->l.terms.length=2
 calc3:l.kind=4->l.terms.length=3
 facts:l.kind=1->∀ x∈S,x.pred=l.pred->x.args.length=l.terms.length
def ze (body:List Ltl) (bs:List Bool):Prop:=∀ l∈body,co bs l=true->∀ t∈d8 l,isT bs t=true
def Bd (body:List Ltl) (bs:List Bool):Prop:=∀ cs,leB bs cs->ze body cs->∀ v,v<cs.length->cs.getD v false=true
theorem full_out {e:RE} (h:∀ v,v<(bx e).length->(bx e).getD v false=true) (a:List Int):kf e a↔a=bq e:=by
 rw [cx] at h;have he:∀ v,v<e.length->∃ x,e[v]?=some (some x):=λv hv=>by
  have:=h v hv
  unfold bx at this;rw [A6,Bg,Ad hv] at this;simp at this;obtain⟨x,hx⟩:=Option.isSome_iff_exists.1 this;exact⟨x,by rw [Ad hv,hx]⟩
 constructor
 ·rintro⟨h1,h2⟩;refine List.ext_getElem? λv=>?_
  by_cases hv:v<e.length
  ·obtain⟨x,hx⟩:=he v hv;rw [h2 v x hx];unfold bq;rw [Bg,hx];rfl
  ·rw [A8 (by omega),A8 (by rw [dx];omega)]
 ·rintro rfl;refine⟨dx e,λv x hx=>?_⟩
  unfold bq;rw [Bg,hx];rfl
theorem full_some {e:RE} (h:∀ v,v<(bx e).length->(bx e).getD v false=true) {t:Trm} (ho:okT e.length t):(vOf e t).isSome=true:=by
 rw [<- qu];unfold isT;unfold okT at ho;by_cases hv:t.var<0
 ·rw [decide_eq_true hv];rfl
 ·rw [h _ (by rw [cx];omega),Bool.or_true]
open Go Go.RowKit
theorem numB_iff {n:Int}:numB n=true↔-1000000<=n/\n<=1000000:=by unfold numB inR;simp
theorem mul_small {a b:Int} (ha:-1000000<=a/\a<=1000000) (hb:-1000000<=b/\b<=1000000):-1000000000000<=a*b/\a*b<=1000000000000:=by
 have h1:a.natAbs<=1000000:=by omega
 have h2:b.natAbs<=1000000:=by omega
 have h3:(a*b).natAbs<=1000000*1000000:=by rw [Int.natAbs_mul];exact Nat.mul_le_mul h1 h2
 omega
attribute [local irreducible] DW DS DL DQ Ev FnOk FnP ef bt DT
theorem calcOf_fn (op a b:Int) (ha:-1000000<=a/\a<=1000000) (hb:-1000000<=b/\b<=1000000):Fn 263 [.d (.int .i64 op),.d (.int .i64 a),.d (.int .i64 b)] (λr=>r = .d (.int .i64 (mt op a b))):=by
 refine fqE Tryz.func263 ?_;intro O w0 E0 β0;have hm:=mul_small ha hb;unfold mt;by_cases h5:op=5
 ·rw [if_pos h5];repeat' (first|refine zr ?_|(refine zm ?_ ?_<;>intro hg)|(exfalso;omega))
  all_goals exact⟨.inl rfl,_,rfl,rfl,rfl⟩
 ·rw [if_neg h5];by_cases h6:op=6
  ·rw [if_pos h6];repeat' (first|refine zr ?_|(refine zm ?_ ?_<;>intro hg)|(exfalso;omega))
   all_goals exact⟨.inl rfl,_,rfl,rfl,rfl⟩
  ·rw [if_neg h6];repeat' (first|refine zr ?_|(refine zm ?_ ?_<;>intro hg)|(exfalso;omega))
   exact⟨.inl rfl,_,rfl,rfl,rfl⟩
theorem isReady_fn (l:List Trm) (bs:List Bool) (hok:∀ t∈l,okT bs.length t):Fn 262 [.d (.slice 2 (l.map av)),.d (.slice 1 (bs.map cu))] (λr=>r = .d (.bool (l.all (isT bs)))):=by
 refine fqE Tryz.func262 ?_;intro O w0 E0 β0;have ll:(l.map av).length=l.length:=Aa _;have lb:(bs.map cu).length=bs.length:=Aa _;refine o9 (t:=0) rfl (λhk=>?_);repeat' (first|refine zs ?_|fail)
 refine ag (ι:=Nat) (λi=>⟨0,[(0,.d (.slice 2 (l.map av))),(1,.d (.slice 1 (bs.map cu))),(5,.d (.int .i64 i))],[]⟩)
  (λi=>i<=l.length/\l.all (isT bs)=(l.drop i).all (isT bs)) (λi=>l.length-i) 0 ⟨Ak _,rfl⟩ (er id) ?_
 rintro i ⟨g1,g2⟩;dsimp only at g1 g2 ⊢;by_cases hi:i<l.length
 ·have ho:=hok l[i] (Aj hi);unfold okT at ho;rw [Am hi,Do] at g2;by_cases hv:l[i].var<0
  ·have ht:isT bs l[i]=true:=by unfold isT;rw [decide_eq_true hv];rfl
   rw [ht,Df] at g2;repeat' (first|refine zs ?_|(refine zm ?_ ?_<;>intro hg)|(exfalso;omega))
   all_goals exact⟨i+1,⟨hi,g2⟩,er id,by omega⟩
  ·have hlt:l[i].var.toNat<bs.length:=by omega
   have hve:l[i].var=((l[i].var.toNat:Nat):Int):=by omega
   have ht:isT bs l[i]=bs[l[i].var.toNat]:=by
    unfold isT;rw [decide_eq_false hv,B9,A6,Ad hlt];rfl
   rw [ht] at g2;cases hb:bs[l[i].var.toNat] with
   | false =>
    rw [hb,Dw] at g2;rw [g2];repeat' (first|refine zr ?_|(refine zm ?_ ?_<;>intro hg)|(exfalso;omega))
    all_goals try (exfalso;rw [hb] at hg;cases hg;done)
    exact⟨.inl rfl,_,rfl,rfl,rfl⟩
   | true =>
    rw [hb,Df] at g2;repeat' (first|refine zs ?_|(refine zm ?_ ?_<;>intro hg)|(exfalso;omega))
    all_goals try (exfalso;rw [hb] at hg;cases hg;done)
    exact⟨i+1,⟨hi,g2⟩,er id,by omega⟩
 ·rw [As (by omega)] at g2;rw [g2];repeat' (first|refine zr ?_|(refine zm ?_ ?_<;>intro hg)|(exfalso;omega))
  exact⟨.inl rfl,_,rfl,rfl,rfl⟩
theorem isReadyR_fn (l:List Trm) (bs:List Bool) (hok:∀ t∈l,okT bs.length t):FnOk false Tryz.prog tab b9 262 [.d (.slice 2 (l.map av)),.row 0] 1 1 [(0,.row 4 1 (bs.map cu))] (λ_ r H=>r = .d (.bool (l.all (isT bs)))/\H=[(0,.row 4 1 (bs.map cu))]):=by
 refine frE Tryz.func262 ?_;intro O w0 E0 β0;have ll:(l.map av).length=l.length:=Aa _;have lb:(bs.map cu).length=bs.length:=Aa _;refine o9 (t:=0) rfl (λhk=>?_);repeat' (first|refine zs ?_|fail)
 refine ag (ι:=Nat) (λi=>⟨1,[(0,.d (.slice 2 (l.map av))),(1,.row 0),(5,.d (.int .i64 i))],[(0,.row 4 1 (bs.map cu))]⟩)
  (λi=>i<=l.length/\l.all (isT bs)=(l.drop i).all (isT bs)) (λi=>l.length-i) 0 ⟨Ak _,rfl⟩ (er id) ?_
 rintro i ⟨g1,g2⟩;dsimp only at g1 g2 ⊢;by_cases hi:i<l.length
 ·have ho:=hok l[i] (Aj hi);unfold okT at ho;rw [Am hi,Do] at g2;by_cases hv:l[i].var<0
  ·have ht:isT bs l[i]=true:=by unfold isT;rw [decide_eq_true hv];rfl
   rw [ht,Df] at g2;repeat' (first|refine zs ?_|(refine zm ?_ ?_<;>intro hg)|(exfalso;omega))
   all_goals exact⟨i+1,⟨hi,g2⟩,er id,by omega⟩
  ·have hlt:l[i].var.toNat<bs.length:=by omega
   have hve:l[i].var=((l[i].var.toNat:Nat):Int):=by omega
   have ht:isT bs l[i]=bs[l[i].var.toNat]:=by
    unfold isT;rw [decide_eq_false hv,B9,A6,Ad hlt];rfl
   rw [ht] at g2;cases hb:bs[l[i].var.toNat] with
   | false =>
    rw [hb,Dw] at g2;rw [g2];repeat' (first|refine zr ?_|(refine zm ?_ ?_<;>intro hg)|(exfalso;omega))
    all_goals try (exfalso;rw [hb] at hg;cases hg;done)
    exact⟨.inl rfl,_,rfl,kp id 1 _ ([(0,.row 4 1 (bs.map cu))]) ⟨rfl,rfl⟩⟩
   | true =>
    rw [hb,Df] at g2;repeat' (first|refine zs ?_|(refine zm ?_ ?_<;>intro hg)|(exfalso;omega))
    all_goals try (exfalso;rw [hb] at hg;cases hg;done)
    exact⟨i+1,⟨hi,g2⟩,er id,by omega⟩
 ·rw [As (by omega)] at g2;rw [g2];repeat' (first|refine zr ?_|(refine zm ?_ ?_<;>intro hg)|(exfalso;omega))
  exact⟨.inl rfl,_,rfl,kp id 1 _ ([(0,.row 4 1 (bs.map cu))]) ⟨rfl,rfl⟩⟩
theorem zh (l:List Trm) (a:List Int) (hok:∀ t∈l,okT a.length t) (hl:l.length<=4398046511104):Fn 162 [.d (.slice 2 (l.map av)),.d (.slice 1 (a.map aq))] (λr=>r = .d (.slice 1 ((l.map (vA a)).map aq))):=by
 refine fqE Tryz.func162 ?_;intro O w0 E0 β0;have ll:(l.map av).length=l.length:=Aa _;have la:(a.map aq).length=a.length:=Aa _;repeat' (first|refine zs ?_|fail)
 refine ak (cd (t:=5) 3 1 rfl) ?_;refine ag (ι:=Nat) (λi=>⟨1,[(0,.d (.slice 2 (l.map av))),(1,.d (.slice 1 (a.map aq))),(5,.row 0),(6,.d (.int .i64 i))],(0,.row 3 1 (((l.take i).map (vA a)).map aq))::[]⟩)
  (λi=>i<=l.length) (λi=>l.length-i) 0 (Ak _) (er id) ?_
 intro i g1;by_cases hi:i<l.length
 ·have ho:=hok l[i] (Aj hi);unfold okT at ho;have lr:(((l.take i).map (vA a)).map aq).length=i:=by rw [Aa,Aa,Aq];omega
  have hst:((l.take (i+1)).map (vA a)).map aq=((l.take i).map (vA a)).map aq++[aq (vA a l[i])]:=by rw [An hi,Ar,Ar];rfl
  by_cases hv:l[i].var<0
  ·have ht:vA a l[i]=l[i].n:=by unfold vA;rw [if_pos hv]
   rw [ht] at hst;repeat' (first|refine zs ?_|(refine zm ?_ ?_<;>intro hg)|(exfalso;omega))
   exact⟨i+1,by omega,ai (λ_=>1) ⟨rfl,rfl,rfl,rfl,trivial⟩ ⟨by rw [hst];rfl,trivial⟩ rfl rfl rfl rfl rfl rfl,by omega⟩
  ·have hlt:l[i].var.toNat<a.length:=by omega
   have ht:vA a l[i]=a[l[i].var.toNat]:=by
    unfold vA;rw [if_neg hv,A6,Ad hlt];rfl
   rw [ht] at hst;repeat' (first|refine zs ?_|(refine zm ?_ ?_<;>intro hg)|(exfalso;omega))
   exact⟨i+1,by omega,ai (λ_=>1) ⟨rfl,rfl,rfl,rfl,trivial⟩ ⟨by rw [hst];rfl,trivial⟩ rfl rfl rfl rfl rfl rfl,by omega⟩
 ·rw [Ai (by omega)];repeat' (first|refine zs ?_|(refine zm ?_ ?_<;>intro hg)|(exfalso;omega))
  refine ak (bh 4 rfl rfl rfl) ?_;repeat' (apply c9)
  exact⟨.inl rfl,_,rfl,rfl,rfl⟩
theorem argsOfR_fn (l:List Trm) (a:List Int) (hok:∀ t∈l,okT a.length t) (hl:l.length<=4398046511104):FnOk false Tryz.prog tab b9 162 [.d (.slice 2 (l.map av)),.row 0] 1 1 [(0,.row 3 1 (a.map aq))] (λ_ r H=>r = .d (.slice 1 ((l.map (vA a)).map aq))/\H=[(0,.row 3 1 (a.map aq))]):=by
 refine frE Tryz.func162 ?_;intro O w0 E0 β0;have ll:(l.map av).length=l.length:=Aa _;have la:(a.map aq).length=a.length:=Aa _;repeat' (first|refine zs ?_|fail)
 refine ak (cd (t:=5) 3 1 rfl) ?_;refine ag (ι:=Nat) (λi=>⟨2,[(0,.d (.slice 2 (l.map av))),(1,.row 0),(5,.row 1),(6,.d (.int .i64 i))],(1,.row 3 1 (((l.take i).map (vA a)).map aq))::[(0,.row 3 1 (a.map aq))]⟩)
  (λi=>i<=l.length) (λi=>l.length-i) 0 (Ak _) (ai id ⟨rfl,rfl,rfl,rfl,trivial⟩ ⟨rfl,⟨rfl,trivial⟩⟩ rfl rfl rfl rfl rfl rfl) ?_
 intro i g1;by_cases hi:i<l.length
 ·have ho:=hok l[i] (Aj hi);unfold okT at ho;have lr:(((l.take i).map (vA a)).map aq).length=i:=by rw [Aa,Aa,Aq];omega
  have hst:((l.take (i+1)).map (vA a)).map aq=((l.take i).map (vA a)).map aq++[aq (vA a l[i])]:=by rw [An hi,Ar,Ar];rfl
  by_cases hv:l[i].var<0
  ·have ht:vA a l[i]=l[i].n:=by unfold vA;rw [if_pos hv]
   rw [ht] at hst;repeat' (first|refine zs ?_|(refine zm ?_ ?_<;>intro hg)|(exfalso;omega))
   exact⟨i+1,by omega,ai (λj=>match j with|1=>2|j=>j) ⟨rfl,rfl,rfl,rfl,trivial⟩ ⟨by rw [hst];rfl,⟨rfl,trivial⟩⟩ rfl rfl rfl rfl rfl rfl,by omega⟩
  ·have hlt:l[i].var.toNat<a.length:=by omega
   have ht:vA a l[i]=a[l[i].var.toNat]:=by
    unfold vA;rw [if_neg hv,A6,Ad hlt];rfl
   rw [ht] at hst;repeat' (first|refine zs ?_|(refine zm ?_ ?_<;>intro hg)|(exfalso;omega))
   exact⟨i+1,by omega,ai (λj=>match j with|1=>2|j=>j) ⟨rfl,rfl,rfl,rfl,trivial⟩ ⟨by rw [hst];rfl,⟨rfl,trivial⟩⟩ rfl rfl rfl rfl rfl rfl,by omega⟩
 ·rw [Ai (by omega)];repeat' (first|refine zs ?_|(refine zm ?_ ?_<;>intro hg)|(exfalso;omega))
  refine ak (bh 4 rfl rfl rfl) ?_;repeat' (apply c9)
  exact⟨.inl rfl,_,rfl,kp id 1 _ ([(0,.row 3 1 (a.map aq))]) ⟨rfl,rfl⟩⟩
def pc (l:Ltl):List Trm:=if l.kind=4 then l.terms.take 2 else l.terms
def tw (e:RE) (l:Ltl):Bool:=(pc l).all λt=>(vOf e t).isSome
def e6 (e:RE) (left:List Ltl):Nat:=if left.findIdx (tw e)<left.length then left.findIdx (tw e) else left.findIdx λl=>decide (l.kind=1)
def xm (S:List Fct) (go:RE->List (List Int)) (l:Ltl) (e:RE):List (List Int) :=
 if l.kind=1 then S.flatMap λx=>if x.pred=l.pred then (match cw e l.terms x.args with|some e'=>go e'|none=>[]) else []
 else if l.kind=4 then (if numB (kx l (bq e)) then (match cw e (l.terms.drop 2) [kx l (bq e)] with|some e'=>go e'|none=>[]) else [])
 else if holdE S l (bq e) then go e else []
def ix (S:List Fct):Nat->List Ltl->RE->List (List Int)
 | _,[],e=>[bq e]
 | 0,_::_,_=>[]
 | k+1,l0::ls,e=>match (l0::ls)[e6 e (l0::ls)]? with
  | none=>[]
  | some l=>xm S (ix S k ((l0::ls).eraseIdx (e6 e (l0::ls)))) l e
theorem sx {α:Type} {l:List α} {i:Nat} (h:i<l.length) (x:α):x∈l↔x=l[i]∨x∈l.eraseIdx i:=by
 rw [List.mem_eraseIdx_iff_getElem];constructor
 ·intro hx;obtain⟨j,hj,rfl⟩:=List.mem_iff_getElem.1 hx;by_cases hq:j=i
  ·subst hq;exact .inl rfl
  ·exact .inr ⟨j,hj,hq,rfl⟩
 ·rintro (rfl|⟨j,hj,_,rfl⟩)
  ·exact Aj h
  ·exact Aj hj
theorem next_lt {S:List Fct} {e:RE} {left:List Ltl} (h0:left≠[]) (hok:∀ l∈left,okL S e.length l) (hB:Bd left (bx e)):e6 e left<left.length:=by
 unfold e6;split
 ·assumption
 ·rename_i h1;refine Ez ?_;apply Classical.byContradiction;intro h2;have h1':∀ l∈left,tw e l=false:=by
   intro l hl;cases h:tw e l with
   | false=>rfl
   | true=>exact absurd (Ez ⟨l,hl,h⟩) h1
  have hcl:ze left (bx e):=by
   intro l hl hf;exfalso;unfold co at hf;rw [Dz,Ae] at hf;rcases hf with hf|⟨hf,hg⟩
   ·exact h2 ⟨l,hl,hf⟩
   ·have:=h1' l hl
    unfold tw pc at this;rw [if_pos (of_decide_eq_true hf)] at this;have hg':(l.terms.take 2).all (λt=>(vOf e t).isSome)=true:=by
     rw [B5] at hg ⊢;intro t ht;rw [<- qu];exact hg t ht
    rw [hg'] at this;cases this
  have hfull:=hB _ (leB.refl _) hcl;obtain⟨l,hl⟩:=List.exists_mem_of_ne_nil left h0;have:=h1' l hl
  unfold tw at this;have hall:(pc l).all (λt=>(vOf e t).isSome)=true:=by
   rw [B5];intro t ht;refine full_some hfull ((hok l hl).terms t ?_);unfold pc at ht;split at ht
   ·exact List.mem_of_mem_take ht
   ·exact ht
  rw [hall] at this;cases this
theorem next_is {e:RE} {left:List Ltl} (h:e6 e left<left.length):tw e (left[e6 e left])=true∨(left[e6 e left]).kind=1:=by
 unfold e6 at h ⊢;split
 ·left;exact D6
 ·rename_i h1;rw [if_neg h1] at h;right;have:=D6 (xs:=left) (p:=λl=>decide (l.kind=1)) (w:=h)
  exact of_decide_eq_true this
theorem Bd_rest {left:List Ltl} {i:Nat} (hi:i<left.length) {bs cs:List Bool} (hB:Bd left bs) (hle:leB bs cs) (hd:(∀ t∈d8 left[i],isT cs t=true)∨∀ ds,co ds left[i]=false):Bd (left.eraseIdx i) cs:=by
 intro ds h1 h2;refine hB ds (hle.trans h1) λl hl hf t ht=>?_
 rcases (sx hi l).1 hl with rfl|hl
 ·rcases hd with hd|hd
  ·exact s0 h1 (hd t ht)
  ·rw [hd ds] at hf;cases hf
 ·exact h2 l hl hf t ht
theorem holdE_calc {S:List Fct} {l:Ltl} {a:List Int} (h4:l.kind=4) (h3:l.terms.length=3):holdE S l a=true↔numB (kx l a)=true/\(l.terms.drop 2).map (vA a)=[kx l a]:=by
 unfold holdE;rw [if_neg (by omega),if_neg (by omega),if_neg (by omega),Ae,decide_eq_true_eq];match hl:l.terms,h3 with
 | [t1,t2,t3],_ =>
  simp only [A3,Db,Ff,E3,Eh,Ei,List.cons.injEq,and_true];exact and_congr Iff.rfl eq_comm
theorem u5 {l:Ltl} {e:RE} {a:List Int} (h:kf e a) (h3:l.terms.length=3) (hr:∀ t∈l.terms.take 2,(vOf e t).isSome=true):kx l a=kx l (bq e):=by
 unfold kx;match hl:l.terms,h3 with
 | [t1,t2,t3],_ =>
  rw [hl] at hr;simp only [A3,Ei,Eh];rw [vA_same h (hr t1 (by simp)),vA_same h (hr t2 (by simp))]
theorem litW_mem {S:List Fct} {go:RE->List (List Int)} {l:Ltl} {e:RE} (hok:okL S e.length l) (hr:tw e l=true∨l.kind=1) (a:List Int) {P:List Int->Prop}
  (hgo:∀ e',e'.length=e.length->leB (bx e) (bx e')->((∀ t∈d8 l,isT (bx e') t=true)∨∀ ds,co ds l=false)->(a∈go e'↔kf e' a/\P a)) :
  a∈xm S go l e↔(kf e a/\holdE S l a=true)/\P a:=by
 unfold xm;by_cases h1:l.kind=1
 ·rw [if_pos h1,List.mem_flatMap];have hlit:d8 l=l.terms:=by unfold d8;rw [if_pos h1]
  have hho:holdE S l a=true↔(⟨l.pred,l.terms.map (vA a)⟩:Fct)∈S:=by unfold holdE;rw [if_pos h1,hasF_iff]
  constructor
  ·rintro⟨x,hx,ha⟩;split at ha
   ·rename_i hp;have hlen:=(hok.facts h1 x hx hp).symm;split at ha
    ·rename_i e' he';obtain⟨g1,g2,g3⟩:=f9 hlen hok.terms he';have g4:=(hgo e' g1 (by rw [g3];exact k9 _ _) (.inl (by rw [hlit,g3];exact m6 (by rw [cx];exact hok.terms)))).1 ha;obtain⟨g5,g6⟩:=(g2 a).1 g4.1;refine⟨⟨g5,hho.2 ?_⟩,g4.2⟩
     rw [g6,<- hp];exact hx
    ·simp at ha
   ·simp at ha
  ·rintro⟨⟨ha,hh⟩,hP⟩;refine⟨_,hho.1 hh,?_⟩
   rw [if_pos rfl];have hlen:l.terms.length=(l.terms.map (vA a)).length:=(Aa _).symm;cases he':cw e l.terms (l.terms.map (vA a)) with
   | none=>exact absurd rfl (rq hlen hok.terms he' a ha)
   | some e' =>
    obtain⟨g1,g2,g3⟩:=f9 hlen hok.terms he';exact (hgo e' g1 (by rw [g3];exact k9 _ _) (.inl (by rw [hlit,g3];exact m6 (by rw [cx];exact hok.terms)))).2 ⟨(g2 a).2 ⟨ha,rfl⟩,hP⟩
 ·rw [if_neg h1];have hr:=hr.resolve_right h1;unfold tw pc at hr;by_cases h4:l.kind=4
  ·rw [if_pos h4] at hr ⊢;have h3:=hok.calc3 h4;have hr':∀ t∈l.terms.take 2,(vOf e t).isSome=true:=List.all_eq_true.1 hr;have hdl:(l.terms.drop 2).length=[kx l (bq e)].length:=by rw [A7,h3];rfl
   have hdo:∀ t∈l.terms.drop 2,okT e.length t:=λt ht=>hok.terms t (B2 ht)
   have hlit:d8 l=l.terms.drop 2:=by unfold d8;rw [if_neg h1]
   rw [holdE_calc h4 h3];constructor
   ·intro ha;split at ha
    ·rename_i hn;split at ha
     ·rename_i e' he';obtain⟨g1,g2,g3⟩:=f9 hdl hdo he';have g4:=(hgo e' g1 (by rw [g3];exact k9 _ _) (.inl (by rw [hlit,g3];exact m6 (by rw [cx];exact hdo)))).1 ha;obtain⟨g5,g6⟩:=(g2 a).1 g4.1;rw [u5 g5 h3 hr'];exact⟨⟨g5,hn,g6⟩,g4.2⟩
     ·simp at ha
    ·simp at ha
   ·rintro⟨⟨ha,hn,hm⟩,hP⟩;rw [u5 ha h3 hr'] at hn hm;rw [if_pos hn];cases he':cw e (l.terms.drop 2) [kx l (bq e)] with
    | none=>exact absurd hm (rq hdl hdo he' a ha)
    | some e' =>
     obtain⟨g1,g2,g3⟩:=f9 hdl hdo he';exact (hgo e' g1 (by rw [g3];exact k9 _ _) (.inl (by rw [hlit,g3];exact m6 (by rw [cx];exact hdo)))).2 ⟨(g2 a).2 ⟨ha,hm⟩,hP⟩
  ·rw [if_neg h4] at hr ⊢;have hr':∀ t∈l.terms,(vOf e t).isSome=true:=List.all_eq_true.1 hr;have hnf:∀ ds,co ds l=false:=λds=>by unfold co;rw [decide_eq_false h1,decide_eq_false h4];rfl
   have hg:=hgo e rfl (leB.refl _) (.inr hnf);constructor
   ·intro ha;split at ha
    ·rename_i hh;obtain⟨g1,g2⟩:=hg.1 ha;exact⟨⟨g1,by rw [holdE_same g1 hr'];exact hh⟩,g2⟩
    ·simp at ha
   ·rintro⟨⟨ha,hh⟩,hP⟩;rw [if_pos (by rw [<- holdE_same ha hr'];exact hh)];exact hg.2 ⟨ha,hP⟩
theorem findE_mem (S:List Fct):∀ (k:Nat) (left:List Ltl) (e:RE),left.length<=k->(∀ l∈left,okL S e.length l)->Bd left (bx e)->∀ a,a∈ix S k left e↔kf e a/\∀ l∈left,holdE S l a=true
 | k,[],e,_,_,hB,a=>by
  have h:ix S k [] e=[bq e]:=by cases k<;>rfl
  rw [h,A1,full_out (hB _ (leB.refl _) (by intro l hl;simp at hl))];simp
 | 0,_::_,_,hk,_,_,_=>by simp at hk
 | k+1,l0::ls,e,hk,hok,hB,a=>by
  have hlt:=next_lt (by simp) hok hB;have hnx:=next_is hlt;rw [ix];generalize hi:e6 e (l0::ls)=i at hlt hnx;rw [Ad hlt];generalize hL:l0::ls=left at *;have hlen:(left.eraseIdx i).length<=k:=by rw [D7,if_pos hlt];omega
  have hsub:∀ l∈left.eraseIdx i,l∈left:=λl hl=>(sx hlt l).2 (.inr hl)
  simp only;rw [litW_mem (P:=λa=>∀ l∈left.eraseIdx i,holdE S l a=true) (hok _ (Aj hlt)) hnx a λe' g1 g2 g3=>findE_mem S k (left.eraseIdx i) e' hlen (λl hl=>by rw [g1];exact hok l (hsub l hl)) (Bd_rest hlt hB g2 g3) a];constructor
  ·rintro⟨⟨g1,g2⟩,g3⟩;exact⟨g1,λl hl=>((sx hlt l).1 hl).elim (λh=>h▸g2) (g3 l)⟩
  ·rintro⟨g1,g2⟩;exact⟨⟨g1,g2 _ (Aj hlt)⟩,λl hl=>g2 l (hsub l hl)⟩
theorem litW_nodup {S:List Fct} {go:RE->List (List Int)} {l:Ltl} {e:RE} (hS:S.Nodup) (hok:okL S e.length l) (hgo:∀ e',e'.length=e.length->leB (bx e) (bx e')->((∀ t∈d8 l,isT (bx e') t=true)∨∀ ds,co ds l=false)->(go e').Nodup/\∀ a∈go e',kf e' a):(xm S go l e).Nodup:=by
 unfold xm;by_cases h1:l.kind=1
 ·rw [if_pos h1];have hlit:d8 l=l.terms:=by unfold d8;rw [if_pos h1]
  have key:∀ x∈S,x.pred=l.pred->∀ e',cw e l.terms x.args=some e'->(go e').Nodup/\∀ a∈go e',l.terms.map (vA a)=x.args:=by
   intro x hx hp e' he';obtain⟨g1,g2,g3⟩:=f9 (hok.facts h1 x hx hp).symm hok.terms he';obtain⟨g4,g5⟩:=hgo e' g1 (by rw [g3];exact k9 _ _) (.inl (by rw [hlit,g3];exact m6 (by rw [cx];exact hok.terms)));exact⟨g4,λa ha=>((g2 a).1 (g5 a ha)).2⟩
  refine List.pairwise_flatMap.2 ⟨λx hx=>?_,hS.imp_of_mem fun {x y} hx hy hne u hu v hv=>?_⟩
  ·split
   ·rename_i hp;split
    ·rename_i e' he';exact (key x hx hp e' he').1
    ·exact .nil
   ·exact .nil
  ·rintro rfl;split at hu
   ·rename_i hp;split at hu
    ·rename_i e' he';split at hv
     ·rename_i hq;split at hv
      ·rename_i f' hf';have g1:=(key x hx hp e' he').2 u hu;have g2:=(key y hy hq f' hf').2 u hv;apply hne;obtain⟨xp,xa⟩:=x;obtain⟨yp,ya⟩:=y;simp only at hp hq g1 g2;rw [hp,hq,<- g1,<- g2]
      ·simp at hv
     ·simp at hv
    ·simp at hu
   ·simp at hu
 ·rw [if_neg h1];by_cases h4:l.kind=4
  ·rw [if_pos h4];have h3:=hok.calc3 h4;have hdl:(l.terms.drop 2).length=[kx l (bq e)].length:=by rw [A7,h3];rfl
   have hdo:∀ t∈l.terms.drop 2,okT e.length t:=λt ht=>hok.terms t (B2 ht)
   have hlit:d8 l=l.terms.drop 2:=by unfold d8;rw [if_neg h1]
   split
   ·split
    ·rename_i e' he';obtain⟨g1,g2,g3⟩:=f9 hdl hdo he';exact (hgo e' g1 (by rw [g3];exact k9 _ _) (.inl (by rw [hlit,g3];exact m6 (by rw [cx];exact hdo)))).1
    ·exact .nil
   ·exact .nil
  ·rw [if_neg h4];have hnf:∀ ds,co ds l=false:=λds=>by unfold co;rw [decide_eq_false h1,decide_eq_false h4];rfl
   split
   ·exact (hgo e rfl (leB.refl _) (.inr hnf)).1
   ·exact .nil
theorem findE_nodup (S:List Fct) (hS:S.Nodup):∀ (k:Nat) (left:List Ltl) (e:RE),left.length<=k->(∀ l∈left,okL S e.length l)->Bd left (bx e)->(ix S k left e).Nodup
 | k,[],e,_,_,_=>by
  have h:ix S k [] e=[bq e]:=by cases k<;>rfl
  rw [h];exact List.nodup_cons.2 ⟨by simp,.nil⟩
 | 0,_::_,_,hk,_,_=>by simp at hk
 | k+1,l0::ls,e,hk,hok,hB=>by
  have hlt:=next_lt (by simp) hok hB;rw [ix];generalize hi:e6 e (l0::ls)=i at hlt;rw [Ad hlt];generalize hL:l0::ls=left at *;have hlen:(left.eraseIdx i).length<=k:=by rw [D7,if_pos hlt];omega
  have hsub:∀ l∈left.eraseIdx i,l∈left:=λl hl=>(sx hlt l).2 (.inr hl)
  exact litW_nodup hS (hok _ (Aj hlt)) λe' g1 g2 g3=>⟨findE_nodup S hS k _ e' hlen (λl hl=>by rw [g1];exact hok l (hsub l hl)) (Bd_rest hlt hB g2 g3),
   λa ha=>((findE_mem S k _ e' hlen (λl hl=>by rw [g1];exact hok l (hsub l hl)) (Bd_rest hlt hB g2 g3) a).1 ha).1⟩
theorem litHolds_fn (S:List Fct) (l:Ltl) (a:List Int) (hok:okL S a.length l) (hop:l.kind=3->1<=l.op/\l.op<=4) (hn:l.kind=4->∀ t∈l.terms,-1000000<=vA a t/\vA a t<=1000000) (hl:l.terms.length<=4398046511104) :
  Fn 264 [elLtl l,.d (.slice 1 (a.map aq)),.d (.slice 2 (S.map ae))] (λr=>r = .d (.bool (holdE S l a))):=by
 have w1:=zh l.terms a hok.terms hl;have w2:=hasFact_fn S ⟨l.pred,l.terms.map (vA a)⟩;have hk:=hok.kind;have ht2:=hok.test2;have ht3:=hok.calc3;clear hok;obtain⟨kind,op,pred,terms⟩:=l;dsimp only [elLtl] at *;refine fqE Tryz.func264 ?_;intro O w0 E0 β0;have hk4:kind=1∨kind=2∨kind=3∨kind=4:=by omega
 rcases hk4 with rfl|rfl|rfl|rfl
 ·have hh:holdE S ⟨1,op,pred,terms⟩ a=hasF S ⟨pred,terms.map (vA a)⟩:=rfl;rw [hh];repeat' (first|refine zr ?_|refine z21 ?_ (hc:=by apply w1)|refine z21 ?_ (hc:=by apply w2)|fail)
  exact⟨.inl rfl,_,rfl,rfl,rfl⟩
 ·have hh:holdE S ⟨2,op,pred,terms⟩ a = !hasF S ⟨pred,terms.map (vA a)⟩:=rfl;rw [hh];repeat' (first|refine zr ?_|refine z21 ?_ (hc:=by apply w1)|refine z21 ?_ (hc:=by apply w2)|fail)
  exact⟨.inl rfl,_,rfl,rfl,rfl⟩
 ·have hh:holdE S ⟨3,op,pred,terms⟩ a=zo op ((terms.map (vA a)).getD 0 0) ((terms.map (vA a)).getD 1 0):=rfl;rw [hh];clear hh w2 hn ht3;match terms,ht2 rfl with
  | [t1,t2],_ =>
   simp only [A3,Db,Ei,Eh] at w1 ⊢;generalize vA a t1=x at w1 ⊢;generalize vA a t2=y at w1 ⊢;have ho4:op=1∨op=2∨op=3∨op=4:=by have:=hop rfl;omega
   clear hop;rcases ho4 with rfl|rfl|rfl|rfl
   ·have hh:zo 1 x y=decide (x<y):=rfl;rw [hh];repeat' (first|refine zr ?_|refine z21 ?_ (hc:=by apply w1)|(refine zm ?_ ?_<;>intro hg)|fail)
    all_goals first
     | exact⟨.inl rfl,_,rfl,rfl,rfl⟩
     | exact a7 rfl (by simp_all)
   ·have hh:zo 2 x y=decide (x<=y):=rfl;rw [hh];repeat' (first|refine zr ?_|refine z21 ?_ (hc:=by apply w1)|(refine zm ?_ ?_<;>intro hg)|fail)
    all_goals first
     | exact⟨.inl rfl,_,rfl,rfl,rfl⟩
     | exact a7 rfl (by simp_all)
   ·have hh:zo 3 x y=decide (x=y):=rfl;rw [hh];repeat' (first|refine zr ?_|refine z21 ?_ (hc:=by apply w1)|(refine zm ?_ ?_<;>intro hg)|fail)
    all_goals first
     | exact⟨.inl rfl,_,rfl,rfl,rfl⟩
     | exact a7 rfl (by simp_all)
   ·have hh:zo 4 x y=decide (x≠y):=rfl;rw [hh];repeat' (first|refine zr ?_|refine z21 ?_ (hc:=by apply w1)|fail)
    all_goals first
     | exact⟨.inl rfl,_,rfl,rfl,rfl⟩
     | exact a7 rfl (by simp_all)
 ·have hh:holdE S ⟨4,op,pred,terms⟩ a=(numB (mt op ((terms.map (vA a)).getD 0 0) ((terms.map (vA a)).getD 1 0)) && decide (mt op ((terms.map (vA a)).getD 0 0) ((terms.map (vA a)).getD 1 0)=(terms.map (vA a)).getD 2 0)):=rfl;rw [hh];have hn:=hn rfl;clear hh w2 hop ht2;match terms,ht3 rfl with
  | [t1,t2,t3],_ =>
   have n1:=hn t1 (by simp);have n2:=hn t2 (by simp);simp only [A3,Db,Ei,Eh] at w1 ⊢;generalize vA a t1=x at w1 n1 ⊢;generalize vA a t2=y at w1 n2 ⊢;generalize vA a t3=z at w1 ⊢;have w3:=calcOf_fn op x y n1 n2;have w4:=kl (mt op x y);cases hb:numB (mt op x y) with
   | false =>
    rw [hb] at w4;repeat' (first|refine zr ?_|refine z21 ?_ (hc:=by apply w1)|refine z22 ?_ (hc:=by apply w3)|refine z21 ?_ (hc:=by apply w4)|fail)
    exact⟨.inl rfl,_,rfl,rfl,rfl⟩
   | true =>
    rw [hb] at w4;repeat' (first|refine zr ?_|refine z21 ?_ (hc:=by apply w1)|refine z22 ?_ (hc:=by apply w3)|refine z21 ?_ (hc:=by apply w4)|fail)
    exact⟨.inl rfl,_,rfl,rfl,rfl⟩
def rf (e:RE) (l:Ltl):Option RE :=
 if l.kind=4/\(l.terms.take 2).all (λt=>(vOf e t).isSome)=true/\(l.terms.drop 2).all (λt=>(vOf e t).isSome)=false then
  (if numB (kx l (bq e)) then some ((l.terms.drop 2).foldl (λe t=>e.set t.var.toNat (some (kx l (bq e)))) e) else none)
 else some e
def tt (body:List Ltl) (e:RE):Option RE:=body.foldlM rf e
def oh (body:List Ltl):Nat->RE->Option RE
 | 0,e=>some e
 | n+1,e=>(tt body e).bind (oh body n)
def nq (S:List Fct) (body:List Ltl) (e:RE):Bool:=body.any λl=>l.terms.all (λt=>(vOf e t).isSome) && !holdE S l (bq e)
def ed (S:List Fct) (body:List Ltl):List Ltl->RE->List (List Int)
 | [],e=>match oh body (body.length+1) e with
  | none=>[]
  | some e'=>if nq S body e' then [] else [bq e']
 | l::ys,e=>match oh body (body.length+1) e with
  | none=>[]
  | some e'=>if nq S body e' then [] else xm S (ed S body ys) l e'
theorem drop2 {l:Ltl} (h3:l.terms.length=3):∃ t1 t2 t3,l.terms=[t1,t2,t3]:=by
 match h:l.terms,h3 with
 | [t1,t2,t3],_=>exact⟨t1,t2,t3,rfl⟩
theorem ym {S:List Fct} {e e':RE} {l:Ltl} (hok:okL S e.length l) (h:rf e l=some e') :
  e'.length=e.length/\(∀ a,holdE S l a=true->(kf e' a↔kf e a))/\bx e'=(if l.kind=4 then l4 (bx e) l else bx e)/\∀ a,kf e' a->kf e a:=by
 unfold rf at h;by_cases h4:l.kind=4
 ·have h3:=hok.calc3 h4;obtain⟨t1,t2,t3,hT⟩:=drop2 h3;have o3:okT e.length t3:=hok.terms t3 (by rw [hT];simp);have hdr:l.terms.drop 2=[t3]:=by rw [hT];rfl
  have hlit:d8 l=[t3]:=by unfold d8;rw [if_neg (by omega),hdr]
  rw [if_pos h4];by_cases h12:(l.terms.take 2).all (λt=>(vOf e t).isSome)=true
  ·have hfire:co (bx e) l=true:=by
    unfold co;rw [decide_eq_true h4,Df,Dz];right;rw [B5] at h12 ⊢;intro t ht;rw [qu];exact h12 t ht
   have hbl:l4 (bx e) l=ji (bx e) t3:=by unfold l4;rw [if_pos hfire,hlit];rfl
   cases hv:vOf e t3 with
   | some x =>
    rw [if_neg (by rw [hdr];simp [hv])] at h;simp only [Option.some.injEq] at h;subst h;exact⟨rfl,λa _=>Iff.rfl,by rw [hbl,pz (by rw [qu,hv];rfl)],λa ha=>ha⟩
   | none =>
    rw [if_pos ⟨h4,h12,by rw [hdr];simp [hv]⟩] at h;split at h
    ·rw [hdr] at h;simp only [Bf,H8,Option.some.injEq] at h;subst h;have hx:=λa=>set_ext' (a:=a) (n:=kx l (bq e)) o3 hv
     refine⟨Ba ..,λa ha=>?_,by rw [set_has hv,hbl],λa ha=>((hx a).1 ha).1⟩
     rw [hx a];refine⟨λg=>g.1,λg=>⟨g,?_⟩⟩
     have:=((holdE_calc h4 h3).1 ha).2
     rw [hdr,u5 g h3 (List.all_eq_true.1 h12)] at this;simpa using this
    ·cases h
  ·rw [if_neg (by rintro⟨_,g,_⟩;exact h12 g)] at h;simp only [Option.some.injEq] at h;subst h;refine⟨rfl,λa _=>Iff.rfl,?_,λa ha=>ha⟩
   have hnf:¬ co (bx e) l=true:=by
    unfold co;rw [decide_eq_false (by omega),B9,Ae];rintro⟨_,g⟩;apply h12;rw [B5] at g ⊢;intro t ht;rw [<- qu];exact g t ht
   unfold l4;rw [if_neg hnf]
 ·rw [if_neg (by rintro⟨g,_⟩;exact h4 g)] at h;simp only [Option.some.injEq] at h;subst h;rw [if_neg h4];exact⟨rfl,λa _=>Iff.rfl,rfl,λa ha=>ha⟩
theorem recL_none {S:List Fct} {e:RE} {l:Ltl} (hok:okL S e.length l) (h:rf e l=none) (a:List Int) (ha:kf e a):holdE S l a=false:=by
 unfold rf at h;split at h
 ·rename_i hc;obtain⟨h4,h12,_⟩:=hc;split at h
  ·cases h
  ·rename_i hn;have h3:=hok.calc3 h4;cases hh:holdE S l a with
   | false=>rfl
   | true =>
    have:=((holdE_calc h4 h3).1 hh).1
    rw [u5 ha h3 (List.all_eq_true.1 h12)] at this;exact absurd this hn
 ·cases h
def ta (body:List Ltl):List Ltl:=body.filter λl=>decide (l.kind=4)
theorem calcs_round (l:Ltl) (body:List Ltl) (bs:List Bool):iv (ta (l::body)) bs=iv (ta body) (if l.kind=4 then l4 bs l else bs):=by
 unfold ta;rw [List.filter_cons];by_cases h:l.kind=4
 ·simp only [h,decide_true,if_true];rfl
 ·simp only [h,decide_false,if_false];rfl
theorem yl {S:List Fct}:∀ {body:List Ltl} {e e':RE},(∀ l∈body,okL S e.length l)->tt body e=some e' ->
  e'.length=e.length/\(∀ a,(∀ l∈body,holdE S l a=true)->(kf e' a↔kf e a))/\bx e'=iv (ta body) (bx e)/\∀ a,kf e' a->kf e a
 | [],e,e',_,h=>by
  simp only [tt,List.foldlM_nil] at h
  cases h
  exact⟨rfl,λa _=>Iff.rfl,rfl,λa ha=>ha⟩
 | l::body,e,e',hok,h=>by
  simp only [tt,F9] at h
  cases h1:rf e l with
  | none=>rw [h1] at h;cases h
  | some e1 =>
   rw [h1] at h
   obtain⟨g1,g2,g3,g4⟩:=ym (hok l (Ac ..)) h1
   obtain⟨k1,k2,k3,k4⟩:=yl (body:=body) (e:=e1) (λx hx=>by rw [g1];exact hok x (Ag _ hx)) h
   refine⟨k1.trans g1,λa ha=>?_,by rw [k3,g3,calcs_round],λa ha=>g4 a (k4 a ha)⟩
   rw [k2 a λx hx=>ha x (Ag _ hx),g2 a (ha l (Ac ..))]
theorem recP_none {S:List Fct}:∀ {body:List Ltl} {e:RE},(∀ l∈body,okL S e.length l)->tt body e=none->∀ a,kf e a->¬ ∀ l∈body,holdE S l a=true
 | [],e,_,h,_,_,_=>by simp [tt] at h
 | l::body,e,hok,h,a,ha,hall=>by
  simp only [tt,F9] at h
  cases h1:rf e l with
  | none =>
   have:=recL_none (hok l (Ac ..)) h1 a ha
   rw [hall l (Ac ..)] at this;cases this
  | some e1 =>
   rw [h1] at h
   obtain⟨g1,g2,_,_⟩:=ym (hok l (Ac ..)) h1
   exact recP_none (body:=body) (e:=e1) (λx hx=>by rw [g1];exact hok x (Ag _ hx)) h a ((g2 a (hall l (Ac ..))).2 ha) λx hx=>hall x (Ag _ hx)
theorem nu {S:List Fct} {body:List Ltl}:∀ {n:Nat} {e e':RE},(∀ l∈body,okL S e.length l)->oh body n e=some e' ->
  e'.length=e.length/\(∀ a,(∀ l∈body,holdE S l a=true)->(kf e' a↔kf e a))/\bx e'=fk (ta body) n (bx e)/\∀ a,kf e' a->kf e a
 | 0,e,e',_,h=>by
  simp only [oh,Option.some.injEq] at h
  subst h
  exact⟨rfl,λa _=>Iff.rfl,rfl,λa ha=>ha⟩
 | n+1,e,e',hok,h=>by
  rw [oh,Option.bind_eq_some_iff] at h
  obtain⟨e1,h1,h2⟩:=h
  obtain⟨g1,g2,g3,g4⟩:=yl hok h1
  obtain⟨k1,k2,k3,k4⟩:=nu (λx hx=>by rw [g1];exact hok x hx) h2
  refine⟨k1.trans g1,λa ha=>by rw [k2 a ha,g2 a ha],by rw [k3,g3];rfl,λa ha=>g4 a (k4 a ha)⟩
theorem recN_none {S:List Fct} {body:List Ltl}:∀ {n:Nat} {e:RE},(∀ l∈body,okL S e.length l)->oh body n e=none->∀ a,kf e a->¬ ∀ l∈body,holdE S l a=true
 | 0,e,_,h,_,_,_=>by simp [oh] at h
 | n+1,e,hok,h,a,ha,hall=>by
  rw [oh] at h
  cases h1:tt body e with
  | none=>exact recP_none hok h1 a ha hall
  | some e1 =>
   rw [h1] at h
   obtain⟨g1,g2,_,_⟩:=yl hok h1
   exact recN_none (λx hx=>by rw [g1];exact hok x hx) h a ((g2 a hall).2 ha) hall
theorem recN_closed {S:List Fct} {body:List Ltl} {e e':RE} (hok:∀ l∈body,okL S e.length l) (h:oh body (body.length+1) e=some e'):ze (ta body) (bx e'):=by
 obtain⟨_,_,h3,_⟩:=nu hok h;have hsub:∀ l∈ta body,l∈body:=λl hl=>(List.mem_filter.1 hl).1
 have hokT:∀ l∈ta body,∀ t∈d8 l,okT (bx e).length t:=by
  intro l hl t ht;rw [cx];refine (hok l (hsub l hl)).terms t ?_;unfold d8 at ht;split at ht
  ·exact ht
  ·exact B2 ht
 have hle:(ta body).length<=body.length:=List.length_filter_le _ _;have hr:=bRound_rest hokT;have hfix:iv (ta body) (bx e')=bx e':=by
  obtain⟨d,hd⟩:=Nat.exists_eq_add_of_le (show (ta body).length<=body.length+1 by omega);rw [h3,hd,zg,zf hr,hr]
 intro l hl hf t ht;rw [<- hfix];exact yd (λl hl t ht=>by
  have:=hokT l hl t ht
  rw [cx] at this ⊢;rw [(nu hok h).1];exact this) l hl hf t ht
theorem wrong_false {S:List Fct} {body:List Ltl} {e:RE} {a:List Int} (ha:kf e a) (hall:∀ l∈body,holdE S l a=true):nq S body e=false:=by
 unfold nq;rw [List.any_eq_false];intro l hl hc;rw [Ae,B5] at hc;have:=holdE_same (S:=S) ha hc.1
 rw [hall l hl] at this;rw [<- this] at hc;exact absurd hc.2 (by simp)
theorem fromE_spec (S:List Fct) (hS:S.Nodup) (body:List Ltl):∀ (ys:List Ltl) (e:RE),(∀ l∈ys,l∈body/\l.kind=1)->(∀ l∈body,okL S e.length l)->Bd body (bx e)->(∀ l∈body,l.kind=1->l∈ys∨∀ t∈l.terms,isT (bx e) t=true) ->
  (∀ a,a∈ed S body ys e↔kf e a/\∀ l∈body,holdE S l a=true)/\(ed S body ys e).Nodup
 | [],e,_,hok,hB,hy=>by
  rw [ed];cases hr:oh body (body.length+1) e with
  | none=>exact⟨λa=>⟨λh=>by simp at h,fun⟨h1,h2⟩=>absurd h2 (recN_none hok hr a h1)⟩,.nil⟩
  | some e' =>
   simp only;obtain⟨g1,g2,g3,g4⟩:=nu hok hr;have hcl:=recN_closed hok hr;have hle:leB (bx e) (bx e'):=by
    rw [g3];have:∀ n bs,leB bs (fk (ta body) n bs):=by
     intro n;induction n with
     | zero=>intro bs;exact leB.refl _
     | succ n ih=>intro bs;exact (tc _ _).trans (ih _)
    exact this _ _
   have hfull:∀ v,v<(bx e').length->(bx e').getD v false=true:=by
    refine hB _ hle λl hl hf t ht=>?_
    by_cases h1:l.kind=1
    ·have hl1:d8 l=l.terms:=by unfold d8;rw [if_pos h1]
     rw [hl1] at ht;rcases hy l hl h1 with h|h
     ·simp at h
     ·exact s0 hle (h t ht)
    ·have h4:l.kind=4:=by
      unfold co at hf;rw [decide_eq_false h1,B9,Ae] at hf;exact of_decide_eq_true hf.1
     exact hcl l (List.mem_filter.2 ⟨hl,decide_eq_true h4⟩) hf t ht
   have hsome:∀ l∈body,∀ t∈l.terms,(vOf e' t).isSome=true:=λl hl t ht=>full_some hfull (by rw [g1];exact (hok l hl).terms t ht)
   split
   ·rename_i hw;refine⟨λa=>⟨λh=>by simp at h,fun⟨h1,h2⟩=>?_⟩,.nil⟩
    rw [wrong_false ((g2 a h2).2 h1) h2] at hw;cases hw
   ·rename_i hw;refine⟨λa=>?_,List.nodup_cons.2 ⟨by simp,.nil⟩⟩
    rw [A1];constructor
    ·rintro rfl;have hx:=(full_out hfull (bq e')).2 rfl;refine⟨g4 _ hx,λl hl=>?_⟩
     cases hh:holdE S l (bq e') with
     | true=>rfl
     | false =>
      exfalso;apply hw;unfold nq;rw [List.any_eq_true];exact⟨l,hl,by rw [hh,Ae,B5];exact⟨λt ht=>hsome l hl t ht,rfl⟩⟩
    ·rintro⟨h1,h2⟩;exact (full_out hfull a).1 ((g2 a h2).2 h1)
 | l::ys,e,hys,hok,hB,hy=>by
  rw [ed];cases hr:oh body (body.length+1) e with
  | none=>exact⟨λa=>⟨λh=>by simp at h,fun⟨h1,h2⟩=>absurd h2 (recN_none hok hr a h1)⟩,.nil⟩
  | some e' =>
   simp only;obtain⟨g1,g2,g3,g4⟩:=nu hok hr;have hle:leB (bx e) (bx e'):=by
    rw [g3];have:∀ n bs,leB bs (fk (ta body) n bs):=by
     intro n;induction n with
     | zero=>intro bs;exact leB.refl _
     | succ n ih=>intro bs;exact (tc _ _).trans (ih _)
    exact this _ _
   obtain⟨hl,hl1⟩:=hys l (Ac ..);have hlit:d8 l=l.terms:=by unfold d8;rw [if_pos hl1]
   split
   ·rename_i hw;refine⟨λa=>⟨λh=>by simp at h,fun⟨h1,h2⟩=>?_⟩,.nil⟩
    rw [wrong_false ((g2 a h2).2 h1) h2] at hw;cases hw
   ·have ih:∀ e'',e''.length=e'.length->leB (bx e') (bx e'')->((∀ t∈d8 l,isT (bx e'') t=true)∨∀ ds,co ds l=false)->(∀ a,a∈ed S body ys e''↔kf e'' a/\∀ l∈body,holdE S l a=true)/\(ed S body ys e'').Nodup:=by
     intro e'' k1 k2 k3;refine fromE_spec S hS body ys e'' (λx hx=>hys x (Ag _ hx)) (λx hx=>by rw [k1,g1];exact hok x hx) (λcs c1 c2=>hB cs ((hle.trans k2).trans c1) c2) λx hx hx1=>?_
     rcases hy x hx hx1 with h|h
     ·rcases List.mem_cons.1 h with rfl|h
      ·right;rcases k3 with k3|k3
       ·rw [hlit] at k3;exact k3
       ·have:=k3 []
        unfold co at this;rw [decide_eq_true hl1] at this;simp at this
      ·exact .inl h
     ·exact .inr λt ht=>s0 (hle.trans k2) (h t ht)
    have hok':okL S e'.length l:=by rw [g1];exact hok l hl
    refine⟨λa=>?_,litW_nodup hS hok' λe'' k1 k2 k3=>⟨(ih e'' k1 k2 k3).2,λa ha=>(((ih e'' k1 k2 k3).1 a).1 ha).1⟩⟩
    rw [litW_mem (P:=λa=>∀ l∈body,holdE S l a=true) hok' (.inr hl1) a λe'' k1 k2 k3=>(ih e'' k1 k2 k3).1 a];constructor
    ·rintro⟨⟨h1,_⟩,h2⟩;exact⟨(g2 a h2).1 h1,h2⟩
    ·rintro⟨h1,h2⟩;exact⟨⟨(g2 a h2).2 h1,h2 l hl⟩,h2⟩
def ey (a:List Int):List D:=[.slice 1 (a.map aq)]
structure okB (S:List Fct) (v:Nat) (body:List Ltl):Prop where
 lit:∀ l∈body,okL S v l
 op:∀ l∈body,l.kind=3->1<=l.op/\l.op<=4
 nums:∀ l∈body,∀ t∈l.terms,-1000000<=t.n/\t.n<=1000000
 facts:∀ x∈S,∀ y∈x.args,-1000000<=y/\y<=1000000
 len:body.length<=4
 vle:v<=8
 tlen:∀ l∈body,l.terms.length<=3
def o6 (e:RE):Prop:=∀ (v:Nat) (x:Int),e[v]?=some (some x)->-1000000<=x/\x<=1000000
theorem vA_num {e:RE} (h:o6 e) {t:Trm} (ht:-1000000<=t.n/\t.n<=1000000):-1000000<=vA (bq e) t/\vA (bq e) t<=1000000:=by
 unfold vA bq;split
 ·exact ht
 ·rw [A6,Bg];cases hx:e[t.var.toNat]? with
  | none=>simp
  | some y =>
   cases y with
   | none=>simp
   | some z=>simpa using h _ _ hx
theorem all_isT (e:RE) (l:List Trm):l.all (isT (bx e))=l.all λt=>(vOf e t).isSome:=by
 congr 1;funext t;exact qu e t
abbrev fndB (r:Rul) (S:List Fct) (o:SV) (m:Bool):HB:=.blk 214 [.d (.int .i64 r.pred),.d (.slice 2 (r.terms.map av)),.d (.int .i64 r.fold),.d (.slice 4 (r.body.map ay)),.d (.int .i64 r.vars),.d (.slice 2 (S.map ae)),o,.d (.bool m)]
abbrev rh (r:Rul) (S:List Fct) (out:List (List Int)) (m:Bool):Hp:=[(0,fndB r S (.row 1) m),(1,.row 22 1 (out.map ey))]
theorem fwrong_fn (r:Rul) (S:List Fct) (out:List (List Int)) (m:Bool) (e:RE) (hok:okB S e.length r.body) (hn:o6 e) :
  FnOk false Tryz.prog tab b9 218 [.loc 0 0,.d (.slice 1 ((bq e).map aq)),.d (.slice 1 ((bx e).map cu))] 2 2 (rh r S out m) (λ_ res H=>res = .d (.bool (nq S r.body e))/\H=rh r S out m):=by
 refine frE Tryz.func218 ?_;intro O w0 E0 β0;have lb:(r.body.map ay).length=r.body.length:=Aa _;have hb4:=hok.len;repeat' (first|refine zs ?_|fail)
 refine ag (ι:=Nat) (λi=>⟨2,[(0,.loc 0 0),(1,.d (.slice 1 ((bq e).map aq))),(2,.d (.slice 1 ((bx e).map cu))),(7,.d (.int .i64 i))],rh r S out m⟩)
  (λi=>i<=r.body.length/\nq S r.body e=nq S (r.body.drop i) e) (λi=>r.body.length-i) 0 ⟨Ak _,rfl⟩ (er id) ?_
 rintro i ⟨g1,g2⟩;dsimp only at g1 g2 ⊢;by_cases hi:i<r.body.length
 ·have hm:=Aj hi;have ho:=hok.lit _ hm;have hlen:=hok.tlen _ hm;have w1:=isReady_fn r.body[i].terms (bx e) (by rw [cx];exact ho.terms);rw [all_isT] at w1;have w2:=litHolds_fn S r.body[i] (bq e) (by rw [dx];exact ho) (hok.op _ hm) (λ_ t ht=>vA_num hn (hok.nums _ hm t ht)) (by omega);have hst:nq S (r.body.drop i) e=((r.body[i].terms.all (λt=>(vOf e t).isSome) && !holdE S r.body[i] (bq e)) || nq S (r.body.drop (i+1)) e):=by
   unfold nq;rw [Am hi,List.any_cons]
  rw [hst] at g2;cases hr:r.body[i].terms.all (λt=>(vOf e t).isSome) with
  | false =>
   rw [hr] at w1 g2;rw [Dw,B9] at g2;repeat' (first|refine zr ?_|refine z22 ?_ (hc:=by apply w1)|(refine zm ?_ ?_<;>intro hg)|(exfalso;omega))
   exact⟨i+1,⟨hi,g2⟩,er id,by omega⟩
  | true =>
   rw [hr] at w1 g2;rw [Df] at g2;cases hh:holdE S r.body[i] (bq e) with
   | false =>
    rw [hh] at w2 g2;rw [Bool.not_false,Bool.true_or] at g2;rw [g2];repeat' (first|refine zr ?_|refine z22 ?_ (hc:=by apply w1)|refine z22 ?_ (hc:=by apply w2)|(refine zm ?_ ?_<;>intro hg)|(exfalso;omega))
    exact⟨.inl rfl,_,rfl,kp id 2 _ (rh r S out m) ⟨rfl,rfl⟩⟩
   | true =>
    rw [hh] at w2 g2;rw [Bool.not_true,B9] at g2;repeat' (first|refine zr ?_|refine z22 ?_ (hc:=by apply w1)|refine z22 ?_ (hc:=by apply w2)|(refine zm ?_ ?_<;>intro hg)|(exfalso;omega))
    exact⟨i+1,⟨hi,g2⟩,er id,by omega⟩
 ·rw [As (by omega)] at g2;rw [g2];repeat' (first|refine zr ?_|(refine zm ?_ ?_<;>intro hg)|(exfalso;omega))
  exact⟨.inl rfl,_,rfl,kp id 2 _ (rh r S out m) ⟨rfl,rfl⟩⟩
theorem numE_set {e:RE} (h:o6 e) {v:Nat} {n:Int} (hn:numB n=true):o6 (e.set v (some n)):=by
 intro u x hx;by_cases hq:v=u
 ·subst hq;by_cases hl:v<e.length
  ·rw [B4 hl] at hx;simp at hx;subst hx;exact numB_iff.1 hn
  ·rw [A8 (by rw [Ba];omega)] at hx;cases hx
 ·rw [Ce hq] at hx;exact h u x hx
theorem recL_num {S:List Fct} {e e':RE} {l:Ltl} (hok:okL S e.length l) (hn:o6 e) (h:rf e l=some e'):o6 e':=by
 unfold rf at h;split at h
 ·rename_i hc;split at h
  ·rename_i hb;obtain⟨t1,t2,t3,hT⟩:=drop2 (hok.calc3 hc.1);rw [hT] at h;simp only [Ff,E3,Bf,H8,Option.some.injEq] at h;subst h;exact numE_set hn hb
  ·cases h
 ·simp only [Option.some.injEq] at h;subst h;exact hn
theorem outE_set (e:RE) (v:Nat) (x:Int):bq (e.set v (some x))=(bq e).set v x:=by unfold bq;rw [C3];rfl
theorem hasE_set (e:RE) (v:Nat) (x:Int):bx (e.set v (some x))=(bx e).set v true:=by unfold bx;rw [C3];rfl
theorem recP_step {body:List Ltl} {i:Nat} (hi:i<body.length) (e:RE):tt (body.drop i) e=(rf e body[i]).bind (tt (body.drop (i+1))):=by
 unfold tt;rw [Am hi,F9];rfl
theorem recN_step (body:List Ltl) {n k:Nat} (h:n<k) (e:RE):oh body (k-n) e=(tt body e).bind (oh body (k-(n+1))):=by
 rw [show k-n=(k-(n+1))+1 by omega];rfl
abbrev rkH (r:Rul) (S:List Fct) (out:List (List Int)) (m:Bool) (e:RE):Hp:=[(0,fndB r S (.row 3) m),(1,.row 3 1 ((bq e).map aq)),(2,.row 4 1 ((bx e).map cu)),(3,.row 22 1 (out.map ey))]
def RkR (r:Rul) (S:List Fct) (out:List (List Int)) (m:Bool) (o:Option RE) (res:SV) (H:Hp):Prop:=match o with
 | some e'=>res = .d (.bool true)/\H=rkH r S out m e'
 | none=>res = .d (.bool false)/\∃ e',H=rkH r S out m e'
theorem recL_other {e:RE} {l:Ltl} (h:l.kind≠4):rf e l=some e:=by unfold rf;rw [if_neg (λg=>h g.1)]
theorem recL_not12 {e:RE} {op pred:Int} {t1 t2 t3:Trm} (h:[t1,t2].all (isT (bx e))=false):rf e ⟨4,op,pred,[t1,t2,t3]⟩=some e:=by
 rw [all_isT] at h;unfold rf;rw [if_neg (λg=>by have:=g.2.1;simp only [List.take_succ_cons,List.take_zero] at this;rw [h] at this;cases this)]
theorem recL_is3 {e:RE} {op pred:Int} {t1 t2 t3:Trm} (h:[t3].all (isT (bx e))=true):rf e ⟨4,op,pred,[t1,t2,t3]⟩=some e:=by
 rw [all_isT] at h;unfold rf;rw [if_neg (λg=>by have:=g.2.2;simp only [Ff,E3] at this;rw [h] at this;cases this)]
theorem recL_new {e:RE} {op pred:Int} {t1 t2 t3:Trm} (h:[t1,t2].all (isT (bx e))=true) (h3:[t3].all (isT (bx e))=false):rf e ⟨4,op,pred,[t1,t2,t3]⟩=if numB (mt op (vA (bq e) t1) (vA (bq e) t2)) then some (e.set t3.var.toNat (some (mt op (vA (bq e) t1) (vA (bq e) t2)))) else none:=by
 rw [all_isT] at h h3;unfold rf;rw [if_pos ⟨rfl,by simpa using h,by simpa using h3⟩];rfl
theorem reckon_fn (r:Rul) (S:List Fct) (out:List (List Int)) (m:Bool) (e:RE) (hok:okB S e.length r.body) (hn:o6 e) :
  FnOk false Tryz.prog tab b9 217 [.loc 0 0,.row 1,.row 2] 4 4 (rkH r S out m e) (λ_ res H=>RkR r S out m (oh r.body (r.body.length+1) e) res H):=by
 refine frE Tryz.func217 ?_;intro O w0 E0 β0;have lb:(r.body.map ay).length=r.body.length:=Aa _;have hb4:=hok.len;repeat' (first|refine zs ?_|fail)
 refine ag (ι:=Nat×RE) (λx=>⟨4,[(0,.loc 0 0),(1,.row 1),(2,.row 2),(7,.d (.int .i64 x.1))],rkH r S out m x.2⟩)
  (λx=>x.1<=r.body.length+1/\x.2.length=e.length/\o6 x.2/\oh r.body (r.body.length+1) e=oh r.body (r.body.length+1-x.1) x.2) (λx=>r.body.length+1-x.1) (0,e) ⟨Ak _,rfl,hn,rfl⟩ (er id) ?_
 rintro⟨n,e1⟩ ⟨g1,g2,g3,g4⟩;dsimp only at g1 g2 g3 g4 ⊢;by_cases hnn:n<r.body.length+1
 ·rw [recN_step r.body hnn] at g4;repeat' (first|refine zr ?_|(refine zm ?_ ?_<;>intro hg)|(exfalso;omega))
  refine ag (ι:=Nat×RE) (λx=>⟨4,[(0,.loc 0 0),(1,.row 1),(2,.row 2),(7,.d (.int .i64 n)),(8,.d (.int .i64 x.1))],rkH r S out m x.2⟩)
   (λx=>x.1<=r.body.length/\x.2.length=e.length/\o6 x.2/\tt r.body e1=tt (r.body.drop x.1) x.2) (λx=>r.body.length-x.1) (0,e1) ⟨Ak _,g2,g3,rfl⟩ (er id) ?_
  rintro⟨i,e2⟩ ⟨f1,f2,f3,f4⟩;dsimp only at f1 f2 f3 f4 ⊢;by_cases hi:i<r.body.length
  ·have hm:=Aj hi;have ho:=hok.lit _ hm;rw [<- f2] at ho;have hlen:=hok.tlen _ hm;have hnum:=hok.nums _ hm;rw [recP_step hi] at f4;repeat' ((fail_if_success (apply eo 8));(first|refine zs ?_|(refine zm ?_ ?_<;>intro hg)|fail))
   all_goals try (exfalso;omega)
   refine ak (ai (k':=5) (L':=[(0,.loc 0 0),(1,.row 1),(2,.row 2),(7,.d (.int .i64 n)),(8,.d (.int .i64 i)),(9,.loc 4 0)]) (H':=(4,litB r.body[i])::rkH r S out m e2) id ⟨rfl,rfl,rfl,rfl,rfl,rfl,trivial⟩ ⟨rfl,rfl,rfl,rfl,rfl,trivial⟩ rfl rfl rfl rfl rfl rfl) ?_;generalize r.body[i]=l at ho hlen hnum f4 ⊢;clear hm;have hk:=ho.kind;have hT:=ho.terms;have h3:=ho.calc3;have hrn:∀ e',rf e2 l=some e'->e'.length=e.length/\o6 e':=λe' h=>⟨(ym ho h).1.trans f2,recL_num ho f3 h⟩
   clear ho;obtain⟨kind,op,pred,terms⟩:=l;dsimp only at hk hT h3 hlen hnum;by_cases h4:kind=4
   ·subst h4;match terms,h3 rfl with
    | [t1,t2,t3],_ =>
     have hT12:∀ t∈[t1,t2],okT (bx e2).length t:=λt ht=>by rw [cx];exact hT t (by simp at ht ⊢;rcases ht with rfl|rfl<;>simp)
     have hT3:∀ t∈[t3],okT (bx e2).length t:=λt ht=>by rw [cx];exact hT t (by simp at ht ⊢;subst ht;simp)
     have w1:=isReadyR_fn [t1,t2] (bx e2) hT12;have w2:=isReadyR_fn [t3] (bx e2) hT3;repeat' (first|(apply pa;exact rfl;exact rfl;exact rfl;exact rfl;exact rfl;exact rfl;(refine⟨?_,?_,?_⟩<;>(first|omega|(simp only [Aa];omega)));((with_reducible apply oe);(exact bl _));exact rfl;exact rfl)|refine zs ?_|fail)
     cases h12:[t1,t2].all (isT (bx e2)) with
     | false =>
      rw [h12] at w1;rw [recL_not12 h12] at f4;refine bg (λj=>match j with|0=>2|j=>j) w1 rfl rfl rfl rfl ⟨rfl,trivial⟩ rfl rfl rfl rfl rfl rfl ?_ ?_
      ·rintro k2 res H2 ⟨rfl,rfl⟩;exact⟨rfl,rfl⟩
      rintro k2 res H2 ⟨rfl,rfl⟩;change DS _ _ _ _ _ _ _ _;repeat' (first|refine zs ?_|(exfalso;omega))
      exact⟨(i+1,e2),⟨by dsimp only;omega,f2,f3,f4⟩,er id,by show r.body.length-(i+1)<r.body.length-i;omega⟩
     | true =>
      rw [h12] at w1;refine bg (λj=>match j with|0=>2|j=>j) w1 rfl rfl rfl rfl ⟨rfl,trivial⟩ rfl rfl rfl rfl rfl rfl ?_ ?_
      ·rintro k2 res H2 ⟨rfl,rfl⟩;exact⟨rfl,rfl⟩
      rintro k2 res H2 ⟨rfl,rfl⟩;change DS _ _ _ _ _ _ _ _;repeat' (first|(apply pa;exact rfl;exact rfl;exact rfl;exact rfl;exact rfl;exact rfl;(refine⟨?_,?_,?_⟩<;>(first|omega|(simp only [Aa];omega)));((with_reducible apply hv_drop);(exact bl _));exact rfl;exact rfl)|refine zs ?_|(exfalso;omega))
      cases h33:[t3].all (isT (bx e2)) with
      | true =>
       rw [h33] at w2;rw [recL_is3 h33] at f4;refine bg (λj=>match j with|0=>2|j=>j) w2 rfl rfl rfl rfl ⟨rfl,trivial⟩ rfl rfl rfl rfl rfl rfl ?_ ?_
       ·rintro k2 res H2 ⟨rfl,rfl⟩;exact⟨rfl,rfl⟩
       rintro k2 res H2 ⟨rfl,rfl⟩;change DS _ _ _ _ _ _ _ _;repeat' (first|refine zs ?_|(exfalso;omega))
       exact⟨(i+1,e2),⟨by dsimp only;omega,f2,f3,f4⟩,er id,by show r.body.length-(i+1)<r.body.length-i;omega⟩
      | false =>
       rw [h33] at w2;have hnew:=recL_new (op:=op) (pred:=pred) h12 h33;refine bg (λj=>match j with|0=>2|j=>j) w2 rfl rfl rfl rfl ⟨rfl,trivial⟩ rfl rfl rfl rfl rfl rfl ?_ ?_
       ·rintro k2 res H2 ⟨rfl,rfl⟩;exact⟨rfl,rfl⟩
       rintro k2 res H2 ⟨rfl,rfl⟩;change DS _ _ _ _ _ _ _ _;repeat' (first|(apply pa;exact rfl;exact rfl;exact rfl;exact rfl;exact rfl;exact rfl;(refine⟨?_,?_,?_⟩<;>(first|omega|(simp only [Aa];omega)));((with_reducible apply oe);(exact bl _));exact rfl;exact rfl)|refine zs ?_|(exfalso;omega))
       have n1:=vA_num f3 (hnum t1 (by simp));have n2:=vA_num f3 (hnum t2 (by simp));have w3:=argsOfR_fn [t1,t2] (bq e2) (λt ht=>by rw [dx];exact hT t (by simp at ht ⊢;rcases ht with rfl|rfl<;>simp)) (by simp);simp only [A3,Db] at w3;generalize hx:vA (bq e2) t1=x at n1 w3 hnew;generalize hy:vA (bq e2) t2=y at n2 w3 hnew;have w4:=calcOf_fn op x y n1 n2;have w5:=kl (mt op x y);refine bg (λj=>match j with|0=>1|j=>j) w3 rfl rfl rfl rfl ⟨rfl,trivial⟩ rfl rfl rfl rfl rfl rfl ?_ ?_
       ·rintro k2 res H2 ⟨rfl,rfl⟩;exact⟨rfl,rfl⟩
       rintro k2 res H2 ⟨rfl,rfl⟩;change DS _ _ _ _ _ _ _ _;have hv3:0<=t3.var/\t3.var<e2.length:=by
        have ht3:=hT t3 (by simp);unfold okT at ht3;refine⟨?_,ht3⟩
        simp only [Do,List.all_nil,Bool.and_true] at h33;unfold isT at h33;simp only [Bool.or_eq_false_iff,decide_eq_false_iff_not] at h33;omega
       have lo:((bq e2).map aq).length=e2.length:=by rw [Aa,dx]
       have lh:((bx e2).map cu).length=e2.length:=by rw [Aa,cx]
       cases hb:numB (mt op x y) with
       | false =>
        rw [hb] at w5 hnew;have hnew:rf e2 ⟨4,op,pred,[t1,t2,t3]⟩=none:=hnew;rw [hnew] at f4;have f4':tt r.body e1=none:=f4;rw [f4'] at g4;have g4':oh r.body (r.body.length+1) e=none:=g4;rw [g4'];repeat' (first|refine zr ?_|refine z22 ?_ (hc:=by apply w4)|refine z21 ?_ (hc:=by apply w5)|(exfalso;omega))
        exact⟨.inl rfl,_,rfl,kp id 4 _ (rkH r S out m e2) ⟨rfl,e2,rfl⟩⟩
       | true =>
        rw [hb] at w5 hnew;have hnew:rf e2 ⟨4,op,pred,[t1,t2,t3]⟩=some (e2.set t3.var.toNat (some (mt op x y))):=hnew;obtain⟨q1,q2⟩:=hrn _ hnew;rw [hnew] at f4;repeat' (first|refine z0 ?_|apply gy|(apply kh;exact rfl;exact rfl;(apply iq;(omega));exact rfl;exact rfl;(exact kb rfl);exact rfl;exact rfl;exact rfl;exact rfl;exact rfl;exact rfl)|refine zs ?_|refine z22 ?_ (hc:=by apply w4)|refine z21 ?_ (hc:=by apply w5)|(exfalso;omega))
        have o1:=outE_set e2 t3.var.toNat (mt op x y);have o2:=hasE_set e2 t3.var.toNat (mt op x y);exact⟨(i+1,e2.set t3.var.toNat (some (mt op x y))),⟨by dsimp only;omega,q1,q2,f4⟩,ai id ⟨rfl,rfl,rfl,rfl,rfl,trivial⟩ ⟨rfl,by rw [o1];rfl,by rw [o2];rfl,rfl,trivial⟩ rfl rfl rfl rfl rfl rfl,by show r.body.length-(i+1)<r.body.length-i;omega⟩
   ·have hr:=recL_other (e:=e2) (l:=⟨kind,op,pred,terms⟩) h4;rw [hr] at f4;repeat' (first|refine zs ?_|(refine zm ?_ ?_<;>intro hg)|(exfalso;omega))
    all_goals try (exfalso;exact hg h4)
    exact⟨(i+1,e2),⟨by dsimp only;omega,f2,f3,f4⟩,er id,by show r.body.length-(i+1)<r.body.length-i;omega⟩
  ·rw [As (by omega)] at f4;have f4':tt r.body e1=some e2:=f4;rw [f4'] at g4;repeat' (first|(apply pa;exact rfl;exact rfl;exact rfl;exact rfl;exact rfl;exact rfl;(refine⟨?_,?_,?_⟩<;>(omega));((with_reducible apply oe);(exact bl _));exact rfl;exact rfl)|refine zs ?_|(refine zm ?_ ?_<;>intro hg)|(exfalso;omega))
   exact⟨(n+1,e2),⟨by dsimp only;omega,f2,f3,g4⟩,er id,by show r.body.length+1-(n+1)<r.body.length+1-n;omega⟩
 ·have hz:r.body.length+1-n=0:=by omega
  rw [hz] at g4;have g4':oh r.body (r.body.length+1) e=some e1:=g4;rw [g4'];repeat' (first|refine zr ?_|(refine zm ?_ ?_<;>intro hg)|(exfalso;omega))
  exact⟨.inl rfl,_,rfl,kp id 4 _ (rkH r S out m e1) ⟨rfl,rfl⟩⟩
end Go.Proofs.YtapciiffpnociadGreat
