/- Several texts in one: RuM StrB RuN RuO StrP StrQ StrN MoQ StrL. Condition: none. -/
import Derived.Test.YtapciiffpnociadGreatM17
import Derived.Test.YtapciiffpnociadGreatM10
import Derived.Test.YtapciiffpnociadGreatM13
import Derived.Test.YtapciiffpnociadGreatM12
set_option linter.all false
set_option maxHeartbeats 8000000
open Bool renaming and_eq_true→Ad,false_eq_true→Do
open Classical renaming byContradiction→A1
open Int renaming le_refl→Dv,le_trans→F8
open List renaming append_nil→B0,count_cons→E4,filter_cons→Db,foldl_cons→A2,getD→A9,getElem?_eq_getElem→Ab,getElem?_eq_none→Ba,getElem?_replicate→D6,getElem_mem→Ag,length_append→Ap,length_cons→Bn,length_filterMap_le→Em,length_filter_le→Cj,length_map→Aa,length_singleton→Bh,length_take→Au,map_append→Av,map_cons→A7,map_singleton→Ff,mem_cons_of_mem→Ah,mem_cons_self→Ae,mem_of_mem_take→B1,mem_singleton→A5,range→F9,replicate→An,set_cons_succ→G1,sum_cons→Hw,take_of_length_le→Ak,take_succ_eq_append_getElem→Am
open Nat renaming add_sub_cancel→G0,le_trans→Ar,zero_le→Ai
open Option renaming getD_some→C4
namespace Go.Proofs.YtapciiffpnociadGreat
open Go Go.RowKit
variable [Bnds]
def iu (p:Prg) (n:Int):Rul:=p.rules.getD n.toNat ⟨0,[],0,[],0⟩
def vw (p:Prg) (n:Int) (l:List Fct):Int:=if vt p n l≠0 then vt p n l else if manyW (av l) (iu p n) then 0 else 2
def zq (p:Prg) (n:Int) (l:List Fct):List (List Int):=if vt p n l=0 then dg (av l) (iu p n) else []
structure WayOk (p:Prg) (n:Int) (l:List Fct):Prop where
 prog:dw dx p=0
 lo:0<=n
 hi:n.toNat<p.rules.length
 len:l.length<=60
 facts:∀ x∈l,FctOk p.arity x
 rul:RulR p.arity (iu p n)
 ruls:RulS (av l) (iu p n)
 alen:∀ x∈l,x.args.length<=3
 tlen:(iu p n).terms.length<=3
theorem tw {p:Prg} {n:Int} (h:n.toNat<p.rules.length):iu p n=p.rules[n.toNat]:=by unfold iu;rw [A9,Ab h];rfl
theorem oq {arity:List Int} {S:List Fct} {r:Rul} (hr:RulR arity r) (ha:∀ i,0<=arity.getD i 0/\arity.getD i 0<=3) (hS:∀ x∈S,FctOk arity x):RulS S r:=by
 have hv:=hr.vars;refine⟨⟨λl hl=>lit_okL (hr.lits l hl) hv.1 hS,λl hl hk=>?_,λl hl t ht=>?_,λx hx=>(hS x hx).nums,hr.body,by omega,λl hl=>?_⟩,safe_Bd hr.safe,hv⟩
 ·obtain⟨_,h2,_⟩:=ul (hr.lits l hl);unfold opB inR at h2;rw [if_pos hk] at h2;simp only [Ad,decide_eq_true_eq] at h2;exact h2
 ·exact ((ul (hr.lits l hl)).2.2.2.2 t ht).2.2
 ·obtain⟨h1,_,h3,h4,_⟩:=ul (hr.lits l hl);by_cases hk:l.kind=1∨l.kind=2
  ·have:=(h3 hk).2
   have:=ha l.pred.toNat
   omega
  ·have:=(h4 hk).2
   omega
theorem wayOk {p:Prg} {n:Int} {l:List Fct} (h:vt p n l=0):WayOk p n l:=by
 unfold vt at h;split at h
 ·rename_i h1;exact absurd h h1
 rename_i h1;split at h;· cases h
 rename_i h2;unfold et at h;split at h;· cases h
 rename_i h3;have h1:dw dx p=0:=by simpa using h1
 obtain⟨q1,q2,_,_⟩:=progE_rule h1;have hi:n.toNat<p.rules.length:=by omega
 have hf:∀ x∈l,FctOk p.arity x:=λx hx=>factE_ok (ia h x hx)
 have hr:RulR p.arity (iu p n):=by rw [tw hi];exact q1 _ (Ag hi)
 refine⟨h1,by omega,hi,by omega,hf,hr,oq hr q2 λx hx=>hf x (((a8 l).2 x).1 hx),λx hx=>?_,?_⟩
 ·have:=(hf x hx).len
  have:=q2 x.pred.toNat
  omega
 ·have:=hr.tlen
  have:=q2 (iu p n).pred.toNat
  omega
attribute [local irreducible] DW DS DL DQ Ev FnOk FnP dp bh DT
theorem args_fn (l:List Trm) (a:List Int) (hok:∀ t∈l,okT a.length t) (hl:l.length<=1000000):Fn 99 [.d (.slice 2 (l.map aw)),.d (.slice 1 (a.map ah))] (λr=>r = .d (.slice 1 ((l.map (vA a)).map ah))):=by
 refine fqE Tryz.func99 ?_;intro O w0 E0 β0;have ll:(l.map aw).length=l.length:=Aa _;have la:(a.map ah).length=a.length:=Aa _;repeat' (first|(apply uy;exact rfl;exact rfl;exact rfl;exact rfl;exact rfl;exact rfl;exact rfl;exact rfl)|(first|refine zs ?_|fail))
 refine ak (ι:=Nat) (λi=>⟨1,[(0,.d (.slice 2 (l.map aw))),(1,.d (.slice 1 (a.map ah))),(5,.row 0),(9,.d (.slice 2 (l.map aw))),(10,.d (.int .i64 l.length)),(11,.d (.int .i64 i))],[(0,.row 3 1 (((l.take i).map (vA a)).map ah))]⟩)
  (λi=>i<=l.length) (λi=>l.length-i) 0 (Ai _) (ag id ⟨rfl,rfl,rfl,rfl,by rw [<- ll];rfl,rfl,trivial⟩ ⟨rfl,trivial⟩ rfl rfl rfl rfl rfl rfl) ?_
 intro i g1;by_cases hi:i<l.length
 ·have ho:=hok _ (Ag hi);unfold okT at ho;have ht:l.take (i+1)=l.take i++[l[i]]:=Am hi;by_cases hv:l[i].var<0
  ·have hva:vA a l[i]=l[i].n:=by unfold vA;rw [if_pos hv]
   repeat' (first|refine zs ?_|(refine zm ?_ ?_<;>intro hg)|(exfalso;omega))
   exact⟨i+1,hi,ag (λ_=>2) ⟨rfl,rfl,rfl,rfl,rfl,rfl,trivial⟩ ⟨by rw [ht,Av,Av,Ff,hva];rfl,trivial⟩ rfl rfl rfl rfl rfl rfl,by omega⟩
  ·have hlt:l[i].var.toNat<a.length:=by omega
   have hva:vA a l[i]=a[l[i].var.toNat]:=by unfold vA;rw [if_neg hv,A9,Ab hlt];rfl
   repeat' (first|refine zs ?_|(refine zm ?_ ?_<;>intro hg)|(exfalso;omega))
   exact⟨i+1,hi,ag (λ_=>2) ⟨rfl,rfl,rfl,rfl,rfl,rfl,trivial⟩ ⟨by rw [ht,Av,Av,Ff,hva];rfl,trivial⟩ rfl rfl rfl rfl rfl rfl,by omega⟩
 ·rw [Ak (by omega)];repeat' (first|refine zs ?_|(refine zm ?_ ?_<;>intro hg)|(exfalso;omega))
  refine au (cr 4 rfl rfl rfl) ?_;repeat' (apply dv)
  exact⟨.inl rfl,_,rfl,rfl,rfl⟩
theorem waysO_fn (p:Prg) (n:Int) (l:List Fct):Fn 20 [db p,.d (.int .i64 n),.d (.slice 2 (l.map aa))] (λr=>r = .tup [.d (.own Bnds.B (.slice 1 ((zq p n l).map cx))),.d (.int .i64 (vw p n l))]):=by
 refine fqE Tryz.func20 ?_;intro O w0 E0 β0;have w1:=ready_fn p n l;unfold zq vw;by_cases h0:vt p n l≠0
 ·rw [if_pos h0,if_neg h0];repeat' (first|refine zs ?_|refine z21 ?_ (hc:=by apply w1)|(refine zm ?_ ?_<;>intro hg)|(exfalso;omega))
  refine au (cz 6 1 rfl) ?_;repeat' (first|refine zr ?_|fail)
  exact⟨.inl rfl,_,rfl,rfl,rfl⟩
 ·rw [if_neg h0];have h0:vt p n l=0:=by simpa using h0
  rw [if_pos h0];have hw:=wayOk h0;have hlo:=hw.lo;have hhi:=hw.hi;have lr:(p.rules.map a6).length=p.rules.length:=Aa _;have w2:=set_fn l (by have:=hw.len;omega) (λx hx=>by have:=hw.alen x hx;omega);have hSl:(av l).length<=60:=by have:=sa l [];have:=hw.len;show ((l.foldl su []).length)<=60;simp at *;omega
  have w3:=rawO_fn (av l) (iu p n) (a8 l).1 (by omega) hw.ruls;unfold dg at w3 ⊢;rw [tw hhi] at w3 ⊢;clear hw;cases hm:manyW (av l) p.rules[n.toNat] with
  | true =>
   rw [hm] at w3;rw [if_pos rfl,if_pos rfl];rw [if_pos rfl] at w3;repeat' (first|refine zr ?_|refine z21 ?_ (hc:=by apply w1)|refine z22 ?_ (hc:=by apply w2)|refine z22 ?_ (hc:=by apply w3)|(refine zm ?_ ?_<;>intro hg)|(exfalso;omega))
   exact⟨.inl rfl,_,rfl,rfl,rfl⟩
  | false =>
   rw [hm] at w3;rw [if_neg (by simp),if_neg (by simp)];rw [if_neg (by simp)] at w3;repeat' (first|refine zs ?_|refine z21 ?_ (hc:=by apply w1)|refine z22 ?_ (hc:=by apply w2)|refine z22 ?_ (hc:=by apply w3)|(refine zm ?_ ?_<;>intro hg)|(exfalso;omega))
   refine au (cz 6 1 rfl) ?_;repeat' (first|refine zr ?_|fail)
   exact⟨.inl rfl,_,rfl,rfl,rfl⟩
theorem ways_fn (p:Prg) (n:Int) (l:List Fct):Fn 20 [db p,.d (.int .i64 n),.d (.slice 2 (l.map aa))] (λr=>r = .tup [.d (.slice 1 ((zq p n l).map cx)),.d (.int .i64 (vw p n l))]):=(waysO_fn p n l).unown
variable [Bnds]
def vg (a b:Int):Bool:=decide (a=b)
theorem ne_not {a b:Int} {c:Bool} (h:decide (a≠b) = !c):vg a b=c:=by
 unfold vg;cases c<;>simp_all
theorem wv (l m:List (Int)):Fn 56 [.d (.slice 1 (l.map ah)),.d (.slice 1 (m.map ah))] (λr=>r = .d (.bool (d7 vg l m))):=by
 refine fqE Tryz.func56 ?_;intro O w0 E0 β0;refine c8 (t:=0) rfl λhb=>?_
 repeat' (first|refine zs ?_|fail)
 refine bi rfl (λh=>?_) (λh=>?_)
 ·have hne:l.length≠m.length:=by rw [Aa,Aa] at h;omega
  repeat' (first|refine zr ?_|fail)
  exact cm rfl (yo _ _ _ hne).symm
 ·have hlen:l.length=m.length:=by rw [Aa,Aa] at h;omega
  repeat' (first|refine zs ?_|fail)
  refine ak (ι:=Nat) (λi=>⟨0,[(0,.d (.slice 1 (l.map ah))),(1,.d (.slice 1 (m.map ah))),(5,.d (.int .i64 i))],[]⟩)
   (λi=>i<=l.length/\d7 vg l m=d7 vg (l.drop i) (m.drop i)) (λi=>l.length-i) 0 ⟨Ai _,rfl⟩
   (er id) ?_
  rintro i ⟨h1,h2⟩;repeat' (first|refine zs ?_|fail)
  refine bi rfl (λh=>?_) (λh=>?_)
  ·have hi:i<l.length:=by rw [Aa] at h;omega
   have hm:i<m.length:=by omega
   have hd:=sameL_drop vg l m i hi hm;repeat' (first|refine zs ?_|fail)
   refine ff rfl (λhb=>?_) (λhb=>?_)
   ·have hp:vg l[i] m[i]=false:=by exact ne_not hb
    repeat' (first|refine zr ?_|fail)
    exact cm rfl (by rw [h2,hd,hp];rfl)
   ·have hp:vg l[i] m[i]=true:=by exact ne_not hb
    repeat' (first|refine zs ?_|fail)
    exact⟨i+1,⟨hi,by rw [h2,hd,hp];rfl⟩,er id,by omega⟩
  ·repeat' (first|refine zr ?_|fail)
   exact cm rfl (by rw [h2,sameL_end _ _ _ _ (by rw [Aa] at h;omega) (by rw [Aa] at h;omega)])
variable [Bnds]
structure HeadOk (arity:List Int) (r:Rul) (ways:List (List Int)):Prop where
 rul:RulR arity r
 many:ways.length<=2000
 len:∀ w∈ways,w.length=r.vars.toNat
 nums:∀ w∈ways,∀ y∈w,-1000000<=y/\y<=1000000
 tlen:r.terms.length<=3
def headD (r:Rul) (ways:List (List Int)) (w:List Int):Option Fct:=if r.fold=0 then some ⟨r.pred,aW r w⟩
 else if numB (pp r.fold (k6 (ways.map (pW r)) (pW r w).1)) then some ⟨r.pred,(pW r w).1++[pp r.fold (k6 (ways.map (pW r)) (pW r w).1)]⟩ else none
theorem mr (r:Rul) (ways:List (List Int)):ep r ways=ways.filterMap (headD r ways):=by
 unfold ep;by_cases h:r.fold=0
 ·rw [if_pos h,<- List.filterMap_eq_map];congr 1;funext w;unfold headD;rw [if_pos h];rfl
 ·rw [if_neg h];congr 1;funext w;unfold headD;rw [if_neg h]
theorem HeadOk.terms {arity:List Int} {r:Rul} {ways:List (List Int)} (h:HeadOk arity r ways) {w:List Int} (hw:w∈ways):∀ t∈r.terms,okT w.length t:=by
 intro t ht;have h1:=h.rul.terms t ht;have h2:=h.rul.vars;rw [h.len w hw];unfold okT;omega
theorem HeadOk.vals {arity:List Int} {r:Rul} {ways:List (List Int)} (h:HeadOk arity r ways) {w:List Int} (hw:w∈ways):∀ x∈aW r w,-1000000<=x/\x<=1000000:=by
 intro x hx;obtain⟨t,ht,rfl⟩:=List.mem_map.1 hx;unfold vA;split
 ·exact (h.rul.terms t ht).2.2
 ·rename_i hv;have hlt:t.var.toNat<w.length:=by have:=h.terms hw t ht;unfold okT at this;omega
  rw [A9,Ab hlt];exact h.nums w hw _ (Ag hlt)
theorem sameI_eq (a b:List Int):d7 vg a b=decide (a=b):=by
 by_cases h:a=b
 ·subst h;rw [decide_eq_true rfl];induction a with
  | nil=>rfl
  | cons x a ih=>unfold d7;simp [vg,ih]
 ·rw [decide_eq_false h];cases hs:d7 vg a b with
  | false=>rfl
  | true =>
   exfalso;apply h;clear h;induction a generalizing b with
   | nil=>cases b with|nil=>rfl|cons y b=>simp [d7] at hs
   | cons x a ih =>
    cases b with
    | nil=>simp [d7] at hs
    | cons y b =>
     simp only [d7,vg,Ad,decide_eq_true_eq] at hs;rw [hs.1,ih b hs.2]
theorem nj {α β:Type} (f:α->Option β) {l:List α} {i:Nat} (hi:i<l.length):(l.take (i+1)).filterMap f=(l.take i).filterMap f++(f l[i]).toList:=by
 rw [Am hi,List.filterMap_append,List.filterMap_cons,List.filterMap_nil];cases f l[i]<;>rfl
theorem ov {α β:Type} (f:α->Option β) (l:List α) (i:Nat):((l.take i).filterMap f).length<=i:=Ar (Em _ _) (by rw [Au];omega)
theorem fold_small (fold:Int):∀ (l:List Int) (n m B:Int),0<=m->0<=B->-B<=n->n<=B->m<=B->(∀ x∈l,-1000000<=x/\x<=1000000) ->
  -(B+1000000*l.length)<=(l.foldl (di fold) (n,m)).1/\(l.foldl (di fold) (n,m)).1<=B+1000000*l.length/\(l.foldl (di fold) (n,m)).2=m+l.length
 | [],n,m,B,_,_,h1,h2,_,_=>by simp;omega
 | x::l,n,m,B,h0,hB,h1,h2,h3,hl=>by
  have hx:=hl x (Ae ..);rw [A2];have hs:-(B+1000000)<=(di fold (n,m) x).1/\(di fold (n,m) x).1<=B+1000000/\(di fold (n,m) x).2=m+1:=by
   unfold di;dsimp only;refine⟨?_,?_,rfl⟩<;>(repeat' split)<;>omega
  generalize hst:di fold (n,m) x=st at hs;obtain⟨n',m'⟩:=st;dsimp only at hs;obtain⟨s1,s2,rfl⟩:=hs;obtain⟨r1,r2,r3⟩:=fold_small fold l n' (m+1) (B+1000000) (by omega) (by omega) s1 s2 (by omega) λy hy=>hl y (Ah _ hy)
  rw [Bn];refine⟨by omega,by omega,by omega⟩
theorem headsOf_fn (arity:List Int) (r:Rul) (ways:List (List Int)) (hok:HeadOk arity r ways):Fn 114 [k8 r,.d (.slice 1 (ways.map cx))] (λres=>res = .d (.slice 2 ((av (ep r ways)).map aa))):=by
 refine fqE Tryz.func114 ?_;intro O w0 E0 β0;rw [mr];have hmany:=hok.many;have htl:=hok.tlen;have lw:(ways.map cx).length=ways.length:=Aa _;have lt:(r.terms.map aw).length=r.terms.length:=Aa _;have wset:=wu (ways.filterMap (headD r ways)) (Ar (Em _ _) (by omega));by_cases h0:r.fold=0
 ·repeat' ((fail_if_success (apply iz 3));(first|refine zs ?_|fail))
  refine au (dm (t:=5) 37 2 rfl) ?_;repeat' (first|refine zs ?_|fail)
  refine ak (ι:=Nat) (λi=>⟨2,[(1,.d (.slice 1 (ways.map cx))),(2,.loc 0 0),(5,.row 1),(7,.d (.int .i64 i))],[(0,.blk 64 [.d (.int .i64 r.pred),.d (.slice 2 (r.terms.map aw)),.d (.int .i64 r.fold),.d (.slice 4 (r.body.map ay)),.d (.int .i64 r.vars)]),(1,.row 37 2 (((ways.take i).filterMap (headD r ways)).map aa))]⟩)
   (λi=>i<=ways.length) (λi=>ways.length-i) 0 (Ai _) (er id) ?_
  intro i g1;by_cases hi:i<ways.length
  ·have hm:=Ag hi;have w1:=zn r.terms ways[i] (hok.terms hm) (by omega);have hst:=nj (headD r ways) hi;have hhd:headD r ways ways[i]=some ⟨r.pred,aW r ways[i]⟩:=by unfold headD;rw [if_pos h0]
   rw [hhd] at hst;have lo:((ways.take i).filterMap (headD r ways)).length<=i:=ov _ _ _;clear wset;repeat' (first|refine zs ?_|refine z22 ?_ (hc:=by apply w1)|(refine zm ?_ ?_<;>intro hg)|(exfalso;omega))
   exact⟨i+1,hi,ag (λj=>match j with|1=>2|j=>j) ⟨rfl,rfl,rfl,rfl,trivial⟩ ⟨rfl,by rw [hst,Av];rfl,trivial⟩ rfl rfl rfl rfl rfl rfl,by omega⟩
  ·rw [Ak (by omega)];repeat' (first|refine zs ?_|(refine zm ?_ ?_<;>intro hg)|(exfalso;omega))
   refine jw (cr 127 rfl rfl rfl) ?_;repeat' (first|refine zr ?_|refine z21 ?_ (hc:=by apply wset)|fail)
   exact⟨.inl rfl,_,rfl,rfl,rfl⟩
 ·have hpos:=(hok.rul.folded h0).1;obtain⟨m,hm⟩:∃ m,r.terms.length=m+1:=⟨r.terms.length-1,by omega⟩;have hfold:=hok.rul.fold;repeat' ((fail_if_success (apply iz 3));(first|refine zs ?_|fail))
  refine au (dm (t:=5) 37 2 rfl) ?_;repeat' (first|refine zs ?_|fail)
  refine ak (ι:=Nat) (λi=>⟨2,[(1,.d (.slice 1 (ways.map cx))),(2,.loc 0 0),(5,.row 1),(6,.d (.int .i64 m)),(7,.d (.int .i64 i))],[(0,.blk 64 [.d (.int .i64 r.pred),.d (.slice 2 (r.terms.map aw)),.d (.int .i64 r.fold),.d (.slice 4 (r.body.map ay)),.d (.int .i64 r.vars)]),(1,.row 37 2 (((ways.take i).filterMap (headD r ways)).map aa))]⟩)
   (λi=>i<=ways.length) (λi=>ways.length-i) 0 (Ai _) (ag id ⟨rfl,rfl,rfl,congrArg (λz=>SV.d (D.int .i64 z)) (show ((r.terms.map aw).length:Int)-1=m by omega),rfl,trivial⟩ ⟨rfl,rfl,trivial⟩ rfl rfl rfl rfl rfl rfl) ?_
  intro i g1;dsimp only at g1 ⊢;by_cases hi:i<ways.length
  ·have hmi:=Ag hi;have w1:=zn r.terms ways[i] (hok.terms hmi) (by omega);have hst:=nj (headD r ways) hi;have lo:((ways.take i).filterMap (headD r ways)).length<=i:=ov _ _ _;have hla:(aW r ways[i]).length=m+1:=by unfold aW;rw [Aa];exact hm
   have lla:((aW r ways[i]).map ah).length=m+1:=by rw [Aa];exact hla
   have hp:(pW r ways[i]).1=(aW r ways[i]).take m:=by unfold pW;rw [hm];rfl
   clear wset;rw [show r.terms.map (vA ways[i])=aW r ways[i] from rfl] at w1;repeat' ((fail_if_success (apply iz 10));(first|refine zs ?_|refine z22 ?_ (hc:=by apply w1)|(refine zm ?_ ?_<;>intro hg)|fail))
   all_goals try (exfalso;omega)
   generalize hP:(pW r ways[i]).1=P at hp;refine dw_cut (ι:=Unit) (λ_=>⟨2,[(1,.d (.slice 1 (ways.map cx))),(2,.loc 0 0),(5,.row 1),(6,.d (.int .i64 m)),(7,.d (.int .i64 i)),(8,.d (.slice 1 ((aW r ways[i]).map ah))),(9,.d (.int .i64 (pp r.fold (k6 (ways.map (pW r)) P))))],[(0,.blk 64 [.d (.int .i64 r.pred),.d (.slice 2 (r.terms.map aw)),.d (.int .i64 r.fold),.d (.slice 4 (r.body.map ay)),.d (.int .i64 r.vars)]),(1,.row 37 2 (((ways.take i).filterMap (headD r ways)).map aa))]⟩) (λ_=>True) ?_ ?_
   ·repeat' (first|refine zs ?_|fail)
    refine ak (ι:=Nat×Int×Int) (λx=>⟨2,[(1,.d (.slice 1 (ways.map cx))),(2,.loc 0 0),(5,.row 1),(6,.d (.int .i64 m)),(7,.d (.int .i64 i)),(8,.d (.slice 1 ((aW r ways[i]).map ah))),(9,.d (.int .i64 x.2.1)),(10,.d (.int .i64 x.2.2)),(11,.d (.int .i64 x.1))],[(0,.blk 64 [.d (.int .i64 r.pred),.d (.slice 2 (r.terms.map aw)),.d (.int .i64 r.fold),.d (.slice 4 (r.body.map ay)),.d (.int .i64 r.vars)]),(1,.row 37 2 (((ways.take i).filterMap (headD r ways)).map aa))]⟩)
     (λx=>x.1<=ways.length/\(k6 ((ways.take x.1).map (pW r)) P).foldl (di r.fold) (0,0)=(x.2.1,x.2.2)) (λx=>ways.length-x.1) (0,0,0) ⟨Ai _,rfl⟩ (er id) ?_
    rintro⟨k,n,mm⟩ ⟨f1,f2⟩;dsimp only at f1 f2 ⊢;by_cases hk:k<ways.length
    ·have hmk:=Ag hk;have w2:=zn r.terms ways[k] (hok.terms hmk) (by omega);rw [show r.terms.map (vA ways[k])=aW r ways[k] from rfl] at w2;have hlb:(aW r ways[k]).length=m+1:=by unfold aW;rw [Aa];exact hm
     have llb:((aW r ways[k]).map ah).length=m+1:=by rw [Aa];exact hlb
     have hvb:=hok.vals hmk;have w3:=wv ((aW r ways[i]).take m) ((aW r ways[k]).take m);rw [sameI_eq] at w3;have hst2:k6 ((ways.take (k+1)).map (pW r)) P=k6 ((ways.take k).map (pW r)) P++if (pW r ways[k]).1=P then [(pW r ways[k]).2] else []:=by
      rw [Am hk,Av];exact grpL_snoc _ _ _
     have hpk:(pW r ways[k]).1=(aW r ways[k]).take m:=by unfold pW;rw [hm];rfl
     have hx:(pW r ways[k]).2=(aW r ways[k])[m]'(by omega):=by
      unfold pW;rw [hm];simp only [G0];rw [A9,Ab (by omega)];rfl
     have hxb:=hvb _ (Ag (show m<(aW r ways[k]).length by omega));have hsm:=fold_small r.fold (k6 ((ways.take k).map (pW r)) P) 0 0 0 (Dv _) (Dv _) (by omega) (Dv _) (Dv _) (λx hx=>by
      obtain⟨z,hz,rfl⟩:=List.mem_map.1 hx;obtain⟨u,hu,rfl⟩:=List.mem_map.1 (List.mem_filter.1 hz).1;have hu':=B1 hu;have:=hok.vals hu'
      unfold pW;rw [hm];simp only [G0];have hlu:m<(aW r u).length:=by unfold aW;rw [Aa];omega
      rw [A9,Ab hlu];exact this _ (Ag hlu))
     have hgl:(k6 ((ways.take k).map (pW r)) P).length<=k:=by
      unfold k6;rw [Aa];refine Ar (Cj _ _) ?_;rw [Aa,Au];omega
     rw [f2] at hsm;dsimp only at hsm;by_cases he:(aW r ways[i]).take m=(aW r ways[k]).take m
     ·rw [decide_eq_true he] at w3;rw [if_pos (by rw [hpk,<- he,<- hp])] at hst2;have f3:(k6 ((ways.take (k+1)).map (pW r)) P).foldl (di r.fold) (0,0)=di r.fold (n,mm) ((aW r ways[k])[m]'(by omega)):=by rw [hst2,List.foldl_append,f2,hx];rfl
      clear hst2 w1;have fin:∀ (val:Int),di r.fold (n,mm) ((aW r ways[k])[m]'(by omega))=(val,mm+1)->(k6 ((ways.take (k+1)).map (pW r)) P).foldl (di r.fold) (0,0)=(val,mm+1):=λval h=>f3.trans h
      by_cases q1:r.fold=1
      ·have hs:di r.fold (n,mm) ((aW r ways[k])[m]'(by omega))=(mm+1,mm+1):=by unfold di;dsimp only;rw [if_pos q1]
       repeat' (first|refine zs ?_|refine z22 ?_ (hc:=by apply w2)|refine z22 ?_ (hc:=by apply w3)|(refine zm ?_ ?_<;>intro hg)|(exfalso;omega))
       all_goals exact⟨(k+1,mm+1,mm+1),⟨hk,fin _ hs⟩,er id,by show ways.length-(k+1)<ways.length-k;omega⟩
      ·by_cases q2:r.fold=2
       ·have hs:di r.fold (n,mm) ((aW r ways[k])[m]'(by omega))=(n+(aW r ways[k])[m]'(by omega),mm+1):=by unfold di;dsimp only;rw [if_neg q1,if_pos q2]
        repeat' (first|refine zs ?_|refine z22 ?_ (hc:=by apply w2)|refine z22 ?_ (hc:=by apply w3)|(refine zm ?_ ?_<;>intro hg)|(exfalso;omega))
        all_goals exact⟨(k+1,n+(aW r ways[k])[m]'(by omega),mm+1),⟨hk,fin _ hs⟩,er id,by show ways.length-(k+1)<ways.length-k;omega⟩
       ·by_cases q3:mm+1=1
        ·have hs:di r.fold (n,mm) ((aW r ways[k])[m]'(by omega))=((aW r ways[k])[m]'(by omega),mm+1):=by unfold di;dsimp only;rw [if_neg q1,if_neg q2,if_pos (.inl q3)]
         repeat' (first|refine zs ?_|refine z22 ?_ (hc:=by apply w2)|refine z22 ?_ (hc:=by apply w3)|(refine zm ?_ ?_<;>intro hg)|(exfalso;omega))
         all_goals exact⟨(k+1,(aW r ways[k])[m]'(by omega),mm+1),⟨hk,fin _ hs⟩,er id,by show ways.length-(k+1)<ways.length-k;omega⟩
        ·by_cases q4:r.fold=3
         ·by_cases q5:((aW r ways[k])[m]'(by omega))<n
          ·have hs:di r.fold (n,mm) ((aW r ways[k])[m]'(by omega))=((aW r ways[k])[m]'(by omega),mm+1):=by unfold di;dsimp only;rw [if_neg q1,if_neg q2,if_pos (.inr (.inl ⟨q4,q5⟩))]
           repeat' (first|refine zs ?_|refine z22 ?_ (hc:=by apply w2)|refine z22 ?_ (hc:=by apply w3)|(refine zm ?_ ?_<;>intro hg)|(exfalso;omega))
           all_goals exact⟨(k+1,(aW r ways[k])[m]'(by omega),mm+1),⟨hk,fin _ hs⟩,er id,by show ways.length-(k+1)<ways.length-k;omega⟩
          ·have hs:di r.fold (n,mm) ((aW r ways[k])[m]'(by omega))=(n,mm+1):=by unfold di;dsimp only;rw [if_neg q1,if_neg q2,if_neg (by omega)]
           repeat' (first|refine zs ?_|refine z22 ?_ (hc:=by apply w2)|refine z22 ?_ (hc:=by apply w3)|(refine zm ?_ ?_<;>intro hg)|(exfalso;omega))
           all_goals exact⟨(k+1,n,mm+1),⟨hk,fin _ hs⟩,er id,by show ways.length-(k+1)<ways.length-k;omega⟩
         ·by_cases q5:n<((aW r ways[k])[m]'(by omega))
          ·have hs:di r.fold (n,mm) ((aW r ways[k])[m]'(by omega))=((aW r ways[k])[m]'(by omega),mm+1):=by unfold di;dsimp only;rw [if_neg q1,if_neg q2,if_pos (.inr (.inr ⟨by omega,q5⟩))]
           repeat' (first|refine zs ?_|refine z22 ?_ (hc:=by apply w2)|refine z22 ?_ (hc:=by apply w3)|(refine zm ?_ ?_<;>intro hg)|(exfalso;omega))
           all_goals exact⟨(k+1,(aW r ways[k])[m]'(by omega),mm+1),⟨hk,fin _ hs⟩,er id,by show ways.length-(k+1)<ways.length-k;omega⟩
          ·have hs:di r.fold (n,mm) ((aW r ways[k])[m]'(by omega))=(n,mm+1):=by unfold di;dsimp only;rw [if_neg q1,if_neg q2,if_neg (by omega)]
           repeat' (first|refine zs ?_|refine z22 ?_ (hc:=by apply w2)|refine z22 ?_ (hc:=by apply w3)|(refine zm ?_ ?_<;>intro hg)|(exfalso;omega))
           all_goals exact⟨(k+1,n,mm+1),⟨hk,fin _ hs⟩,er id,by show ways.length-(k+1)<ways.length-k;omega⟩
     ·rw [decide_eq_false he] at w3;rw [if_neg (by rw [hpk,hp];exact λh=>he h.symm),B0] at hst2;rw [<- hst2] at f2;repeat' (first|refine zs ?_|refine z22 ?_ (hc:=by apply w2)|refine z22 ?_ (hc:=by apply w3)|(refine zm ?_ ?_<;>intro hg)|(exfalso;omega))
      exact⟨(k+1,n,mm),⟨hk,f2⟩,er id,by show ways.length-(k+1)<ways.length-k;omega⟩
    ·rw [Ak (by omega)] at f2;have hn:pp r.fold (k6 (ways.map (pW r)) P)=n:=by unfold pp;rw [f2]
     rw [hn];repeat' (first|refine zs ?_|(refine zm ?_ ?_<;>intro hg)|(exfalso;omega))
     exact⟨(),trivial,er id⟩
   ·rintro _ _;dsimp only;have hhd:headD r ways ways[i]=if numB (pp r.fold (k6 (ways.map (pW r)) P)) then some ⟨r.pred,P++[pp r.fold (k6 (ways.map (pW r)) P)]⟩ else none:=by unfold headD;rw [if_neg h0,hP]
    generalize pp r.fold (k6 (ways.map (pW r)) P)=n at hhd ⊢;have w4:=kh n;cases hb:numB n with
    | false =>
     rw [hb] at w4 hhd;rw [hhd] at hst;repeat' (first|refine zs ?_|refine z21 ?_ (hc:=by apply w4)|(exfalso;omega))
     exact⟨i+1,hi,ag id ⟨rfl,rfl,rfl,rfl,rfl,trivial⟩ ⟨rfl,by rw [hst];simp only [Do,if_false,Option.toList_none,B0];rfl,trivial⟩ rfl rfl rfl rfl rfl rfl,by omega⟩
    | true =>
     rw [hb] at w4 hhd;rw [hhd] at hst;have hPl:(P.map ah).length<=3:=by rw [Aa,hp,Au];omega
     repeat' (first|(apply dt_bs0;exact rfl;exact rfl;exact rfl;exact rfl;exact rfl;exact rfl;exact rfl;exact rfl;exact rfl;exact rfl)|(first|refine zs ?_|refine z21 ?_ (hc:=by apply w4)|fail))
     all_goals try (exfalso;omega)
     have hen:aa ⟨r.pred,P++[n]⟩=[.int .i64 r.pred,.slice 1 (((aW r ways[i]).take m).map ah++[[.int .i64 n]])]:=by
      unfold aa;rw [Av,hp];rfl
     exact⟨i+1,hi,ag (λj=>match j with|1=>15|j=>j) ⟨rfl,rfl,rfl,rfl,rfl,trivial⟩ ⟨rfl,by rw [hst,if_pos rfl,Option.toList_some,Av,Ff,hen];rfl,trivial⟩ rfl rfl rfl rfl rfl rfl,by omega⟩
  ·rw [Ak (by omega)];repeat' (first|refine zs ?_|(refine zm ?_ ?_<;>intro hg)|(exfalso;omega))
   refine jw (cr 127 rfl rfl rfl) ?_;repeat' (first|refine zr ?_|refine z21 ?_ (hc:=by apply wset)|fail)
   exact⟨.inl rfl,_,rfl,rfl,rfl⟩
variable [Bnds]
theorem outE_num {e:RE} (h:pj e):∀ y∈bl e,-1000000<=y/\y<=1000000:=by
 intro y hy;obtain⟨x,hx,rfl⟩:=List.mem_map.1 hy;obtain⟨v,hv⟩:=List.getElem?_of_mem hx;cases x with
 | none=>simp
 | some z=>exact h v z hv
theorem fromE_num {S:List Fct} {body:List Ltl}:∀ (ys:List Ltl) (e:RE),okB S e.length body->(∀ l∈ys,l∈body/\l.kind=1)->pj e->∀ a∈dt S body ys e,∀ y∈a,-1000000<=y/\y<=1000000
 | [],e,hok,_,hn,a,ha=>by
  rw [dt] at ha
  cases hr:o0 body (body.length+1) e with
  | none=>rw [hr] at ha;simp at ha
  | some e' =>
   rw [hr] at ha
   simp only at ha
   split at ha
   ·simp at ha
   ·rw [A5] at ha
    subst ha
    exact outE_num (recN_num hok hn hr)
 | l::ys,e,hok,hys,hn,a,ha=>by
  rw [dt] at ha
  cases hr:o0 body (body.length+1) e with
  | none=>rw [hr] at ha;simp at ha
  | some e' =>
   rw [hr] at ha
   simp only at ha
   obtain⟨g1,_⟩:=nz hok.lit hr
   have hn':=recN_num hok hn hr
   obtain⟨hl,hl1⟩:=hys l (Ae ..)
   split at ha
   ·simp at ha
   ·unfold xn at ha
    rw [if_pos hl1,List.mem_flatMap] at ha
    obtain⟨x,hx,ha⟩:=ha
    split at ha
    ·rename_i hp
     split at ha
     ·rename_i e'' he''
      have hlk:=hok.lit l hl
      obtain⟨k1,_⟩:=fh (hlk.facts hl1 x hx hp).symm (by rw [g1];exact hlk.terms) he''
      exact fromE_num ys e'' (by rw [k1,g1];exact hok) (λl hl=>hys l (Ah _ hl)) (uh hn' (hok.facts x hx) he'') a ha
     ·simp at ha
    ·simp at ha
theorem way_num {S:List Fct} {v:Nat} {body:List Ltl} (hok:okB S v body) {a:List Int} (ha:a∈dt S body (jl body) (e0 v)):∀ y∈a,-1000000<=y/\y<=1000000 :=
 fromE_num (jl body) (e0 v) (by rw [show (e0 v).length=v from List.length_replicate];exact hok) (λl hl=>⟨(List.mem_filter.1 hl).1,of_decide_eq_true (List.mem_filter.1 hl).2⟩)
  (λu x hx=>by unfold e0 at hx;rw [D6] at hx;split at hx<;>simp at hx) a ha
theorem wayL_ok {p:Prg} {n:Int} {l:List Fct} (h:WayOk p n l):HeadOk p.arity (iu p n) (zq p n l):=by
 have hS:=(a8 l).1;have hnd:(av l).Nodup:=hS.imp λh he=>by subst he;exact lt_irrefl h
 obtain⟨_,p2,p3⟩:=jq hnd h.ruls.ok.lit h.ruls.bd;have hmem:∀ w∈zq p n l,w∈dt (av l) (iu p n).body (jl (iu p n).body) (e0 (iu p n).vars.toNat):=by
  intro w hw;unfold zq dg at hw;split at hw
  ·split at hw
   ·exact (fk _ _ _).mem_iff.1 hw
   ·simp at hw
  ·simp at hw
 refine⟨h.rul,?_,λw hw=>((p3 w).1 (hmem w hw)).1,λw hw y hy=>?_,h.tlen⟩
 ·unfold zq dg;split
  ·split
   ·rename_i hm;unfold manyW at hm;exact of_decide_eq_true hm
   ·simp
  ·simp
 ·have hw':=hmem w hw;exact way_num h.ruls.ok hw' y hy
theorem made0O_fn (arity:List Int) (r:Rul) (ways:List (List Int)) (hok:HeadOk arity r ways) (h0:r.fold=0):Fn 61 [k8 r,.d (.slice 1 (ways.map cx))] (λres=>res = .d (.own Bnds.B (.slice 2 ((av (ep r ways)).map aa)))):=by
 refine fqE Tryz.func61 ?_;intro O w0 E0 β0;rw [mr];have hmany:=hok.many;have htl:=hok.tlen;have lw:(ways.map cx).length=ways.length:=Aa _;have lt:(r.terms.map aw).length=r.terms.length:=Aa _;have hal:∀ x∈ways.filterMap (headD r ways),x.args.length<=17592186044416:=by
  intro x hx;obtain⟨w,hw,hx⟩:=List.mem_filterMap.1 hx;unfold headD at hx;rw [if_pos h0] at hx;simp only [Option.some.injEq] at hx;subst hx;unfold aW;simp only [Aa];omega
 have wset:=yn (ways.filterMap (headD r ways)) (Ar (Em _ _) (by omega)) hal;repeat' ((fail_if_success (apply iz 2));(first|refine zs ?_|fail))
 refine au (dm (t:=5) 37 2 rfl) ?_;repeat' (first|refine zs ?_|(refine zm ?_ ?_<;>intro hg)|(exfalso;omega))
 refine ak (ι:=Nat) (λi=>⟨2,[(1,.d (.slice 1 (ways.map cx))),(2,.loc 0 0),(5,.row 1),(21,.d (.slice 1 (ways.map cx))),(22,.d (.int .i64 ways.length)),(23,.d (.int .i64 i))],[(0,.blk 64 [.d (.int .i64 r.pred),.d (.slice 2 (r.terms.map aw)),.d (.int .i64 r.fold),.d (.slice 4 (r.body.map ay)),.d (.int .i64 r.vars)]),(1,.row 37 2 (((ways.take i).filterMap (headD r ways)).map aa))]⟩)
  (λi=>i<=ways.length) (λi=>ways.length-i) 0 (Ai _) (ag id ⟨rfl,rfl,rfl,rfl,by rw [<- lw];rfl,rfl,trivial⟩ ⟨rfl,rfl,trivial⟩ rfl rfl rfl rfl rfl rfl) ?_
 intro i g1;by_cases hi:i<ways.length
 ·have hm:=Ag hi;have w1:=args_fn r.terms ways[i] (hok.terms hm) (by omega);have hst:=nj (headD r ways) hi;have hhd:headD r ways ways[i]=some ⟨r.pred,aW r ways[i]⟩:=by unfold headD;rw [if_pos h0]
  rw [hhd] at hst;have lo:((ways.take i).filterMap (headD r ways)).length<=i:=ov _ _ _;clear wset;repeat' (first|refine zs ?_|refine z22 ?_ (hc:=by apply w1)|(refine zm ?_ ?_<;>intro hg)|(exfalso;omega))
  exact⟨i+1,hi,ag (λj=>match j with|1=>11|j=>j) ⟨rfl,rfl,rfl,rfl,rfl,rfl,trivial⟩ ⟨rfl,by rw [hst,Av];rfl,trivial⟩ rfl rfl rfl rfl rfl rfl,by omega⟩
 ·rw [Ak (by omega)];repeat' (first|refine zs ?_|(refine zm ?_ ?_<;>intro hg)|(exfalso;omega))
  refine jw (cr 38 rfl rfl rfl) ?_;repeat' (first|refine zr ?_|refine z21 ?_ (hc:=by apply wset)|fail)
  exact⟨.inl rfl,_,rfl,rfl,rfl⟩
theorem made0_fn (arity:List Int) (r:Rul) (ways:List (List Int)) (hok:HeadOk arity r ways) (h0:r.fold=0):Fn 61 [k8 r,.d (.slice 1 (ways.map cx))] (λres=>res = .d (.slice 2 ((av (ep r ways)).map aa))):=(made0O_fn arity r ways hok h0).unown
variable [Bnds]
def ks (fold:Int) (x:Ltl):Int:=if x.kind=2∨fold≠0 then 1 else 0
def lvLit (fold pred:Int) (lv:List Int) (x:Ltl):List Int :=
 if 2<x.kind then lv
 else if lv.getD pred.toNat 0<lv.getD x.pred.toNat 0+ks fold x then lv.set pred.toNat (lv.getD x.pred.toNat 0+ks fold x) else lv
def lvRule (lv:List Int) (r:Rul):List Int:=r.body.foldl (lvLit r.fold r.pred) lv
def km (l:List Rul) (lv:List Int):List Int:=l.foldl lvRule lv
def nf (l:List Rul):Nat->List Int->List Int
 | 0,lv=>lv
 | n+1,lv=>nf l n (km l lv)
def leL (a b:List Int):Prop:=a.length=b.length/\∀ i,a.getD i 0<=b.getD i 0
theorem leL.refl (a:List Int):leL a a:=⟨rfl,λ_=>Dv _⟩
theorem leL.trans {a b c:List Int} (h:leL a b) (g:leL b c):leL a c:=⟨h.1.trans g.1,λi=>F8 (h.2 i) (g.2 i)⟩
variable [Bnds]
def c7 (x:Ltl):Bool:=decide (x.kind=1) || decide (x.kind=2)
def m6 (fold:Int) (x:Ltl):Bool:=decide (x.kind=2) || decide (fold≠0)
def kr (fold:Int) (x:Ltl):Int:=if m6 fold x then 1 else 0
def iv (fold pred:Int) (x:Ltl) (lv:List Int) (ch:Bool):List Int×Bool :=
 if lv.getD pred.toNat 0<lv.getD x.pred.toNat 0+kr fold x then (lv.set pred.toNat (lv.getD x.pred.toNat 0+kr fold x),true) else (lv,ch)
def fb (n fold pred:Int) (st:Option (List Int×Bool)) (x:Ltl):Option (List Int×Bool):=match st with
 | none=>none
 | some (lv,ch)=>if n<lv.getD x.pred.toNat 0+kr fold x then none else some (iv fold pred x lv ch)
def je (n:Int) (st:Option (List Int×Bool)) (r:Rul):Option (List Int×Bool):=(r.body.filter c7).foldl (fb n r.fold r.pred) st
def qn (n:Int) (l:List Rul) (lv:List Int):Option (List Int×Bool):=l.foldl (je n) (some (lv,false))
def ou (n:Int) (l:List Rul):Nat->List Int->Option (List Int)
 | 0,_=>none
 | k+1,lv=>match qn n l lv with
  | none=>none
  | some (lv',true)=>ou n l k lv'
  | some (lv',false)=>some lv'
def gap (n:Int) (lv:List Int):Nat:=(lv.map λv=>(n-v).toNat).sum
def il (n:Nat):List Int:=An n 0
def rawL (p:Prg):Option (List Int):=ou p.arity.length p.rules (p.arity.length*p.arity.length+1) (il p.arity.length)
theorem gap_set {n:Int}:∀ {lv:List Int} {i:Nat} {v:Int} (h:i<lv.length),lv[i]<v->v<=n->gap n (lv.set i v)<gap n lv
 | [],_,_,h,_,_=>by simp at h
 | u::lv,0,v,_,hv,hn=>by
  simp only [gap,List.set_cons_zero,A7,Hw,List.getElem_cons_zero] at hv ⊢
  omega
 | u::lv,i+1,v,h,hv,hn=>by
  have:=gap_set (n:=n) (lv:=lv) (i:=i) (v:=v) (by simpa using h) (by simpa using hv) hn
  simp only [gap,G1,A7,Hw] at this ⊢
  omega
theorem gap_zeros (n m:Nat):gap n (il m)=m*n:=by
 unfold gap il;rw [List.map_replicate,List.sum_replicate_nat];simp
def Rs (n:Int) (lv0 lv:List Int) (ch:Bool):Prop:=lv.length=lv0.length/\(∀ v∈lv,0<=v/\v<=n)/\gap n lv<=gap n lv0/\(ch=true->gap n lv<gap n lv0)
theorem Rs.refl {n:Int} {lv:List Int} (h:∀ v∈lv,0<=v/\v<=n):Rs n lv lv false:=⟨rfl,h,Nat.le_refl _,λh=>by cases h⟩
theorem Rs.step {n fold pred:Int} {lv0 lv:List Int} {ch:Bool} {x:Ltl} (h:Rs n lv0 lv ch) (hp:pred.toNat<lv0.length) (hl:¬ n<lv.getD x.pred.toNat 0+kr fold x):Rs n lv0 (iv fold pred x lv ch).1 (iv fold pred x lv ch).2:=by
 obtain⟨h1,h2,h3,h4⟩:=h;unfold iv;split
 ·rename_i hlt;have hp':pred.toNat<lv.length:=by omega
  rw [A9,Ab hp',C4] at hlt;have:=gap_set (n:=n) hp' hlt (by omega)
  refine⟨by simpa using h1,λv hv=>?_,by simp only;omega,λ_=>by simp only;omega⟩
  rcases List.mem_or_eq_of_mem_set hv with h|h
  ·exact h2 v h
  ·have:=(h2 _ (Ag hp')).1
   omega
 ·exact⟨h1,h2,h3,h4⟩
theorem jd (n fold pred:Int):∀ (b:List Ltl),b.foldl (fb n fold pred) none=none
 | []=>rfl
 | _::b=>jd n fold pred b
theorem kj (n:Int):∀ (l:List Rul),l.foldl (je n) none=none
 | []=>rfl
 | r::l=>by
  rw [A2,show je n none r=none from jd _ _ _ _]
  exact kj n l
theorem rawStep_if {n fold pred:Int} {lv:List Int} {ch:Bool} {x:Ltl} (h1:x.pred.toNat<lv.length) (h2:pred.toNat<lv.length):fb n fold pred (some (lv,ch)) x =
  if n<lv[x.pred.toNat]+kr fold x then none else if lv[pred.toNat]<lv[x.pred.toNat]+kr fold x then some (lv.set pred.toNat (lv[x.pred.toNat]+kr fold x),true) else some (lv,ch):=by
 simp only [fb,iv,A9,Ab h1,Ab h2,C4];split
 ·rfl
 ·split<;>rfl
theorem Rs.next {n fold pred:Int} {lv0 lv lv':List Int} {ch ch':Bool} {x:Ltl} (h:Rs n lv0 lv ch) (hp:pred.toNat<lv0.length) (hs:fb n fold pred (some (lv,ch)) x=some (lv',ch')):Rs n lv0 lv' ch':=by
 unfold fb at hs;split at hs
 ·cases hs
 ·rename_i heq;cases heq;split at hs
  ·cases hs
  ·rename_i hl;have:=h.step (fold:=fold) hp hl
   injection hs with hs
   rw [hs] at this;exact this
variable [Bnds]
def xk (st:List Bool×List Int) (x:Ltl):List Bool×List Int:=if st.1.getD x.pred.toNat false then st else (st.1.set x.pred.toNat true,st.2++[x.pred])
def xj (n:Int) (st:List Bool×List Int) (r:Rul):List Bool×List Int:=if r.pred=n then (r.body.filter c7).foldl xk st else st
def nIter (l:List Rul):Nat->List Bool×List Int->List Bool
 | 0,st=>st.1
 | _+1,(out,[])=>out
 | k+1,(out,n::left)=>nIter l k (l.foldl (xj n) (out,left))
def ud (p:Prg) (pred:Int):List Bool:=nIter p.rules (2*p.arity.length+1) ((An p.arity.length false).set pred.toNat true,[pred])
theorem count_set':∀ {bs:List Bool} {i:Nat} (_:i<bs.length),bs[i]?=some false->(bs.set i true).count false+1=bs.count false
 | [],_,h,_=>by simp at h
 | b::bs,0,_,hb=>by simp at hb;subst hb;simp
 | b::bs,i+1,h,hb=>by
  have:=count_set' (bs:=bs) (i:=i) (by simpa using h) (by simpa using hb)
  rw [G1,E4,E4]
  omega
def Ns (n m:Nat) (st:List Bool×List Int):Prop:=st.1.length=n/\2*st.1.count false+st.2.length<=m/\∀ v∈st.2,0<=v/\v<n
theorem Ns.step {n m:Nat} {st:List Bool×List Int} {x:Ltl} (h:Ns n m st) (hx:0<=x.pred/\x.pred<n):Ns n m (xk st x):=by
 obtain⟨h1,h2,h3⟩:=h;unfold xk;split
 ·exact⟨h1,h2,h3⟩
 ·rename_i hf;have hl:x.pred.toNat<st.1.length:=by omega
  have hg:st.1[x.pred.toNat]?=some false:=by
   rw [Ab hl];rw [A9,Ab hl,C4] at hf;cases hb:st.1[x.pred.toNat] with
   | true=>exact absurd hb hf
   | false=>rfl
  have:=count_set' hl hg
  refine⟨by simpa using h1,by simp only [Ap,Bh];omega,λv hv=>?_⟩
  rcases List.mem_append.1 hv with hv|hv
  ·exact h3 v hv
  ·simp at hv;subst hv;exact hx
theorem nLit_len (st:List Bool×List Int) (x:Ltl):(xk st x).1.length=st.1.length:=by unfold xk;split<;>simp
theorem nLits_len:∀ (b:List Ltl) (st:List Bool×List Int),(b.foldl xk st).1.length=st.1.length
 | [],_=>rfl
 | x::b,st=>(nLits_len b (xk st x)).trans (nLit_len st x)
theorem nRule_len (n:Int) (st:List Bool×List Int) (r:Rul):(xj n st r).1.length=st.1.length:=by
 unfold xj;split
 ·exact nLits_len _ _
 ·rfl
theorem nRules_len (n:Int):∀ (l:List Rul) (st:List Bool×List Int),(l.foldl (xj n) st).1.length=st.1.length
 | [],_=>rfl
 | r::l,st=>(nRules_len n l (xj n st r)).trans (nRule_len n st r)
theorem nIter_len (l:List Rul):∀ (m:Nat) (st:List Bool×List Int),(nIter l m st).length=st.1.length
 | 0,_=>rfl
 | _+1,(_,[])=>rfl
 | m+1,(out,n::left)=>(nIter_len l m _).trans (nRules_len n l (out,left))
theorem needsL_len (p:Prg) (pred:Int):(ud p pred).length=p.arity.length:=by unfold ud;rw [nIter_len];simp
variable [Bnds]
structure LvFit (p:Prg) (lv:List Int):Prop where
 len:lv.length=p.arity.length
 fit:∀ r∈p.rules,∀ l∈r.body,l.kind<=2->lv.getD l.pred.toNat 0+ks r.fold l<=lv.getD r.pred.toNat 0
structure PrgR (p:Prg):Prop where
 rul:∀ r∈p.rules,RulR p.arity r
 ar:∀ i,0<=p.arity.getD i 0/\p.arity.getD i 0<=3
 alen:p.arity.length<=10
 rlen:p.rules.length<=12
def hdW (S:List Fct) (r:Rul):List Fct:=av (ep r (dg S r))
def LvA (p:Prg) (lv:List Int) (n:Int) (m0:List Fct) (S:List Fct):Prop :=
 (∀ x∈S,FctOk p.arity x)/\∀ x:Fct,lv.getD x.pred.toNat 0<n->(x∈S↔x∈m0)
def lvV (p:Prg) (lv:List Int) (n:Int) (m0:List Fct):Lv Rul where
 rs:=p.rules.filter λr=>decide (lv.getD r.pred.toNat 0=n)
 hd:=hdW
 mw:=manyW
 A:=LvA p lv n m0
theorem raw_sub {S:List Fct} {r:Rul} {w:List Int} (h:w∈dg S r):w∈dt S r.body (jl r.body) (e0 r.vars.toNat):=by
 unfold dg at h;split at h
 ·exact (fk _ _ _).mem_iff.1 h
 ·simp at h
theorem raw_ok {arity:List Int} {S:List Fct} {r:Rul} (hr:RulR arity r) (ha:∀ i,0<=arity.getD i 0/\arity.getD i 0<=3) (hS:∀ x∈S,FctOk arity x) (hn:S.Nodup):HeadOk arity r (dg S r):=by
 have hs:=oq hr ha hS;obtain⟨_,_,h3⟩:=jq hn hs.ok.lit hs.bd;refine⟨hr,?_,λw hw=>((h3 w).1 (raw_sub hw)).1,λw hw y hy=>way_num hs.ok (raw_sub hw) y hy,?_⟩
 ·unfold dg;split
  ·rename_i hm;exact of_decide_eq_true hm
  ·simp
 ·have:=hr.tlen
  have:=ha r.pred.toNat
  omega
theorem head_ok {arity:List Int} {r:Rul} {ways:List (List Int)} (h:HeadOk arity r ways) {x:Fct} (hx:x∈ep r ways):FctOk arity x/\x.pred=r.pred:=by
 rw [mr] at hx;obtain⟨w,hw,hx⟩:=List.mem_filterMap.1 hx;have hv:=h.vals hw;have hl:(aW r w).length=r.terms.length:=Aa _;unfold headD at hx;split at hx
 ·simp only [Option.some.injEq] at hx;subst hx;exact⟨⟨h.rul.pred,by rw [hl];exact h.rul.tlen,hv⟩,rfl⟩
 ·rename_i hf;split at hx
  ·rename_i hn;simp only [Option.some.injEq] at hx;subst hx;have h0:=(h.rul.folded hf).1;have hl2:(pW r w).1.length=r.terms.length-1:=by
    show ((aW r w).take (r.terms.length-1)).length=_;rw [Au,hl];omega
   refine⟨⟨h.rul.pred,?_,λy hy=>?_⟩,rfl⟩
   ·simp only [Ap,Bh,hl2];rw [show r.terms.length-1+1=r.terms.length by omega];exact h.rul.tlen
   ·rcases List.mem_append.1 hy with hy|hy
    ·exact hv y (B1 hy)
    ·rw [A5] at hy;subst hy;exact numB_in hn
  ·cases hx
theorem hdW_ok {p:Prg} (hp:PrgR p) {S:List Fct} {r:Rul} (hr:r∈p.rules) (hS:∀ x∈S,FctOk p.arity x) (hn:S.Nodup) {x:Fct} (hx:x∈hdW S r):FctOk p.arity x/\x.pred=r.pred :=
 head_ok (raw_ok (hp.rul r hr) hp.ar hS hn) (((a8 _).2 x).1 hx)
theorem hasF_mono {S T:List Fct} (h:∀ x∈S,x∈T) {x:Fct} (hx:hasF S x=true):hasF T x=true:=hasF_iff.2 (h x (hasF_iff.1 hx))
theorem hasF_cong {S T:List Fct} {x:Fct} (h:x∈S↔x∈T):hasF S x=hasF T x:=by
 rw [Bool.eq_iff_iff,hasF_iff,hasF_iff];exact h
theorem holdE_grow {S T:List Fct} {l:Ltl} {a:List Int} (h:∀ x∈S,x∈T) (hk:l.kind=2->∀ x:Fct,x.pred=l.pred->(x∈S↔x∈T)) (hh:holdE S l a=true):holdE T l a=true:=by
 unfold holdE at hh ⊢;split
 ·rename_i h1;rw [if_pos h1] at hh;exact hasF_mono h hh
 ·rename_i h1;rw [if_neg h1] at hh;split
  ·rename_i h2;rw [if_pos h2] at hh;rw [<- hasF_cong (hk h2 ⟨l.pred,l.terms.map (vA a)⟩ rfl)];exact hh
  ·rename_i h2;rw [if_neg h2] at hh;exact hh
theorem holdE_cong {S T:List Fct} {l:Ltl} {a:List Int} (hk:l.kind=1∨l.kind=2->∀ x:Fct,x.pred=l.pred->(x∈S↔x∈T)):holdE S l a=holdE T l a:=by
 unfold holdE;split
 ·rename_i h1;exact hasF_cong (hk (.inl h1) ⟨l.pred,l.terms.map (vA a)⟩ rfl)
 ·split
  ·rename_i h2;rw [hasF_cong (hk (.inr h2) ⟨l.pred,l.terms.map (vA a)⟩ rfl)]
  ·rfl
theorem ways_grow {arity:List Int} {r:Rul} {S T:List Fct} (hr:RulR arity r) (ha:∀ i,0<=arity.getD i 0/\arity.getD i 0<=3) (hS:∀ x∈S,FctOk arity x) (hT:∀ x∈T,FctOk arity x) (nS:S.Nodup) (nT:T.Nodup)
  (hst:∀ x∈S,x∈T) (hk:∀ l∈r.body,l.kind<=2->ks r.fold l=1->∀ x:Fct,x.pred=l.pred->(x∈S↔x∈T)) (hm:manyW T r=true) :
  manyW S r=true/\(∀ w∈dg S r,w∈dg T r)/\(r.fold≠0->dg S r=dg T r):=by
 have sS:=oq hr ha hS;have sT:=oq hr ha hT;obtain⟨_,p2,p3⟩:=jq nS sS.ok.lit sS.bd;obtain⟨_,q2,q3⟩:=jq nT sT.ok.lit sT.bd;have hsub:∀ w∈dt S r.body (jl r.body) (e0 r.vars.toNat),w∈dt T r.body (jl r.body) (e0 r.vars.toNat):=by
  intro w hw;obtain⟨h1,h2⟩:=(p3 w).1 hw;exact (q3 w).2 ⟨h1,λl hl=>holdE_grow hst (λh2=>hk l hl (by omega) (by unfold ks;rw [if_pos (.inl h2)])) (h2 l hl)⟩
 have hlen:(pn S r.vars.toNat r.body).length<=(pn T r.vars.toNat r.body).length:=by
  rw [(fk S r.vars.toNat r.body).length_eq,(fk T r.vars.toNat r.body).length_eq];exact mj p2 hsub
 have hmS:manyW S r=true:=by
  unfold manyW at hm ⊢;exact decide_eq_true (Ar hlen (of_decide_eq_true hm))
 refine⟨hmS,λw hw=>?_,λhf=>?_⟩
 ·have hw':=hsub w (raw_sub hw);unfold dg;rw [if_pos hm];exact (fk _ _ _).mem_iff.2 hw'
 ·have heq:∀ w,w∈dt S r.body (jl r.body) (e0 r.vars.toNat)↔w∈dt T r.body (jl r.body) (e0 r.vars.toNat):=by
   intro w;rw [p3 w,q3 w];refine and_congr_right λ_=>forall_congr' λl=>forall_congr' λhl=>?_
   rw [holdE_cong (S:=S) (T:=T) λh12=>hk l hl (by omega) (by unfold ks;rw [if_pos (.inr hf)])]
  have hp:=tt p2 q2 heq;unfold dg;rw [if_pos hm,if_pos hmS];exact r7 (waysL_sort _ _ _) ((fk _ _ _).trans hp)
theorem heads_grow {r:Rul} {S T:List Fct} (h2:∀ w∈dg S r,w∈dg T r) (h3:r.fold≠0->dg S r=dg T r):∀ x∈hdW S r,x∈hdW T r:=by
 intro x hx;have hx:=((a8 _).2 x).1 hx;refine ((a8 _).2 x).2 ?_;by_cases hf:r.fold=0
 ·unfold ep at hx ⊢;rw [if_pos hf] at hx ⊢;obtain⟨w,hw,rfl⟩:=List.mem_map.1 hx;exact List.mem_map.2 ⟨w,h2 w hw,rfl⟩
 ·rw [<- h3 hf];exact hx
theorem lvV_ok {p:Prg} (hp:PrgR p) {lv:List Int} (hl:LvFit p lv) (n:Int) (m0:List Fct):LvOk (lvV p lv n m0) where
 mono S T hS hT nS nT hst r hr hm:=by
  obtain⟨hr,hn⟩:=List.mem_filter.1 hr;have hn:=of_decide_eq_true hn;obtain⟨h1,h2,h3⟩:=ways_grow (hp.rul r hr) hp.ar hS.1 hT.1 nS.nodup nT.nodup hst (λl hlb hk hlift x hx=>by
   have:=hl.fit r hr l hlb hk
   have hlt:lv.getD x.pred.toNat 0<n:=by rw [hx];omega
   exact (hS.2 x hlt).trans (hT.2 x hlt).symm) hm
  exact⟨h1,heads_grow h2 h3⟩
 grow S T hS hst hT:=by
  refine⟨λx hx=>?_,λx hx=>⟨λhxT=>?_,λhx0=>hst x ((hS.2 x hx).2 hx0)⟩⟩
  ·rcases hT x hx with h|⟨r,hr,S',hS',nS',hx'⟩
   ·exact hS.1 x h
   ·exact (hdW_ok hp (List.mem_filter.1 hr).1 hS'.1 nS'.nodup hx').1
  ·rcases hT x hxT with h|⟨r,hr,S',hS',nS',hx'⟩
   ·exact (hS.2 x hx).1 h
   ·obtain⟨hr,hn⟩:=List.mem_filter.1 hr;have hn:=of_decide_eq_true hn;rw [(hdW_ok hp hr hS'.1 nS'.nodup hx').2] at hx;omega
def RunTo (p:Prg) (lv:List Int) (given:List Fct):Nat->List Fct->Prop
 | 0,m=>m=av given
 | n+1,M=>∃ m,RunTo p lv given n m/\Fit (lvV p lv n m) m M
theorem RunTo.unique {p:Prg} {lv:List Int} {given:List Fct}:∀ {n:Nat} {a b:List Fct},RunTo p lv given n a->RunTo p lv given n b->a=b
 | 0,_,_,h,g=>h.trans g.symm
 | _+1,_,_,⟨_,h1,h2⟩,⟨_,g1,g2⟩=>by
  have:=RunTo.unique h1 g1
  subst this
  exact h2.unique g2
theorem RunTo.ok {p:Prg} {lv:List Int} {given:List Fct} (hg:∀ x∈given,FctOk p.arity x) (hl:given.length<=60):∀ {n:Nat} {m:List Fct},RunTo p lv given n m->Strict m/\m.length<=60/\(∀ x∈m,FctOk p.arity x)/\∀ x∈given,x∈m
 | 0,m,h=>by
  subst h
  obtain⟨h1,h2⟩:=a8 given
  exact⟨h1,Ar (fu _) hl,λx hx=>hg x ((h2 x).1 hx),λx hx=>(h2 x).2 hx⟩
 | n+1,M,⟨m,h1,h2⟩=>by
  have ih:=RunTo.ok hg hl h1
  exact⟨h2.good.strict,h2.len,h2.good.a.1,λx hx=>h2.good.sub x (ih.2.2.2 x hx)⟩
variable [Bnds]
structure Edg where
 p:Nat
 q:Nat
 s:Int
def ng (lv:List Int) (e:Edg):List Int:=if lv.getD e.p 0<lv.getD e.q 0+e.s then lv.set e.p (lv.getD e.q 0+e.s) else lv
def gk (E:List Edg) (lv:List Int):List Int:=E.foldl ng lv
def itE (E:List Edg) (lv:List Int):Nat->List Int
 | 0=>lv
 | k+1=>gk E (itE E lv k)
def x6 (n:Nat) (E:List Edg):Prop:=∀ e∈E,e.p<n/\e.q<n/\0<=e.s/\e.s<=1
def yi (n:Nat) (E:List Edg) (F:List Int):Prop:=F.length=n/\(∀ i,0<=F.getD i 0)/\∀ e∈E,F.getD e.q 0+e.s<=F.getD e.p 0
theorem p8 (lv:List Int) (e:Edg):(ng lv e).length=lv.length:=by unfold ng;split<;>simp
theorem roundE_len:∀ (E:List Edg) (lv:List Int),(gk E lv).length=lv.length
 | [],_=>rfl
 | e::E,lv=>(roundE_len E (ng lv e)).trans (p8 lv e)
theorem itE_len (E:List Edg) (lv:List Int):∀ k,(itE E lv k).length=lv.length
 | 0=>rfl
 | k+1=>(roundE_len E _).trans (itE_len E lv k)
theorem wo (lv:List Int) (i:Nat) (v:Int) (hi:i<lv.length) (j:Nat):(lv.set i v).getD j 0=if i=j then v else lv.getD j 0:=by
 simp only [A9,List.getElem?_set];split
 ·rename_i h;subst h;first|rfl|(rw [if_pos hi];rfl)
 ·rfl
theorem liftE_le {n:Nat} {lv:List Int} {e:Edg} (hl:lv.length=n) (he:e.p<n) (i:Nat):lv.getD i 0<=(ng lv e).getD i 0:=by
 unfold ng;split
 ·rw [wo _ _ _ (by omega)];split
  ·rename_i h;subst h;omega
  ·exact Dv _
 ·exact Dv _
theorem liftE_edge {n:Nat} {lv:List Int} {e:Edg} (hl:lv.length=n) (he:e.p<n):lv.getD e.q 0+e.s<=(ng lv e).getD e.p 0:=by
 unfold ng;split
 ·rw [wo _ _ _ (by omega),if_pos rfl];omega
 ·omega
theorem roundE_le {n:Nat}:∀ {E:List Edg} {lv:List Int},lv.length=n->x6 n E->∀ i,lv.getD i 0<=(gk E lv).getD i 0
 | [],_,_,_,_=>Dv _
 | e::_,lv,hl,hE,i=>F8 (liftE_le hl (hE e (Ae ..)).1 i) (roundE_le ((p8 lv e).trans hl) (λx hx=>hE x (Ah _ hx)) i)
theorem wy {n:Nat}:∀ {E:List Edg} {lv:List Int},lv.length=n->x6 n E->∀ e∈E,lv.getD e.q 0+e.s<=(gk E lv).getD e.p 0
 | [],_,_,_,_,h=>nomatch h
 | x::E,lv,hl,hE,e,he=>by
  have hx:=hE x (Ae ..)
  have hE':x6 n E:=λy hy=>hE y (Ah _ hy)
  have hl':=(p8 lv x).trans hl
  rcases List.mem_cons.1 he with rfl|he
  ·exact F8 (liftE_edge hl hx.1) (roundE_le hl' hE' _)
  ·have h1:=wy hl' hE' e he
   have h2:=liftE_le (e:=x) hl hx.1 e.q
   show _<=(gk E (ng lv x)).getD e.p 0
   omega
theorem liftE_below {n:Nat} {E:List Edg} {F lv:List Int} {e:Edg} (hl:lv.length=n) (hF:yi n E F) (he:e∈E) (hp:e.p<n) (h:∀ i,lv.getD i 0<=F.getD i 0) (i:Nat):(ng lv e).getD i 0<=F.getD i 0:=by
 unfold ng;split
 ·rw [wo _ _ _ (by omega)];split
  ·rename_i h1;subst h1;have:=hF.2.2 e he
   have:=h e.q
   omega
  ·exact h i
 ·exact h i
theorem zx {n:Nat} {E:List Edg} {F:List Int} (hF:yi n E F) (hE:x6 n E):∀ (E2:List Edg) (lv:List Int),(∀ e∈E2,e∈E)->lv.length=n->(∀ i,lv.getD i 0<=F.getD i 0)->∀ i,(gk E2 lv).getD i 0<=F.getD i 0
 | [],_,_,_,h,i=>h i
 | e::E2,lv,hs,hl,h,i=>zx hF hE E2 (ng lv e) (λx hx=>hs x (Ah _ hx)) ((p8 lv e).trans hl)
   (λi=>liftE_below hl hF (hs e (Ae ..)) (hE e (hs e (Ae ..))).1 h i) i
theorem roundE_below {n:Nat} {E:List Edg} {F lv:List Int} (hF:yi n E F) (hE:x6 n E) (hl:lv.length=n) (h:∀ i,lv.getD i 0<=F.getD i 0) (i:Nat):(gk E lv).getD i 0<=F.getD i 0:=zx hF hE E lv (λ_ h=>h) hl h i
theorem ext_getD {a b:List Int} (hl:a.length=b.length) (h:∀ i,a.getD i 0=b.getD i 0):a=b:=by
 apply List.ext_getElem hl;intro i h1 h2;have:=h i
 rwa [A9,A9,Ab h1,Ab h2] at this
theorem rest_edge {n:Nat} {E:List Edg} {lv:List Int} (hl:lv.length=n) (hE:x6 n E) (hr:gk E lv=lv):∀ e∈E,lv.getD e.q 0+e.s<=lv.getD e.p 0:=by
 intro e he;have:=wy hl hE e he
 rwa [hr] at this
theorem edge_rest:∀ {E:List Edg} {lv:List Int},(∀ e∈E,lv.getD e.q 0+e.s<=lv.getD e.p 0)->gk E lv=lv
 | [],_,_=>rfl
 | e::E,lv,h=>by
  have h1:ng lv e=lv:=by
   unfold ng;rw [if_neg];have:=h e (Ae ..)
   omega
  show gk E (ng lv e)=lv;rw [h1];exact edge_rest λx hx=>h x (Ah _ hx)
section
variable {n : Nat} {E : List Edg} (hE : x6 n E)
abbrev L0 (E:List Edg) (n k:Nat):List Int:=itE E (il n) k
theorem kw (k:Nat):(L0 E n k).length=n:=by rw [itE_len];simp [il]
include hE
theorem L0_up (k i:Nat):(L0 E n k).getD i 0<=(L0 E n (k+1)).getD i 0:=roundE_le (kw k) hE i
omit hE in
theorem zeros_getD (n i:Nat):(il n).getD i 0=0:=by
 unfold il;rw [A9,D6];split<;>rfl
theorem L0_pos:∀ (k i:Nat),0<=(L0 E n k).getD i 0
 | 0,i=>by show 0<=(il n).getD i 0;rw [zeros_getD n];exact Dv _
 | k+1,i=>F8 (L0_pos k i) (L0_up hE k i)
theorem rc {F:List Int} (hF:yi n E F):∀ (k i:Nat),(L0 E n k).getD i 0<=F.getD i 0
 | 0,i=>by show (il n).getD i 0<=_;rw [zeros_getD n];exact hF.2.1 i
 | k+1,i=>roundE_below hF hE (kw k) (rc hF k) i
theorem rp {k:Nat} (h:L0 E n (k+1)=L0 E n k):yi n E (L0 E n k):=⟨kw k,L0_pos hE k,rest_edge (kw k) hE h⟩
def sett (n:Nat) (a b:List Int):Nat:=((F9 n).filter λi=>decide (a.getD i 0=b.getD i 0)).length
omit hE in
theorem filter_len_lt {α:Type} (f g:α->Bool):∀ (l:List α),(∀ x∈l,f x=true->g x=true)->(∃ x∈l,f x=false/\g x=true)->(l.filter f).length<(l.filter g).length
 | [],_,⟨_,h,_⟩=>nomatch h
 | y::l,hs,⟨x,hx,h1,h2⟩=>by
  have hle:(l.filter f).length<=(l.filter g).length:=by
   clear hx;have hs':∀ x∈l,f x=true->g x=true:=λx hx=>hs x (Ah _ hx)
   clear hs;induction l with
   | nil=>simp
   | cons z l ih =>
    have ih:=ih λx hx=>hs' x (Ah _ hx)
    have hz:=hs' z (Ae ..);simp only [Db];cases hf:f z<;>cases hg:g z<;>simp_all<;>omega
  rcases List.mem_cons.1 hx with rfl|hx
  ·simp only [Db,h1,h2,if_true,Bn,Do,if_false];omega
  ·have ih:=filter_len_lt f g l (λx hx=>hs x (Ah _ hx)) ⟨x,hx,h1,h2⟩;have hy:=hs y (Ae ..);simp only [Db];cases hf:f y<;>cases hg:g y<;>simp_all<;>omega
omit hE in
theorem iw (n:Nat) (f:Nat->Int) (i:Nat):((F9 n).map f).getD i 0=if i<n then f i else 0:=by
 rw [A9,List.getElem?_map];split
 ·rename_i h;rw [List.getElem?_range h];rfl
 ·rename_i h;rw [Ba (by simp;omega)];rfl
theorem settle {S:List Int} (hS:yi n E S) (hleast:∀ F,yi n E F->∀ i,S.getD i 0<=F.getD i 0) {k:Nat} (hne:L0 E n k≠S):sett n (L0 E n k) S<sett n (L0 E n (k+1)) S:=by
 have hb:=rc hE hS;refine filter_len_lt _ _ _ (λi hi h=>?_) ?_
 ·have h1:=of_decide_eq_true h;have h2:=L0_up hE k i;have h3:=hb (k+1) i;exact decide_eq_true (by omega)
 ·apply A1;intro hno;have hno:∀ i,i<n->(L0 E n (k+1)).getD i 0=S.getD i 0->(L0 E n k).getD i 0=S.getD i 0:=by
   intro i hi h1;apply A1;intro h2;exact hno ⟨i,List.mem_range.2 hi,decide_eq_false h2,decide_eq_true h1⟩
  let M:List Int:=(F9 n).map λi=>if (L0 E n k).getD i 0=S.getD i 0 then S.getD i 0 else S.getD i 0-1
  have hM:∀ i,i<n->M.getD i 0=if (L0 E n k).getD i 0=S.getD i 0 then S.getD i 0 else S.getD i 0-1:=λi hi=>by rw [iw,if_pos hi]
  have hfit:yi n E M:=by
   refine⟨by simp [M],λi=>?_,λe he=>?_⟩
   ·rw [iw];split
    ·have h1:=hb k i;have h2:=L0_pos hE k i;split<;>omega
    ·exact Dv _
   ·obtain⟨hp,hq,hs0,hs1⟩:=hE e he;have h1:=hS.2.2 e he;rw [hM _ hp,hM _ hq];by_cases hps:(L0 E n k).getD e.p 0=S.getD e.p 0
    ·rw [if_pos hps];split<;>omega
    ·rw [if_neg hps];split
     ·rename_i hqs;have h2:=wy (kw (E:=E) k) hE e he;have h3:=hb (k+1) e.p;have h4:¬ (L0 E n (k+1)).getD e.p 0=S.getD e.p 0:=λh=>hps (hno e.p hp h)
      have h5:(L0 E n k).getD e.q 0+e.s<=(L0 E n (k+1)).getD e.p 0:=h2;omega
     ·omega
  apply hne;refine ext_getD (by rw [kw,hS.1]) λi=>?_
  rcases Nat.lt_or_ge i n with hi|hi
  ·have h1:=hleast M hfit i;rw [hM i hi] at h1;split at h1
   ·assumption
   ·omega
  ·rw [A9,A9,Ba (by rw [kw];exact hi),Ba (by rw [hS.1];exact hi)]
omit hE in
theorem sett_le (a b:List Int):sett n a b<=n:=by
 have:=Cj (λi=>decide (a.getD i 0=b.getD i 0)) (F9 n)
 rw [List.length_range] at this;exact this
theorem settled {S:List Int} (hS:yi n E S) (hleast:∀ F,yi n E F->∀ i,S.getD i 0<=F.getD i 0):L0 E n n=S:=by
 have key:∀ k,L0 E n k=S∨k<=sett n (L0 E n k) S:=by
  intro k;induction k with
  | zero=>exact .inr (Ai _)
  | succ k ih =>
   by_cases h:L0 E n k=S
   ·left;show gk E (itE E (il n) k)=S;rw [show itE E (il n) k=S from h];exact edge_rest hS.2.2
   ·right;have h1:=settle hE hS hleast h;rcases ih with h2|h2
    ·exact absurd h2 h
    ·omega
 rcases key n with h|h
 ·exact h
 ·apply A1;intro hne;have h1:=settle hE hS hleast hne;have h2:=sett_le (n:=n) (L0 E n (n+1)) S;omega
omit hE in
theorem pigeon:∀ (m:Nat) (l:List Int),(∀ v:Nat,1<=v->v<=m->(v:Int)∈l)->m<=l.length
 | 0,_,_=>Ai _
 | m+1,l,h=>by
  have h1:=h (m+1) (by omega) (Nat.le_refl _)
  have h2:=pigeon m (l.erase ((m+1:Nat):Int)) λv hv1 hv2=>(List.mem_erase_of_ne (by omega)).2 (h v hv1 (by omega))
  rw [List.length_erase_of_mem h1] at h2
  have:=List.length_pos_of_mem h1
  omega
theorem least_bound (hF:yi n E (L0 E n n)) (i:Nat):(L0 E n n).getD i 0<=n:=by
 apply A1;intro hgt;have hgt:(n:Int)<(L0 E n n).getD i 0:=by omega
 have hin:∀ v:Nat,1<=v->v<=n+1->(v:Int)∈L0 E n n:=by
  intro v hv1 hv2;apply A1;intro hnot;have hnv:∀ j,j<n->(L0 E n n).getD j 0≠v:=by
   intro j hj h;apply hnot;rw [A9,Ab (by rw [kw];exact hj),C4] at h;rw [<- h];exact Ag _
  let M:List Int:=(F9 n).map λj=>if (v:Int)<(L0 E n n).getD j 0 then (L0 E n n).getD j 0-1 else (L0 E n n).getD j 0
  have hM:∀ j,j<n->M.getD j 0=if (v:Int)<(L0 E n n).getD j 0 then (L0 E n n).getD j 0-1 else (L0 E n n).getD j 0:=λj hj=>by rw [iw,if_pos hj]
  have hfit:yi n E M:=by
   refine⟨by simp [M],λj=>?_,λe he=>?_⟩
   ·rw [iw];split
    ·have:=hF.2.1 j
     split<;>omega
    ·exact Dv _
   ·obtain⟨hp,hq,hs0,hs1⟩:=hE e he;have h1:=hF.2.2 e he;have h2:=hnv e.q hq;rw [hM _ hp,hM _ hq];split<;>split<;>omega
  have hi:i<n:=by
   apply A1;intro h;rw [A9,Ba (by rw [kw];omega)] at hgt;simp at hgt;omega
  have h3:=rc hE hfit n i;have h5:=hnv i hi;rw [hM i hi,if_pos (by omega)] at h3;omega
 have:=pigeon (n+1) _ hin
 rw [kw] at this;omega
end
end Go.Proofs.YtapciiffpnociadGreat
