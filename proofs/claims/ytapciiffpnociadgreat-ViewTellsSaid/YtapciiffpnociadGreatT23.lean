/- Several texts in one: RuN RuO StrP StrQ StrN MoQ StrL StrM. Condition: none. -/
import Derived.Test.YtapciiffpnociadGreatT22
import Derived.Test.YtapciiffpnociadGreatT19
import Derived.Test.YtapciiffpnociadGreatT02
import Derived.Test.YtapciiffpnociadGreatT17
set_option maxHeartbeats 8000000
open Bool renaming false_eq_true→B3
open Classical renaming byContradiction→Bc
open Int renaming le_refl→Dn,le_trans→Gi
open List renaming append_nil→Bt,count_cons→Fb,filter_cons→B7,flatMap_cons→Dx,foldl_append→D5,foldl_cons→Bf,getD→A6,getElem?_eq_getElem→Ad,getElem?_eq_none→A8,getElem?_replicate→Gf,getElem_mem→Aj,length_append→Af,length_cons→Bj,length_filterMap_le→Ek,length_filter_le→C9,length_map→Aa,length_singleton→Au,length_take→Aq,map_append→Ar,map_cons→A3,mem_cons_of_mem→Ag,mem_cons_self→Ac,mem_of_mem_take→Bq,mem_singleton→A1,range→Gj,set_cons_succ→He,sum_cons→Ic,take_of_length_le→Ai,take_succ_eq_append_getElem→An
open Nat renaming add_sub_cancel→Ha,le_trans→A5,zero_le→Ak
open Option renaming getD_some→B6
namespace Go.Proofs.YtapciiffpnociadGreat
open Go Go.RowKit
structure HeadOk (arity:List Int) (r:Rul) (ways:List (List Int)):Prop where
 rul:RulR arity r
 many:ways.length<=2000
 len:∀ w∈ways,w.length=r.vars.toNat
 nums:∀ w∈ways,∀ y∈w,-1000000<=y/\y<=1000000
 tlen:r.terms.length<=3
def headD (r:Rul) (ways:List (List Int)) (w:List Int):Option Fct:=if r.fold=0 then some ⟨r.pred,aW r w⟩
 else if numB (pg r.fold (lz (ways.map (pW r)) (pW r w).1)) then some ⟨r.pred,(pW r w).1++[pg r.fold (lz (ways.map (pW r)) (pW r w).1)]⟩ else none
theorem qa (r:Rul) (ways:List (List Int)):jm r ways=ways.filterMap (headD r ways):=by
 unfold jm;by_cases h:r.fold=0
 ·rw [if_pos h,<- List.filterMap_eq_map];congr 1;funext w;unfold headD;rw [if_pos h];rfl
 ·rw [if_neg h];congr 1;funext w;unfold headD;rw [if_neg h]
theorem HeadOk.terms {arity:List Int} {r:Rul} {ways:List (List Int)} (h:HeadOk arity r ways) {w:List Int} (hw:w∈ways):∀ t∈r.terms,okT w.length t:=by
 intro t ht;have h1:=h.rul.terms t ht;have h2:=h.rul.vars;rw [h.len w hw];unfold okT;omega
theorem HeadOk.vals {arity:List Int} {r:Rul} {ways:List (List Int)} (h:HeadOk arity r ways) {w:List Int} (hw:w∈ways):∀ x∈aW r w,-1000000<=x/\x<=1000000:=by
 intro x hx;obtain⟨t,ht,rfl⟩:=List.mem_map.1 hx;unfold vA;split
 ·exact (h.rul.terms t ht).2.2
 ·rename_i hv;have hlt:t.var.toNat<w.length:=by have:=h.terms hw t ht;unfold okT at this;omega
  rw [A6,Ad hlt];exact h.nums w hw _ (Aj hlt)
theorem sameI_eq (a b:List Int):ea ve a b=decide (a=b):=by
 by_cases h:a=b
 ·subst h;rw [decide_eq_true rfl];induction a with
  | nil=>rfl
  | cons x a ih=>unfold ea;simp [ve,ih]
 ·rw [decide_eq_false h];cases hs:ea ve a b with
  | false=>rfl
  | true =>
   exfalso;apply h;clear h;induction a generalizing b with
   | nil=>cases b with|nil=>rfl|cons y b=>simp [ea] at hs
   | cons x a ih =>
    cases b with
    | nil=>simp [ea] at hs
    | cons y b =>
     simp only [ea,ve,Bool.and_eq_true,decide_eq_true_eq] at hs;rw [hs.1,ih b hs.2]
theorem nh {α β:Type} (f:α->Option β) {l:List α} {i:Nat} (hi:i<l.length):(l.take (i+1)).filterMap f=(l.take i).filterMap f++(f l[i]).toList:=by
 rw [An hi,List.filterMap_append,List.filterMap_cons,List.filterMap_nil];cases f l[i]<;>rfl
theorem og {α β:Type} (f:α->Option β) (l:List α) (i:Nat):((l.take i).filterMap f).length<=i:=A5 (Ek _ _) (by rw [Aq];omega)
theorem fold_small (fold:Int):∀ (l:List Int) (n m B:Int),0<=m->0<=B->-B<=n->n<=B->m<=B->(∀ x∈l,-1000000<=x/\x<=1000000) ->
  -(B+1000000*l.length)<=(l.foldl (dt fold) (n,m)).1/\(l.foldl (dt fold) (n,m)).1<=B+1000000*l.length/\(l.foldl (dt fold) (n,m)).2=m+l.length
 | [],n,m,B,_,_,h1,h2,_,_=>by simp;omega
 | x::l,n,m,B,h0,hB,h1,h2,h3,hl=>by
  have hx:=hl x (Ac ..);rw [Bf];have hs:-(B+1000000)<=(dt fold (n,m) x).1/\(dt fold (n,m) x).1<=B+1000000/\(dt fold (n,m) x).2=m+1:=by
   unfold dt;dsimp only;refine⟨?_,?_,rfl⟩<;>(repeat' split)<;>omega
  generalize hst:dt fold (n,m) x=st at hs;obtain⟨n',m'⟩:=st;dsimp only at hs;obtain⟨s1,s2,rfl⟩:=hs;obtain⟨r1,r2,r3⟩:=fold_small fold l n' (m+1) (B+1000000) (by omega) (by omega) s1 s2 (by omega) λy hy=>hl y (Ag _ hy)
  rw [Bj];refine⟨by omega,by omega,by omega⟩
attribute [local irreducible] DW DS DL DQ Ev FnOk FnP ef bt DT
theorem headsOf_fn (arity:List Int) (r:Rul) (ways:List (List Int)) (hok:HeadOk arity r ways):Fn 114 [vf r,.d (.slice 1 (ways.map ey))] (λres=>res = .d (.slice 2 ((a8 (jm r ways)).map ae))):=by
 refine fqE Tryz.func114 ?_;intro O w0 E0 β0;rw [qa];have hmany:=hok.many;have htl:=hok.tlen;have lw:(ways.map ey).length=ways.length:=Aa _;have lt:(r.terms.map av).length=r.terms.length:=Aa _;have wset:=sc (ways.filterMap (headD r ways)) (A5 (Ek _ _) (by omega));by_cases h0:r.fold=0
 ·repeat' ((fail_if_success (apply ip 3));(first|refine zs ?_|fail))
  refine ak (cd (t:=5) 37 2 rfl) ?_;repeat' (first|refine zs ?_|fail)
  refine ag (ι:=Nat) (λi=>⟨2,[(1,.d (.slice 1 (ways.map ey))),(2,.loc 0 0),(5,.row 1),(7,.d (.int .i64 i))],[(0,.blk 64 [.d (.int .i64 r.pred),.d (.slice 2 (r.terms.map av)),.d (.int .i64 r.fold),.d (.slice 4 (r.body.map ay)),.d (.int .i64 r.vars)]),(1,.row 37 2 (((ways.take i).filterMap (headD r ways)).map ae))]⟩)
   (λi=>i<=ways.length) (λi=>ways.length-i) 0 (Ak _) (er id) ?_
  intro i g1;by_cases hi:i<ways.length
  ·have hm:=Aj hi;have w1:=zh r.terms ways[i] (hok.terms hm) (by omega);have hst:=nh (headD r ways) hi;have hhd:headD r ways ways[i]=some ⟨r.pred,aW r ways[i]⟩:=by unfold headD;rw [if_pos h0]
   rw [hhd] at hst;have lo:((ways.take i).filterMap (headD r ways)).length<=i:=og _ _ _;clear wset;repeat' (first|refine zs ?_|refine z22 ?_ (hc:=by apply w1)|(refine zm ?_ ?_<;>intro hg)|(exfalso;omega))
   exact⟨i+1,hi,ai (λj=>match j with|1=>2|j=>j) ⟨rfl,rfl,rfl,rfl,trivial⟩ ⟨rfl,by rw [hst,Ar];rfl,trivial⟩ rfl rfl rfl rfl rfl rfl,by omega⟩
  ·rw [Ai (by omega)];repeat' (first|refine zs ?_|(refine zm ?_ ?_<;>intro hg)|(exfalso;omega))
   refine mc (bh 127 rfl rfl rfl) ?_;repeat' (first|refine zr ?_|refine z21 ?_ (hc:=by apply wset)|fail)
   exact⟨.inl rfl,_,rfl,rfl,rfl⟩
 ·have hpos:=(hok.rul.folded h0).1;obtain⟨m,hm⟩:∃ m,r.terms.length=m+1:=⟨r.terms.length-1,by omega⟩;have hfold:=hok.rul.fold;repeat' ((fail_if_success (apply ip 3));(first|refine zs ?_|fail))
  refine ak (cd (t:=5) 37 2 rfl) ?_;repeat' (first|refine zs ?_|fail)
  refine ag (ι:=Nat) (λi=>⟨2,[(1,.d (.slice 1 (ways.map ey))),(2,.loc 0 0),(5,.row 1),(6,.d (.int .i64 m)),(7,.d (.int .i64 i))],[(0,.blk 64 [.d (.int .i64 r.pred),.d (.slice 2 (r.terms.map av)),.d (.int .i64 r.fold),.d (.slice 4 (r.body.map ay)),.d (.int .i64 r.vars)]),(1,.row 37 2 (((ways.take i).filterMap (headD r ways)).map ae))]⟩)
   (λi=>i<=ways.length) (λi=>ways.length-i) 0 (Ak _) (ai id ⟨rfl,rfl,rfl,congrArg (λz=>SV.d (D.int .i64 z)) (show ((r.terms.map av).length:Int)-1=m by omega),rfl,trivial⟩ ⟨rfl,rfl,trivial⟩ rfl rfl rfl rfl rfl rfl) ?_
  intro i g1;dsimp only at g1 ⊢;by_cases hi:i<ways.length
  ·have hmi:=Aj hi;have w1:=zh r.terms ways[i] (hok.terms hmi) (by omega);have hst:=nh (headD r ways) hi;have lo:((ways.take i).filterMap (headD r ways)).length<=i:=og _ _ _;have hla:(aW r ways[i]).length=m+1:=by unfold aW;rw [Aa];exact hm
   have lla:((aW r ways[i]).map aq).length=m+1:=by rw [Aa];exact hla
   have hp:(pW r ways[i]).1=(aW r ways[i]).take m:=by unfold pW;rw [hm];rfl
   clear wset;rw [show r.terms.map (vA ways[i])=aW r ways[i] from rfl] at w1;repeat' ((fail_if_success (apply ip 10));(first|refine zs ?_|refine z22 ?_ (hc:=by apply w1)|(refine zm ?_ ?_<;>intro hg)|fail))
   all_goals try (exfalso;omega)
   generalize hP:(pW r ways[i]).1=P at hp;refine dw_cut (ι:=Unit) (λ_=>⟨2,[(1,.d (.slice 1 (ways.map ey))),(2,.loc 0 0),(5,.row 1),(6,.d (.int .i64 m)),(7,.d (.int .i64 i)),(8,.d (.slice 1 ((aW r ways[i]).map aq))),(9,.d (.int .i64 (pg r.fold (lz (ways.map (pW r)) P))))],[(0,.blk 64 [.d (.int .i64 r.pred),.d (.slice 2 (r.terms.map av)),.d (.int .i64 r.fold),.d (.slice 4 (r.body.map ay)),.d (.int .i64 r.vars)]),(1,.row 37 2 (((ways.take i).filterMap (headD r ways)).map ae))]⟩) (λ_=>True) ?_ ?_
   ·repeat' (first|refine zs ?_|fail)
    refine ag (ι:=Nat×Int×Int) (λx=>⟨2,[(1,.d (.slice 1 (ways.map ey))),(2,.loc 0 0),(5,.row 1),(6,.d (.int .i64 m)),(7,.d (.int .i64 i)),(8,.d (.slice 1 ((aW r ways[i]).map aq))),(9,.d (.int .i64 x.2.1)),(10,.d (.int .i64 x.2.2)),(11,.d (.int .i64 x.1))],[(0,.blk 64 [.d (.int .i64 r.pred),.d (.slice 2 (r.terms.map av)),.d (.int .i64 r.fold),.d (.slice 4 (r.body.map ay)),.d (.int .i64 r.vars)]),(1,.row 37 2 (((ways.take i).filterMap (headD r ways)).map ae))]⟩)
     (λx=>x.1<=ways.length/\(lz ((ways.take x.1).map (pW r)) P).foldl (dt r.fold) (0,0)=(x.2.1,x.2.2)) (λx=>ways.length-x.1) (0,0,0) ⟨Ak _,rfl⟩ (er id) ?_
    rintro⟨k,n,mm⟩ ⟨f1,f2⟩;dsimp only at f1 f2 ⊢;by_cases hk:k<ways.length
    ·have hmk:=Aj hk;have w2:=zh r.terms ways[k] (hok.terms hmk) (by omega);rw [show r.terms.map (vA ways[k])=aW r ways[k] from rfl] at w2;have hlb:(aW r ways[k]).length=m+1:=by unfold aW;rw [Aa];exact hm
     have llb:((aW r ways[k]).map aq).length=m+1:=by rw [Aa];exact hlb
     have hvb:=hok.vals hmk;have w3:=sameInts_fn ((aW r ways[i]).take m) ((aW r ways[k]).take m);rw [sameI_eq] at w3;have hst2:lz ((ways.take (k+1)).map (pW r)) P=lz ((ways.take k).map (pW r)) P++if (pW r ways[k]).1=P then [(pW r ways[k]).2] else []:=by
      rw [An hk,Ar];exact grpL_snoc _ _ _
     have hpk:(pW r ways[k]).1=(aW r ways[k]).take m:=by unfold pW;rw [hm];rfl
     have hx:(pW r ways[k]).2=(aW r ways[k])[m]'(by omega):=by
      unfold pW;rw [hm];simp only [Ha];rw [A6,Ad (by omega)];rfl
     have hxb:=hvb _ (Aj (show m<(aW r ways[k]).length by omega));have hsm:=fold_small r.fold (lz ((ways.take k).map (pW r)) P) 0 0 0 (Dn _) (Dn _) (by omega) (Dn _) (Dn _) (λx hx=>by
      obtain⟨z,hz,rfl⟩:=List.mem_map.1 hx;obtain⟨u,hu,rfl⟩:=List.mem_map.1 (List.mem_filter.1 hz).1;have hu':=Bq hu;have:=hok.vals hu'
      unfold pW;rw [hm];simp only [Ha];have hlu:m<(aW r u).length:=by unfold aW;rw [Aa];omega
      rw [A6,Ad hlu];exact this _ (Aj hlu))
     have hgl:(lz ((ways.take k).map (pW r)) P).length<=k:=by
      unfold lz;rw [Aa];refine A5 (C9 _ _) ?_;rw [Aa,Aq];omega
     rw [f2] at hsm;dsimp only at hsm;by_cases he:(aW r ways[i]).take m=(aW r ways[k]).take m
     ·rw [decide_eq_true he] at w3;rw [if_pos (by rw [hpk,<- he,<- hp])] at hst2;have f3:(lz ((ways.take (k+1)).map (pW r)) P).foldl (dt r.fold) (0,0)=dt r.fold (n,mm) ((aW r ways[k])[m]'(by omega)):=by rw [hst2,D5,f2,hx];rfl
      clear hst2 w1;have fin:∀ (val:Int),dt r.fold (n,mm) ((aW r ways[k])[m]'(by omega))=(val,mm+1)->(lz ((ways.take (k+1)).map (pW r)) P).foldl (dt r.fold) (0,0)=(val,mm+1):=λval h=>f3.trans h
      by_cases q1:r.fold=1
      ·have hs:dt r.fold (n,mm) ((aW r ways[k])[m]'(by omega))=(mm+1,mm+1):=by unfold dt;dsimp only;rw [if_pos q1]
       repeat' (first|refine zs ?_|refine z22 ?_ (hc:=by apply w2)|refine z22 ?_ (hc:=by apply w3)|(refine zm ?_ ?_<;>intro hg)|(exfalso;omega))
       all_goals exact⟨(k+1,mm+1,mm+1),⟨hk,fin _ hs⟩,er id,by show ways.length-(k+1)<ways.length-k;omega⟩
      ·by_cases q2:r.fold=2
       ·have hs:dt r.fold (n,mm) ((aW r ways[k])[m]'(by omega))=(n+(aW r ways[k])[m]'(by omega),mm+1):=by unfold dt;dsimp only;rw [if_neg q1,if_pos q2]
        repeat' (first|refine zs ?_|refine z22 ?_ (hc:=by apply w2)|refine z22 ?_ (hc:=by apply w3)|(refine zm ?_ ?_<;>intro hg)|(exfalso;omega))
        all_goals exact⟨(k+1,n+(aW r ways[k])[m]'(by omega),mm+1),⟨hk,fin _ hs⟩,er id,by show ways.length-(k+1)<ways.length-k;omega⟩
       ·by_cases q3:mm+1=1
        ·have hs:dt r.fold (n,mm) ((aW r ways[k])[m]'(by omega))=((aW r ways[k])[m]'(by omega),mm+1):=by unfold dt;dsimp only;rw [if_neg q1,if_neg q2,if_pos (.inl q3)]
         repeat' (first|refine zs ?_|refine z22 ?_ (hc:=by apply w2)|refine z22 ?_ (hc:=by apply w3)|(refine zm ?_ ?_<;>intro hg)|(exfalso;omega))
         all_goals exact⟨(k+1,(aW r ways[k])[m]'(by omega),mm+1),⟨hk,fin _ hs⟩,er id,by show ways.length-(k+1)<ways.length-k;omega⟩
        ·by_cases q4:r.fold=3
         ·by_cases q5:((aW r ways[k])[m]'(by omega))<n
          ·have hs:dt r.fold (n,mm) ((aW r ways[k])[m]'(by omega))=((aW r ways[k])[m]'(by omega),mm+1):=by unfold dt;dsimp only;rw [if_neg q1,if_neg q2,if_pos (.inr (.inl ⟨q4,q5⟩))]
           repeat' (first|refine zs ?_|refine z22 ?_ (hc:=by apply w2)|refine z22 ?_ (hc:=by apply w3)|(refine zm ?_ ?_<;>intro hg)|(exfalso;omega))
           all_goals exact⟨(k+1,(aW r ways[k])[m]'(by omega),mm+1),⟨hk,fin _ hs⟩,er id,by show ways.length-(k+1)<ways.length-k;omega⟩
          ·have hs:dt r.fold (n,mm) ((aW r ways[k])[m]'(by omega))=(n,mm+1):=by unfold dt;dsimp only;rw [if_neg q1,if_neg q2,if_neg (by omega)]
           repeat' (first|refine zs ?_|refine z22 ?_ (hc:=by apply w2)|refine z22 ?_ (hc:=by apply w3)|(refine zm ?_ ?_<;>intro hg)|(exfalso;omega))
           all_goals exact⟨(k+1,n,mm+1),⟨hk,fin _ hs⟩,er id,by show ways.length-(k+1)<ways.length-k;omega⟩
         ·by_cases q5:n<((aW r ways[k])[m]'(by omega))
          ·have hs:dt r.fold (n,mm) ((aW r ways[k])[m]'(by omega))=((aW r ways[k])[m]'(by omega),mm+1):=by unfold dt;dsimp only;rw [if_neg q1,if_neg q2,if_pos (.inr (.inr ⟨by omega,q5⟩))]
           repeat' (first|refine zs ?_|refine z22 ?_ (hc:=by apply w2)|refine z22 ?_ (hc:=by apply w3)|(refine zm ?_ ?_<;>intro hg)|(exfalso;omega))
           all_goals exact⟨(k+1,(aW r ways[k])[m]'(by omega),mm+1),⟨hk,fin _ hs⟩,er id,by show ways.length-(k+1)<ways.length-k;omega⟩
          ·have hs:dt r.fold (n,mm) ((aW r ways[k])[m]'(by omega))=(n,mm+1):=by unfold dt;dsimp only;rw [if_neg q1,if_neg q2,if_neg (by omega)]
           repeat' (first|refine zs ?_|refine z22 ?_ (hc:=by apply w2)|refine z22 ?_ (hc:=by apply w3)|(refine zm ?_ ?_<;>intro hg)|(exfalso;omega))
           all_goals exact⟨(k+1,n,mm+1),⟨hk,fin _ hs⟩,er id,by show ways.length-(k+1)<ways.length-k;omega⟩
     ·rw [decide_eq_false he] at w3;rw [if_neg (by rw [hpk,hp];exact λh=>he h.symm),Bt] at hst2;rw [<- hst2] at f2;repeat' (first|refine zs ?_|refine z22 ?_ (hc:=by apply w2)|refine z22 ?_ (hc:=by apply w3)|(refine zm ?_ ?_<;>intro hg)|(exfalso;omega))
      exact⟨(k+1,n,mm),⟨hk,f2⟩,er id,by show ways.length-(k+1)<ways.length-k;omega⟩
    ·rw [Ai (by omega)] at f2;have hn:pg r.fold (lz (ways.map (pW r)) P)=n:=by unfold pg;rw [f2]
     rw [hn];repeat' (first|refine zs ?_|(refine zm ?_ ?_<;>intro hg)|(exfalso;omega))
     exact⟨(),trivial,er id⟩
   ·rintro _ _;dsimp only;have hhd:headD r ways ways[i]=if numB (pg r.fold (lz (ways.map (pW r)) P)) then some ⟨r.pred,P++[pg r.fold (lz (ways.map (pW r)) P)]⟩ else none:=by unfold headD;rw [if_neg h0,hP]
    generalize pg r.fold (lz (ways.map (pW r)) P)=n at hhd ⊢;have w4:=kl n;cases hb:numB n with
    | false =>
     rw [hb] at w4 hhd;rw [hhd] at hst;repeat' (first|refine zs ?_|refine z21 ?_ (hc:=by apply w4)|(exfalso;omega))
     exact⟨i+1,hi,ai id ⟨rfl,rfl,rfl,rfl,rfl,trivial⟩ ⟨rfl,by rw [hst];simp only [B3,if_false,Option.toList_none,Bt];rfl,trivial⟩ rfl rfl rfl rfl rfl rfl,by omega⟩
    | true =>
     rw [hb] at w4 hhd;rw [hhd] at hst;have hPl:(P.map aq).length<=3:=by rw [Aa,hp,Aq];omega
     repeat' (first|(apply dt_bs0;exact rfl;exact rfl;exact rfl;exact rfl;exact rfl;exact rfl;exact rfl;exact rfl;exact rfl;exact rfl)|(first|refine zs ?_|refine z21 ?_ (hc:=by apply w4)|fail))
     all_goals try (exfalso;omega)
     have hen:ae ⟨r.pred,P++[n]⟩=[.int .i64 r.pred,.slice 1 (((aW r ways[i]).take m).map aq++[[.int .i64 n]])]:=by
      unfold ae;rw [Ar,hp];rfl
     exact⟨i+1,hi,ai (λj=>match j with|1=>15|j=>j) ⟨rfl,rfl,rfl,rfl,rfl,trivial⟩ ⟨rfl,by rw [hst,if_pos rfl,Option.toList_some,Ar,List.map_singleton,hen];rfl,trivial⟩ rfl rfl rfl rfl rfl rfl,by omega⟩
  ·rw [Ai (by omega)];repeat' (first|refine zs ?_|(refine zm ?_ ?_<;>intro hg)|(exfalso;omega))
   refine mc (bh 127 rfl rfl rfl) ?_;repeat' (first|refine zr ?_|refine z21 ?_ (hc:=by apply wset)|fail)
   exact⟨.inl rfl,_,rfl,rfl,rfl⟩
theorem outE_num {e:RE} (h:o6 e):∀ y∈bq e,-1000000<=y/\y<=1000000:=by
 intro y hy;obtain⟨x,hx,rfl⟩:=List.mem_map.1 hy;obtain⟨v,hv⟩:=List.getElem?_of_mem hx;cases x with
 | none=>simp
 | some z=>exact h v z hv
theorem fromE_num {S:List Fct} {body:List Ltl}:∀ (ys:List Ltl) (e:RE),okB S e.length body->(∀ l∈ys,l∈body/\l.kind=1)->o6 e->∀ a∈ed S body ys e,∀ y∈a,-1000000<=y/\y<=1000000
 | [],e,hok,_,hn,a,ha=>by
  rw [ed] at ha
  cases hr:oh body (body.length+1) e with
  | none=>rw [hr] at ha;simp at ha
  | some e' =>
   rw [hr] at ha
   simp only at ha
   split at ha
   ·simp at ha
   ·rw [A1] at ha
    subst ha
    exact outE_num (recN_num hok hn hr)
 | l::ys,e,hok,hys,hn,a,ha=>by
  rw [ed] at ha
  cases hr:oh body (body.length+1) e with
  | none=>rw [hr] at ha;simp at ha
  | some e' =>
   rw [hr] at ha
   simp only at ha
   obtain⟨g1,_⟩:=nu hok.lit hr
   have hn':=recN_num hok hn hr
   obtain⟨hl,hl1⟩:=hys l (Ac ..)
   split at ha
   ·simp at ha
   ·unfold xm at ha
    rw [if_pos hl1,List.mem_flatMap] at ha
    obtain⟨x,hx,ha⟩:=ha
    split at ha
    ·rename_i hp
     split at ha
     ·rename_i e'' he''
      have hlk:=hok.lit l hl
      obtain⟨k1,_⟩:=f9 (hlk.facts hl1 x hx hp).symm (by rw [g1];exact hlk.terms) he''
      exact fromE_num ys e'' (by rw [k1,g1];exact hok) (λl hl=>hys l (Ag _ hl)) (uh hn' (hok.facts x hx) he'') a ha
     ·simp at ha
    ·simp at ha
theorem way_num {S:List Fct} {v:Nat} {body:List Ltl} (hok:okB S v body) {a:List Int} (ha:a∈ed S body (jz body) (e0 v)):∀ y∈a,-1000000<=y/\y<=1000000 :=
 fromE_num (jz body) (e0 v) (by rw [show (e0 v).length=v from List.length_replicate];exact hok) (λl hl=>⟨(List.mem_filter.1 hl).1,of_decide_eq_true (List.mem_filter.1 hl).2⟩)
  (λu x hx=>by unfold e0 at hx;rw [Gf] at hx;split at hx<;>simp at hx) a ha
theorem made0_fn (arity:List Int) (r:Rul) (ways:List (List Int)) (hok:HeadOk arity r ways) (h0:r.fold=0):Fn 61 [vf r,.d (.slice 1 (ways.map ey))] (λres=>res = .d (.slice 2 ((a8 (jm r ways)).map ae))):=by
 refine fqE Tryz.func61 ?_;intro O w0 E0 β0;rw [qa];have hmany:=hok.many;have htl:=hok.tlen;have lw:(ways.map ey).length=ways.length:=Aa _;have lt:(r.terms.map av).length=r.terms.length:=Aa _;have hal:∀ x∈ways.filterMap (headD r ways),x.args.length<=17592186044416:=by
  intro x hx;obtain⟨w,hw,hx⟩:=List.mem_filterMap.1 hx;unfold headD at hx;rw [if_pos h0] at hx;simp only [Option.some.injEq] at hx;subst hx;unfold aW;simp only [Aa];omega
 have wset:=set_fn (ways.filterMap (headD r ways)) (A5 (Ek _ _) (by omega)) hal;repeat' ((fail_if_success (apply ip 2));(first|refine zs ?_|fail))
 refine ak (cd (t:=5) 37 2 rfl) ?_;repeat' (first|refine zs ?_|(refine zm ?_ ?_<;>intro hg)|(exfalso;omega))
 refine ag (ι:=Nat) (λi=>⟨2,[(1,.d (.slice 1 (ways.map ey))),(2,.loc 0 0),(5,.row 1),(21,.d (.slice 1 (ways.map ey))),(22,.d (.int .i64 ways.length)),(23,.d (.int .i64 i))],[(0,.blk 64 [.d (.int .i64 r.pred),.d (.slice 2 (r.terms.map av)),.d (.int .i64 r.fold),.d (.slice 4 (r.body.map ay)),.d (.int .i64 r.vars)]),(1,.row 37 2 (((ways.take i).filterMap (headD r ways)).map ae))]⟩)
  (λi=>i<=ways.length) (λi=>ways.length-i) 0 (Ak _) (ai id ⟨rfl,rfl,rfl,rfl,by rw [<- lw];rfl,rfl,trivial⟩ ⟨rfl,rfl,trivial⟩ rfl rfl rfl rfl rfl rfl) ?_
 intro i g1;by_cases hi:i<ways.length
 ·have hm:=Aj hi;have w1:=args_fn r.terms ways[i] (hok.terms hm) (by omega);have hst:=nh (headD r ways) hi;have hhd:headD r ways ways[i]=some ⟨r.pred,aW r ways[i]⟩:=by unfold headD;rw [if_pos h0]
  rw [hhd] at hst;have lo:((ways.take i).filterMap (headD r ways)).length<=i:=og _ _ _;clear wset;repeat' (first|refine zs ?_|refine z22 ?_ (hc:=by apply w1)|(refine zm ?_ ?_<;>intro hg)|(exfalso;omega))
  exact⟨i+1,hi,ai (λj=>match j with|1=>11|j=>j) ⟨rfl,rfl,rfl,rfl,rfl,rfl,trivial⟩ ⟨rfl,by rw [hst,Ar];rfl,trivial⟩ rfl rfl rfl rfl rfl rfl,by omega⟩
 ·rw [Ai (by omega)];repeat' (first|refine zs ?_|(refine zm ?_ ?_<;>intro hg)|(exfalso;omega))
  refine mc (bh 38 rfl rfl rfl) ?_;repeat' (first|refine zr ?_|refine z21 ?_ (hc:=by apply wset)|fail)
  exact⟨.inl rfl,_,rfl,rfl,rfl⟩
def kv (fold:Int) (x:Ltl):Int:=if x.kind=2∨fold≠0 then 1 else 0
def lvLit (fold pred:Int) (lv:List Int) (x:Ltl):List Int :=
 if 2<x.kind then lv
 else if lv.getD pred.toNat 0<lv.getD x.pred.toNat 0+kv fold x then lv.set pred.toNat (lv.getD x.pred.toNat 0+kv fold x) else lv
def lvRule (lv:List Int) (r:Rul):List Int:=r.body.foldl (lvLit r.fold r.pred) lv
def kq (l:List Rul) (lv:List Int):List Int:=l.foldl lvRule lv
def nd (l:List Rul):Nat->List Int->List Int
 | 0,lv=>lv
 | n+1,lv=>nd l n (kq l lv)
def leL (a b:List Int):Prop:=a.length=b.length/\∀ i,a.getD i 0<=b.getD i 0
theorem leL.refl (a:List Int):leL a a:=⟨rfl,λ_=>Dn _⟩
theorem leL.trans {a b c:List Int} (h:leL a b) (g:leL b c):leL a c:=⟨h.1.trans g.1,λi=>Gi (h.2 i) (g.2 i)⟩
def dw (x:Ltl):Bool:=decide (x.kind=1) || decide (x.kind=2)
def pi (fold:Int) (x:Ltl):Bool:=decide (x.kind=2) || decide (fold≠0)
def ku (fold:Int) (x:Ltl):Int:=if pi fold x then 1 else 0
def i5 (fold pred:Int) (x:Ltl) (lv:List Int) (ch:Bool):List Int×Bool :=
 if lv.getD pred.toNat 0<lv.getD x.pred.toNat 0+ku fold x then (lv.set pred.toNat (lv.getD x.pred.toNat 0+ku fold x),true) else (lv,ch)
def fu (n fold pred:Int) (st:Option (List Int×Bool)) (x:Ltl):Option (List Int×Bool):=match st with
 | none=>none
 | some (lv,ch)=>if n<lv.getD x.pred.toNat 0+ku fold x then none else some (i5 fold pred x lv ch)
def jl (n:Int) (st:Option (List Int×Bool)) (r:Rul):Option (List Int×Bool):=(r.body.filter dw).foldl (fu n r.fold r.pred) st
def qo (n:Int) (l:List Rul) (lv:List Int):Option (List Int×Bool):=l.foldl (jl n) (some (lv,false))
def od (n:Int) (l:List Rul):Nat->List Int->Option (List Int)
 | 0,_=>none
 | k+1,lv=>match qo n l lv with
  | none=>none
  | some (lv',true)=>od n l k lv'
  | some (lv',false)=>some lv'
def gap (n:Int) (lv:List Int):Nat:=(lv.map λv=>(n-v).toNat).sum
def iw (n:Nat):List Int:=List.replicate n 0
def rawL (p:Prg):Option (List Int):=od p.arity.length p.rules (p.arity.length*p.arity.length+1) (iw p.arity.length)
theorem gap_set {n:Int}:∀ {lv:List Int} {i:Nat} {v:Int} (h:i<lv.length),lv[i]<v->v<=n->gap n (lv.set i v)<gap n lv
 | [],_,_,h,_,_=>by simp at h
 | u::lv,0,v,_,hv,hn=>by
  simp only [gap,List.set_cons_zero,A3,Ic,List.getElem_cons_zero] at hv ⊢
  omega
 | u::lv,i+1,v,h,hv,hn=>by
  have:=gap_set (n:=n) (lv:=lv) (i:=i) (v:=v) (by simpa using h) (by simpa using hv) hn
  simp only [gap,He,A3,Ic] at this ⊢
  omega
theorem gap_zeros (n m:Nat):gap n (iw m)=m*n:=by
 unfold gap iw;rw [List.map_replicate,List.sum_replicate_nat];simp
def Rs (n:Int) (lv0 lv:List Int) (ch:Bool):Prop:=lv.length=lv0.length/\(∀ v∈lv,0<=v/\v<=n)/\gap n lv<=gap n lv0/\(ch=true->gap n lv<gap n lv0)
theorem Rs.refl {n:Int} {lv:List Int} (h:∀ v∈lv,0<=v/\v<=n):Rs n lv lv false:=⟨rfl,h,Nat.le_refl _,λh=>by cases h⟩
theorem Rs.step {n fold pred:Int} {lv0 lv:List Int} {ch:Bool} {x:Ltl} (h:Rs n lv0 lv ch) (hp:pred.toNat<lv0.length) (hl:¬ n<lv.getD x.pred.toNat 0+ku fold x):Rs n lv0 (i5 fold pred x lv ch).1 (i5 fold pred x lv ch).2:=by
 obtain⟨h1,h2,h3,h4⟩:=h;unfold i5;split
 ·rename_i hlt;have hp':pred.toNat<lv.length:=by omega
  rw [A6,Ad hp',B6] at hlt;have:=gap_set (n:=n) hp' hlt (by omega)
  refine⟨by simpa using h1,λv hv=>?_,by simp only;omega,λ_=>by simp only;omega⟩
  rcases List.mem_or_eq_of_mem_set hv with h|h
  ·exact h2 v h
  ·have:=(h2 _ (Aj hp')).1
   omega
 ·exact⟨h1,h2,h3,h4⟩
theorem jk (n fold pred:Int):∀ (b:List Ltl),b.foldl (fu n fold pred) none=none
 | []=>rfl
 | _::b=>jk n fold pred b
theorem kn (n:Int):∀ (l:List Rul),l.foldl (jl n) none=none
 | []=>rfl
 | r::l=>by
  rw [Bf,show jl n none r=none from jk _ _ _ _]
  exact kn n l
theorem rawStep_if {n fold pred:Int} {lv:List Int} {ch:Bool} {x:Ltl} (h1:x.pred.toNat<lv.length) (h2:pred.toNat<lv.length):fu n fold pred (some (lv,ch)) x =
  if n<lv[x.pred.toNat]+ku fold x then none else if lv[pred.toNat]<lv[x.pred.toNat]+ku fold x then some (lv.set pred.toNat (lv[x.pred.toNat]+ku fold x),true) else some (lv,ch):=by
 simp only [fu,i5,A6,Ad h1,Ad h2,B6];split
 ·rfl
 ·split<;>rfl
theorem Rs.next {n fold pred:Int} {lv0 lv lv':List Int} {ch ch':Bool} {x:Ltl} (h:Rs n lv0 lv ch) (hp:pred.toNat<lv0.length) (hs:fu n fold pred (some (lv,ch)) x=some (lv',ch')):Rs n lv0 lv' ch':=by
 unfold fu at hs;split at hs
 ·cases hs
 ·rename_i heq;cases heq;split at hs
  ·cases hs
  ·rename_i hl;have:=h.step (fold:=fold) hp hl
   injection hs with hs
   rw [hs] at this;exact this
def nLit (st:List Bool×List Int) (x:Ltl):List Bool×List Int:=if st.1.getD x.pred.toNat false then st else (st.1.set x.pred.toNat true,st.2++[x.pred])
theorem count_set':∀ {bs:List Bool} {i:Nat} (_:i<bs.length),bs[i]?=some false->(bs.set i true).count false+1=bs.count false
 | [],_,h,_=>by simp at h
 | b::bs,0,_,hb=>by simp at hb;subst hb;simp
 | b::bs,i+1,h,hb=>by
  have:=count_set' (bs:=bs) (i:=i) (by simpa using h) (by simpa using hb)
  rw [He,Fb,Fb]
  omega
def Ns (n m:Nat) (st:List Bool×List Int):Prop:=st.1.length=n/\2*st.1.count false+st.2.length<=m/\∀ v∈st.2,0<=v/\v<n
theorem Ns.step {n m:Nat} {st:List Bool×List Int} {x:Ltl} (h:Ns n m st) (hx:0<=x.pred/\x.pred<n):Ns n m (nLit st x):=by
 obtain⟨h1,h2,h3⟩:=h;unfold nLit;split
 ·exact⟨h1,h2,h3⟩
 ·rename_i hf;have hl:x.pred.toNat<st.1.length:=by omega
  have hg:st.1[x.pred.toNat]?=some false:=by
   rw [Ad hl];rw [A6,Ad hl,B6] at hf;cases hb:st.1[x.pred.toNat] with
   | true=>exact absurd hb hf
   | false=>rfl
  have:=count_set' hl hg
  refine⟨by simpa using h1,by simp only [Af,Au];omega,λv hv=>?_⟩
  rcases List.mem_append.1 hv with hv|hv
  ·exact h3 v hv
  ·simp at hv;subst hv;exact hx
structure LvFit (p:Prg) (lv:List Int):Prop where
 len:lv.length=p.arity.length
 fit:∀ r∈p.rules,∀ l∈r.body,l.kind<=2->lv.getD l.pred.toNat 0+kv r.fold l<=lv.getD r.pred.toNat 0
structure PrgR (p:Prg):Prop where
 rul:∀ r∈p.rules,RulR p.arity r
 ar:∀ i,0<=p.arity.getD i 0/\p.arity.getD i 0<=3
 alen:p.arity.length<=10
 rlen:p.rules.length<=12
def hdW (S:List Fct) (r:Rul):List Fct:=a8 (jm r (fm S r))
def LvA (p:Prg) (lv:List Int) (n:Int) (m0:List Fct) (S:List Fct):Prop :=
 (∀ x∈S,FctOk p.arity x)/\∀ x:Fct,lv.getD x.pred.toNat 0<n->(x∈S↔x∈m0)
def lvV (p:Prg) (lv:List Int) (n:Int) (m0:List Fct):Lv Rul where
 rs:=p.rules.filter λr=>decide (lv.getD r.pred.toNat 0=n)
 hd:=hdW
 mw:=manyW
 A:=LvA p lv n m0
theorem raw_sub {S:List Fct} {r:Rul} {w:List Int} (h:w∈fm S r):w∈ed S r.body (jz r.body) (e0 r.vars.toNat):=by
 unfold fm at h;split at h
 ·exact (jg _ _ _).mem_iff.1 h
 ·simp at h
theorem raw_ok {arity:List Int} {S:List Fct} {r:Rul} (hr:RulR arity r) (ha:∀ i,0<=arity.getD i 0/\arity.getD i 0<=3) (hS:∀ x∈S,FctOk arity x) (hn:S.Nodup):HeadOk arity r (fm S r):=by
 have hs:=rl hr ha hS;obtain⟨_,_,h3⟩:=mh hn hs.ok.lit hs.bd;refine⟨hr,?_,λw hw=>((h3 w).1 (raw_sub hw)).1,λw hw y hy=>way_num hs.ok (raw_sub hw) y hy,?_⟩
 ·unfold fm;split
  ·rename_i hm;exact of_decide_eq_true hm
  ·simp
 ·have:=hr.tlen
  have:=ha r.pred.toNat
  omega
theorem head_ok {arity:List Int} {r:Rul} {ways:List (List Int)} (h:HeadOk arity r ways) {x:Fct} (hx:x∈jm r ways):FctOk arity x/\x.pred=r.pred:=by
 rw [qa] at hx;obtain⟨w,hw,hx⟩:=List.mem_filterMap.1 hx;have hv:=h.vals hw;have hl:(aW r w).length=r.terms.length:=Aa _;unfold headD at hx;split at hx
 ·simp only [Option.some.injEq] at hx;subst hx;exact⟨⟨h.rul.pred,by rw [hl];exact h.rul.tlen,hv⟩,rfl⟩
 ·rename_i hf;split at hx
  ·rename_i hn;simp only [Option.some.injEq] at hx;subst hx;have h0:=(h.rul.folded hf).1;have hl2:(pW r w).1.length=r.terms.length-1:=by
    show ((aW r w).take (r.terms.length-1)).length=_;rw [Aq,hl];omega
   refine⟨⟨h.rul.pred,?_,λy hy=>?_⟩,rfl⟩
   ·simp only [Af,Au,hl2];rw [show r.terms.length-1+1=r.terms.length by omega];exact h.rul.tlen
   ·rcases List.mem_append.1 hy with hy|hy
    ·exact hv y (Bq hy)
    ·rw [A1] at hy;subst hy;exact numB_in hn
  ·cases hx
theorem hdW_ok {p:Prg} (hp:PrgR p) {S:List Fct} {r:Rul} (hr:r∈p.rules) (hS:∀ x∈S,FctOk p.arity x) (hn:S.Nodup) {x:Fct} (hx:x∈hdW S r):FctOk p.arity x/\x.pred=r.pred :=
 head_ok (raw_ok (hp.rul r hr) hp.ar hS hn) (((bp _).2 x).1 hx)
theorem hasF_mono {S T:List Fct} (h:∀ x∈S,x∈T) {x:Fct} (hx:hasF S x=true):hasF T x=true:=hasF_iff.2 (h x (hasF_iff.1 hx))
theorem hasF_cong {S T:List Fct} {x:Fct} (h:x∈S↔x∈T):hasF S x=hasF T x:=by
 rw [Bool.eq_iff_iff,hasF_iff,hasF_iff];exact h
theorem holdE_grow {S T:List Fct} {l:Ltl} {a:List Int} (h:∀ x∈S,x∈T) (hk:l.kind=2->∀ x:Fct,x.pred=l.pred->(x∈S↔x∈T)) (hh:holdE S l a=true):holdE T l a=true:=by
 unfold holdE at hh ⊢;split
 ·rename_i h1;rw [if_pos h1] at hh;exact hasF_mono h hh
 ·rename_i h1;rw [if_neg h1] at hh;split
  ·rename_i h2;rw [if_pos h2] at hh;rw [<- hasF_cong (hk h2 ⟨l.pred,l.terms.map (vA a)⟩ rfl)];exact hh
  ·rename_i h2;rw [if_neg h2] at hh;exact hh
theorem holdE_cong {S T:List Fct} {l:Ltl} {a:List Int} (hk:l.kind=1∨l.kind=2->∀ x:Fct,x.pred=l.pred->(x∈S↔x∈T)):holdE S l a=holdE T l a:=by
 unfold holdE;split
 ·rename_i h1;exact hasF_cong (hk (.inl h1) ⟨l.pred,l.terms.map (vA a)⟩ rfl)
 ·split
  ·rename_i h2;rw [hasF_cong (hk (.inr h2) ⟨l.pred,l.terms.map (vA a)⟩ rfl)]
  ·rfl
theorem ways_grow {arity:List Int} {r:Rul} {S T:List Fct} (hr:RulR arity r) (ha:∀ i,0<=arity.getD i 0/\arity.getD i 0<=3) (hS:∀ x∈S,FctOk arity x) (hT:∀ x∈T,FctOk arity x) (nS:S.Nodup) (nT:T.Nodup)
  (hst:∀ x∈S,x∈T) (hk:∀ l∈r.body,l.kind<=2->kv r.fold l=1->∀ x:Fct,x.pred=l.pred->(x∈S↔x∈T)) (hm:manyW T r=true) :
  manyW S r=true/\(∀ w∈fm S r,w∈fm T r)/\(r.fold≠0->fm S r=fm T r):=by
 have sS:=rl hr ha hS;have sT:=rl hr ha hT;obtain⟨_,p2,p3⟩:=mh nS sS.ok.lit sS.bd;obtain⟨_,q2,q3⟩:=mh nT sT.ok.lit sT.bd;have hsub:∀ w∈ed S r.body (jz r.body) (e0 r.vars.toNat),w∈ed T r.body (jz r.body) (e0 r.vars.toNat):=by
  intro w hw;obtain⟨h1,h2⟩:=(p3 w).1 hw;exact (q3 w).2 ⟨h1,λl hl=>holdE_grow hst (λh2=>hk l hl (by omega) (by unfold kv;rw [if_pos (.inl h2)])) (h2 l hl)⟩
 have hlen:(rj S r.vars.toNat r.body).length<=(rj T r.vars.toNat r.body).length:=by
  rw [(jg S r.vars.toNat r.body).length_eq,(jg T r.vars.toNat r.body).length_eq];exact mq p2 hsub
 have hmS:manyW S r=true:=by
  unfold manyW at hm ⊢;exact decide_eq_true (A5 hlen (of_decide_eq_true hm))
 refine⟨hmS,λw hw=>?_,λhf=>?_⟩
 ·have hw':=hsub w (raw_sub hw);unfold fm;rw [if_pos hm];exact (jg _ _ _).mem_iff.2 hw'
 ·have heq:∀ w,w∈ed S r.body (jz r.body) (e0 r.vars.toNat)↔w∈ed T r.body (jz r.body) (e0 r.vars.toNat):=by
   intro w;rw [p3 w,q3 w];refine and_congr_right λ_=>forall_congr' λl=>forall_congr' λhl=>?_
   rw [holdE_cong (S:=S) (T:=T) λh12=>hk l hl (by omega) (by unfold kv;rw [if_pos (.inr hf)])]
  have hp:=tq p2 q2 heq;unfold fm;rw [if_pos hm,if_pos hmS];exact vo (waysL_sort _ _ _) ((jg _ _ _).trans hp)
theorem heads_grow {r:Rul} {S T:List Fct} (h2:∀ w∈fm S r,w∈fm T r) (h3:r.fold≠0->fm S r=fm T r):∀ x∈hdW S r,x∈hdW T r:=by
 intro x hx;have hx:=((bp _).2 x).1 hx;refine ((bp _).2 x).2 ?_;by_cases hf:r.fold=0
 ·unfold jm at hx ⊢;rw [if_pos hf] at hx ⊢;obtain⟨w,hw,rfl⟩:=List.mem_map.1 hx;exact List.mem_map.2 ⟨w,h2 w hw,rfl⟩
 ·rw [<- h3 hf];exact hx
theorem lvV_ok {p:Prg} (hp:PrgR p) {lv:List Int} (hl:LvFit p lv) (n:Int) (m0:List Fct):LvOk (lvV p lv n m0) where
 mono S T hS hT nS nT hst r hr hm:=by
  obtain⟨hr,hn⟩:=List.mem_filter.1 hr;have hn:=of_decide_eq_true hn;obtain⟨h1,h2,h3⟩:=ways_grow (hp.rul r hr) hp.ar hS.1 hT.1 nS.nodup nT.nodup hst (λl hlb hk hlift x hx=>by
   have:=hl.fit r hr l hlb hk
   have hlt:lv.getD x.pred.toNat 0<n:=by rw [hx];omega
   exact (hS.2 x hlt).trans (hT.2 x hlt).symm) hm
  exact⟨h1,heads_grow h2 h3⟩
 grow S T hS hst hT:=by
  refine⟨λx hx=>?_,λx hx=>⟨λhxT=>?_,λhx0=>hst x ((hS.2 x hx).2 hx0)⟩⟩
  ·rcases hT x hx with h|⟨r,hr,S',hS',nS',hx'⟩
   ·exact hS.1 x h
   ·exact (hdW_ok hp (List.mem_filter.1 hr).1 hS'.1 nS'.nodup hx').1
  ·rcases hT x hxT with h|⟨r,hr,S',hS',nS',hx'⟩
   ·exact (hS.2 x hx).1 h
   ·obtain⟨hr,hn⟩:=List.mem_filter.1 hr;have hn:=of_decide_eq_true hn;rw [(hdW_ok hp hr hS'.1 nS'.nodup hx').2] at hx;omega
def RunTo (p:Prg) (lv:List Int) (given:List Fct):Nat->List Fct->Prop
 | 0,m=>m=a8 given
 | n+1,M=>∃ m,RunTo p lv given n m/\Fit (lvV p lv n m) m M
theorem RunTo.unique {p:Prg} {lv:List Int} {given:List Fct}:∀ {n:Nat} {a b:List Fct},RunTo p lv given n a->RunTo p lv given n b->a=b
 | 0,_,_,h,g=>h.trans g.symm
 | _+1,_,_,⟨_,h1,h2⟩,⟨_,g1,g2⟩=>by
  have:=RunTo.unique h1 g1
  subst this
  exact h2.unique g2
theorem RunTo.ok {p:Prg} {lv:List Int} {given:List Fct} (hg:∀ x∈given,FctOk p.arity x) (hl:given.length<=60):∀ {n:Nat} {m:List Fct},RunTo p lv given n m->Strict m/\m.length<=60/\(∀ x∈m,FctOk p.arity x)/\∀ x∈given,x∈m
 | 0,m,h=>by
  subst h
  obtain⟨h1,h2⟩:=bp given
  exact⟨h1,A5 (j8 _) hl,λx hx=>hg x ((h2 x).1 hx),λx hx=>(h2 x).2 hx⟩
 | n+1,M,⟨m,h1,h2⟩=>by
  have ih:=RunTo.ok hg hl h1
  exact⟨h2.good.strict,h2.len,h2.good.a.1,λx hx=>h2.good.sub x (ih.2.2.2 x hx)⟩
structure Edg where
 p:Nat
 q:Nat
 s:Int
def nf (lv:List Int) (e:Edg):List Int:=if lv.getD e.p 0<lv.getD e.q 0+e.s then lv.set e.p (lv.getD e.q 0+e.s) else lv
def gx (E:List Edg) (lv:List Int):List Int:=E.foldl nf lv
def itE (E:List Edg) (lv:List Int):Nat->List Int
 | 0=>lv
 | k+1=>gx E (itE E lv k)
def x4 (n:Nat) (E:List Edg):Prop:=∀ e∈E,e.p<n/\e.q<n/\0<=e.s/\e.s<=1
def yh (n:Nat) (E:List Edg) (F:List Int):Prop:=F.length=n/\(∀ i,0<=F.getD i 0)/\∀ e∈E,F.getD e.q 0+e.s<=F.getD e.p 0
theorem p9 (lv:List Int) (e:Edg):(nf lv e).length=lv.length:=by unfold nf;split<;>simp
theorem roundE_len:∀ (E:List Edg) (lv:List Int),(gx E lv).length=lv.length
 | [],_=>rfl
 | e::E,lv=>(roundE_len E (nf lv e)).trans (p9 lv e)
theorem itE_len (E:List Edg) (lv:List Int):∀ k,(itE E lv k).length=lv.length
 | 0=>rfl
 | k+1=>(roundE_len E _).trans (itE_len E lv k)
theorem v6 (lv:List Int) (i:Nat) (v:Int) (hi:i<lv.length) (j:Nat):(lv.set i v).getD j 0=if i=j then v else lv.getD j 0:=by
 simp only [A6,List.getElem?_set];split
 ·rename_i h;subst h;first|rfl|(rw [if_pos hi];rfl)
 ·rfl
theorem liftE_le {n:Nat} {lv:List Int} {e:Edg} (hl:lv.length=n) (he:e.p<n) (i:Nat):lv.getD i 0<=(nf lv e).getD i 0:=by
 unfold nf;split
 ·rw [v6 _ _ _ (by omega)];split
  ·rename_i h;subst h;omega
  ·exact Dn _
 ·exact Dn _
theorem liftE_edge {n:Nat} {lv:List Int} {e:Edg} (hl:lv.length=n) (he:e.p<n):lv.getD e.q 0+e.s<=(nf lv e).getD e.p 0:=by
 unfold nf;split
 ·rw [v6 _ _ _ (by omega),if_pos rfl];omega
 ·omega
theorem roundE_le {n:Nat}:∀ {E:List Edg} {lv:List Int},lv.length=n->x4 n E->∀ i,lv.getD i 0<=(gx E lv).getD i 0
 | [],_,_,_,_=>Dn _
 | e::_,lv,hl,hE,i=>Gi (liftE_le hl (hE e (Ac ..)).1 i) (roundE_le ((p9 lv e).trans hl) (λx hx=>hE x (Ag _ hx)) i)
theorem wv {n:Nat}:∀ {E:List Edg} {lv:List Int},lv.length=n->x4 n E->∀ e∈E,lv.getD e.q 0+e.s<=(gx E lv).getD e.p 0
 | [],_,_,_,_,h=>nomatch h
 | x::E,lv,hl,hE,e,he=>by
  have hx:=hE x (Ac ..)
  have hE':x4 n E:=λy hy=>hE y (Ag _ hy)
  have hl':=(p9 lv x).trans hl
  rcases List.mem_cons.1 he with rfl|he
  ·exact Gi (liftE_edge hl hx.1) (roundE_le hl' hE' _)
  ·have h1:=wv hl' hE' e he
   have h2:=liftE_le (e:=x) hl hx.1 e.q
   show _<=(gx E (nf lv x)).getD e.p 0
   omega
theorem liftE_below {n:Nat} {E:List Edg} {F lv:List Int} {e:Edg} (hl:lv.length=n) (hF:yh n E F) (he:e∈E) (hp:e.p<n) (h:∀ i,lv.getD i 0<=F.getD i 0) (i:Nat):(nf lv e).getD i 0<=F.getD i 0:=by
 unfold nf;split
 ·rw [v6 _ _ _ (by omega)];split
  ·rename_i h1;subst h1;have:=hF.2.2 e he
   have:=h e.q
   omega
  ·exact h i
 ·exact h i
theorem zq {n:Nat} {E:List Edg} {F:List Int} (hF:yh n E F) (hE:x4 n E):∀ (E2:List Edg) (lv:List Int),(∀ e∈E2,e∈E)->lv.length=n->(∀ i,lv.getD i 0<=F.getD i 0)->∀ i,(gx E2 lv).getD i 0<=F.getD i 0
 | [],_,_,_,h,i=>h i
 | e::E2,lv,hs,hl,h,i=>zq hF hE E2 (nf lv e) (λx hx=>hs x (Ag _ hx)) ((p9 lv e).trans hl)
   (λi=>liftE_below hl hF (hs e (Ac ..)) (hE e (hs e (Ac ..))).1 h i) i
theorem roundE_below {n:Nat} {E:List Edg} {F lv:List Int} (hF:yh n E F) (hE:x4 n E) (hl:lv.length=n) (h:∀ i,lv.getD i 0<=F.getD i 0) (i:Nat):(gx E lv).getD i 0<=F.getD i 0:=zq hF hE E lv (λ_ h=>h) hl h i
theorem ext_getD {a b:List Int} (hl:a.length=b.length) (h:∀ i,a.getD i 0=b.getD i 0):a=b:=by
 apply List.ext_getElem hl;intro i h1 h2;have:=h i
 rwa [A6,A6,Ad h1,Ad h2] at this
theorem rest_edge {n:Nat} {E:List Edg} {lv:List Int} (hl:lv.length=n) (hE:x4 n E) (hr:gx E lv=lv):∀ e∈E,lv.getD e.q 0+e.s<=lv.getD e.p 0:=by
 intro e he;have:=wv hl hE e he
 rwa [hr] at this
theorem edge_rest:∀ {E:List Edg} {lv:List Int},(∀ e∈E,lv.getD e.q 0+e.s<=lv.getD e.p 0)->gx E lv=lv
 | [],_,_=>rfl
 | e::E,lv,h=>by
  have h1:nf lv e=lv:=by
   unfold nf;rw [if_neg];have:=h e (Ac ..)
   omega
  show gx E (nf lv e)=lv;rw [h1];exact edge_rest λx hx=>h x (Ag _ hx)
section
variable {n : Nat} {E : List Edg} (hE : x4 n E)
abbrev L0 (E:List Edg) (n k:Nat):List Int:=itE E (iw n) k
theorem k0 (k:Nat):(L0 E n k).length=n:=by rw [itE_len];simp [iw]
include hE
theorem L0_up (k i:Nat):(L0 E n k).getD i 0<=(L0 E n (k+1)).getD i 0:=roundE_le (k0 k) hE i
omit hE in
theorem zeros_getD (n i:Nat):(iw n).getD i 0=0:=by
 unfold iw;rw [A6,Gf];split<;>rfl
theorem L0_pos:∀ (k i:Nat),0<=(L0 E n k).getD i 0
 | 0,i=>by show 0<=(iw n).getD i 0;rw [zeros_getD n];exact Dn _
 | k+1,i=>Gi (L0_pos k i) (L0_up hE k i)
theorem rc {F:List Int} (hF:yh n E F):∀ (k i:Nat),(L0 E n k).getD i 0<=F.getD i 0
 | 0,i=>by show (iw n).getD i 0<=_;rw [zeros_getD n];exact hF.2.1 i
 | k+1,i=>roundE_below hF hE (k0 k) (rc hF k) i
theorem rt {k:Nat} (h:L0 E n (k+1)=L0 E n k):yh n E (L0 E n k):=⟨k0 k,L0_pos hE k,rest_edge (k0 k) hE h⟩
def sett (n:Nat) (a b:List Int):Nat:=((Gj n).filter λi=>decide (a.getD i 0=b.getD i 0)).length
omit hE in
theorem zz {α:Type} (f g:α->Bool):∀ (l:List α),(∀ x∈l,f x=true->g x=true)->(∃ x∈l,f x=false/\g x=true)->(l.filter f).length<(l.filter g).length
 | [],_,⟨_,h,_⟩=>nomatch h
 | y::l,hs,⟨x,hx,h1,h2⟩=>by
  have hle:(l.filter f).length<=(l.filter g).length:=by
   clear hx;have hs':∀ x∈l,f x=true->g x=true:=λx hx=>hs x (Ag _ hx)
   clear hs;induction l with
   | nil=>simp
   | cons z l ih =>
    have ih:=ih λx hx=>hs' x (Ag _ hx)
    have hz:=hs' z (Ac ..);simp only [B7];cases hf:f z<;>cases hg:g z<;>simp_all<;>omega
  rcases List.mem_cons.1 hx with rfl|hx
  ·simp only [B7,h1,h2,if_true,Bj,B3,if_false];omega
  ·have ih:=zz f g l (λx hx=>hs x (Ag _ hx)) ⟨x,hx,h1,h2⟩;have hy:=hs y (Ac ..);simp only [B7];cases hf:f y<;>cases hg:g y<;>simp_all<;>omega
omit hE in
theorem i6 (n:Nat) (f:Nat->Int) (i:Nat):((Gj n).map f).getD i 0=if i<n then f i else 0:=by
 rw [A6,List.getElem?_map];split
 ·rename_i h;rw [List.getElem?_range h];rfl
 ·rename_i h;rw [A8 (by simp;omega)];rfl
theorem settle {S:List Int} (hS:yh n E S) (hleast:∀ F,yh n E F->∀ i,S.getD i 0<=F.getD i 0) {k:Nat} (hne:L0 E n k≠S):sett n (L0 E n k) S<sett n (L0 E n (k+1)) S:=by
 have hb:=rc hE hS;refine zz _ _ _ (λi hi h=>?_) ?_
 ·have h1:=of_decide_eq_true h;have h2:=L0_up hE k i;have h3:=hb (k+1) i;exact decide_eq_true (by omega)
 ·apply Bc;intro hno;have hno:∀ i,i<n->(L0 E n (k+1)).getD i 0=S.getD i 0->(L0 E n k).getD i 0=S.getD i 0:=by
   intro i hi h1;apply Bc;intro h2;exact hno ⟨i,List.mem_range.2 hi,decide_eq_false h2,decide_eq_true h1⟩
  let M:List Int:=(Gj n).map λi=>if (L0 E n k).getD i 0=S.getD i 0 then S.getD i 0 else S.getD i 0-1
  have hM:∀ i,i<n->M.getD i 0=if (L0 E n k).getD i 0=S.getD i 0 then S.getD i 0 else S.getD i 0-1:=λi hi=>by rw [i6,if_pos hi]
  have hfit:yh n E M:=by
   refine⟨by simp [M],λi=>?_,λe he=>?_⟩
   ·rw [i6];split
    ·have h1:=hb k i;have h2:=L0_pos hE k i;split<;>omega
    ·exact Dn _
   ·obtain⟨hp,hq,hs0,hs1⟩:=hE e he;have h1:=hS.2.2 e he;rw [hM _ hp,hM _ hq];by_cases hps:(L0 E n k).getD e.p 0=S.getD e.p 0
    ·rw [if_pos hps];split<;>omega
    ·rw [if_neg hps];split
     ·rename_i hqs;have h2:=wv (k0 (E:=E) k) hE e he;have h3:=hb (k+1) e.p;have h4:¬ (L0 E n (k+1)).getD e.p 0=S.getD e.p 0:=λh=>hps (hno e.p hp h)
      have h5:(L0 E n k).getD e.q 0+e.s<=(L0 E n (k+1)).getD e.p 0:=h2;omega
     ·omega
  apply hne;refine ext_getD (by rw [k0,hS.1]) λi=>?_
  rcases Nat.lt_or_ge i n with hi|hi
  ·have h1:=hleast M hfit i;rw [hM i hi] at h1;split at h1
   ·assumption
   ·omega
  ·rw [A6,A6,A8 (by rw [k0];exact hi),A8 (by rw [hS.1];exact hi)]
omit hE in
theorem sett_le (a b:List Int):sett n a b<=n:=by
 have:=C9 (λi=>decide (a.getD i 0=b.getD i 0)) (Gj n)
 rw [List.length_range] at this;exact this
theorem settled {S:List Int} (hS:yh n E S) (hleast:∀ F,yh n E F->∀ i,S.getD i 0<=F.getD i 0):L0 E n n=S:=by
 have key:∀ k,L0 E n k=S∨k<=sett n (L0 E n k) S:=by
  intro k;induction k with
  | zero=>exact .inr (Ak _)
  | succ k ih =>
   by_cases h:L0 E n k=S
   ·left;show gx E (itE E (iw n) k)=S;rw [show itE E (iw n) k=S from h];exact edge_rest hS.2.2
   ·right;have h1:=settle hE hS hleast h;rcases ih with h2|h2
    ·exact absurd h2 h
    ·omega
 rcases key n with h|h
 ·exact h
 ·apply Bc;intro hne;have h1:=settle hE hS hleast hne;have h2:=sett_le (n:=n) (L0 E n (n+1)) S;omega
omit hE in
theorem pigeon:∀ (m:Nat) (l:List Int),(∀ v:Nat,1<=v->v<=m->(v:Int)∈l)->m<=l.length
 | 0,_,_=>Ak _
 | m+1,l,h=>by
  have h1:=h (m+1) (by omega) (Nat.le_refl _)
  have h2:=pigeon m (l.erase ((m+1:Nat):Int)) λv hv1 hv2=>(List.mem_erase_of_ne (by omega)).2 (h v hv1 (by omega))
  rw [List.length_erase_of_mem h1] at h2
  have:=List.length_pos_of_mem h1
  omega
theorem least_bound (hF:yh n E (L0 E n n)) (i:Nat):(L0 E n n).getD i 0<=n:=by
 apply Bc;intro hgt;have hgt:(n:Int)<(L0 E n n).getD i 0:=by omega
 have hin:∀ v:Nat,1<=v->v<=n+1->(v:Int)∈L0 E n n:=by
  intro v hv1 hv2;apply Bc;intro hnot;have hnv:∀ j,j<n->(L0 E n n).getD j 0≠v:=by
   intro j hj h;apply hnot;rw [A6,Ad (by rw [k0];exact hj),B6] at h;rw [<- h];exact Aj _
  let M:List Int:=(Gj n).map λj=>if (v:Int)<(L0 E n n).getD j 0 then (L0 E n n).getD j 0-1 else (L0 E n n).getD j 0
  have hM:∀ j,j<n->M.getD j 0=if (v:Int)<(L0 E n n).getD j 0 then (L0 E n n).getD j 0-1 else (L0 E n n).getD j 0:=λj hj=>by rw [i6,if_pos hj]
  have hfit:yh n E M:=by
   refine⟨by simp [M],λj=>?_,λe he=>?_⟩
   ·rw [i6];split
    ·have:=hF.2.1 j
     split<;>omega
    ·exact Dn _
   ·obtain⟨hp,hq,hs0,hs1⟩:=hE e he;have h1:=hF.2.2 e he;have h2:=hnv e.q hq;rw [hM _ hp,hM _ hq];split<;>split<;>omega
  have hi:i<n:=by
   apply Bc;intro h;rw [A6,A8 (by rw [k0];omega)] at hgt;simp at hgt;omega
  have h3:=rc hE hfit n i;have h5:=hnv i hi;rw [hM i hi,if_pos (by omega)] at h3;omega
 have:=pigeon (n+1) _ hin
 rw [k0] at this;omega
end
theorem firstL_z0 {α:Type} {f:α->Int}:∀ {l:List α},bm f l=0->∀ x∈l,f x=0
 | [],_,_,h=>nomatch h
 | y::l,h,x,hx=>by
  unfold bm at h
  split at h
  ·rename_i h1;exact absurd h h1
  ·rename_i h1
   rcases List.mem_cons.1 hx with rfl|hx
   ·exact Bc λh2=>h1 h2
   ·exact firstL_z0 h x hx
theorem inR_tru {n a b:Int} (h:¬ inR n a b=false):a<=n/\n<=b:=by
 unfold inR at h;simp at h;exact h
structure LtlOk (n vars:Int) (l:Ltl):Prop where
 kind:1<=l.kind/\l.kind<=4
 pred:dw l=true->0<=l.pred/\l.pred<n
structure RulOk (n:Nat) (r:Rul):Prop where
 pred:0<=r.pred/\r.pred<n
 vars:0<=r.vars/\r.vars<=8
 fold:0<=r.fold/\r.fold<=4
 body:r.body.length<=4
 lits:∀ l∈r.body,LtlOk n r.vars l
structure PrgOk (p:Prg):Prop where
 preds:p.arity.length<=10
 rules:p.rules.length<=12
 names:p.names.length=p.arity.length
 each:∀ r∈p.rules,RulOk p.arity.length r
theorem litE_okM {arity:List Int} {vars:Int} {l:Ltl} (h:kz arity vars l=0):LtlOk arity.length vars l:=by
 unfold kz at h;split at h;· cases h
 rename_i h1;split at h;· cases h
 refine⟨inR_tru h1,λhh=>?_⟩
 have hk:l.kind=1∨l.kind=2:=by
  unfold dw at hh;simpa using hh
 rw [if_pos hk] at h;split at h;· cases h
 rename_i h3;have:=inR_tru h3
 omega
theorem ruleE_ok {arity:List Int} {r:Rul} (h:nk arity r=0):RulOk arity.length r:=by
 unfold nk at h;split at h;· cases h
 rename_i h1;split at h;· cases h
 split at h;· cases h
 rename_i h3;split at h;· rename_i h4;exact absurd h h4
 split at h;· cases h
 rename_i h5;split at h;· cases h
 split at h;· cases h
 rename_i h7;split at h;· rename_i h8;exact absurd h h8
 rename_i h8;have:=inR_tru h1
 exact⟨by omega,inR_tru h3,inR_tru h5,by omega,λl hl=>litE_okM (firstL_z0 (Bc λhn=>h8 hn) l hl)⟩
theorem progE_ok {nameB:ByteArray->Bool} {p:Prg} (h:dc nameB p=0):PrgOk p:=by
 unfold dc at h;split at h;· cases h
 rename_i h1;split at h;· cases h
 rename_i h2;split at h;· rename_i h3;exact absurd h h3
 exact⟨by omega,by omega,by omega,λr hr=>ruleE_ok (firstL_z0 h r hr)⟩
def edgR (r:Rul):List Edg:=(r.body.filter dw).map λx=>⟨r.pred.toNat,x.pred.toNat,ku r.fold x⟩
def ot (p:Prg):List Edg:=p.rules.flatMap edgR
theorem liftS_le (f:Int) (x:Ltl):0<=ku f x/\ku f x<=1:=by unfold ku;split<;>omega
theorem edgP_ok {p:Prg} (h:PrgOk p):x4 p.arity.length (ot p):=by
 intro e he;unfold ot at he;obtain⟨r,hr,he⟩:=List.mem_flatMap.1 he;unfold edgR at he;obtain⟨x,hx,rfl⟩:=List.mem_map.1 he;obtain⟨hx1,hx2⟩:=List.mem_filter.1 hx;have h1:=(h.each r hr).pred;have h2:=((h.each r hr).lits x hx1).pred hx2;have h3:=liftS_le r.fold x;dsimp only;omega
theorem liftN_S (f:Int) (x:Ltl):kv f x=ku f x:=by
 unfold kv ku pi;by_cases h1:x.kind=2<;>by_cases h2:f=0<;>simp [h1,h2]
theorem hangs_kind {x:Ltl} (h:1<=x.kind):(2<x.kind)↔dw x=false:=by
 unfold dw;simp only [Bool.or_eq_false_iff,decide_eq_false_iff_not];omega
theorem lvLits_edg (f pr:Int):∀ (b:List Ltl) (lv:List Int),(∀ x∈b,1<=x.kind)->b.foldl (lvLit f pr) lv=gx ((b.filter dw).map λx=>⟨pr.toNat,x.pred.toNat,ku f x⟩) lv
 | [],_,_=>rfl
 | x::b,lv,h=>by
  have hk:=h x (Ac ..)
  have hb:=λy hy=>h y (Ag _ hy)
  rw [Bf,lvLits_edg f pr b _ hb]
  cases hx:dw x with
  | false =>
   rw [List.filter_cons_of_neg (by rw [hx];simp)]
   congr 1
   unfold lvLit
   rw [if_pos ((hangs_kind hk).2 hx)]
  | true =>
   rw [List.filter_cons_of_pos hx,A3]
   show _=gx _ (nf lv _)
   congr 1
   unfold lvLit nf
   rw [if_neg (by rw [hangs_kind hk,hx];simp),liftN_S]
theorem roundE_app (A B:List Edg) (lv:List Int):gx (A++B) lv=gx B (gx A lv):=by unfold gx;rw [D5]
theorem xk:∀ (l:List Rul) (lv:List Int),(∀ r∈l,∀ x∈r.body,1<=x.kind)->kq l lv=gx (l.flatMap edgR) lv
 | [],_,_=>rfl
 | r::l,lv,h=>by
  rw [Dx,roundE_app,<- xk l _ λy hy=>h y (Ag _ hy)]
  show kq l (lvRule lv r)=_
  congr 1
  exact lvLits_edg _ _ _ _ (h r (Ac ..))
theorem lvIter_edg (p:Prg) (h:PrgOk p):∀ (k j:Nat),nd p.rules k (L0 (ot p) p.arity.length j)=L0 (ot p) p.arity.length (j+k)
 | 0,_=>rfl
 | k+1,j=>by
  rw [nd,xk _ _ λr hr x hx=>((h.each r hr).lits x hx).kind.1]
  show nd p.rules k (L0 (ot p) p.arity.length (j+1))=_
  rw [lvIter_edg p h k (j+1)]
  congr 1
  omega
theorem tz (f pr:Int) (x:Ltl) (lv:List Int) (ch:Bool):(i5 f pr x lv ch).1=nf lv ⟨pr.toNat,x.pred.toNat,ku f x⟩:=by
 unfold i5 nf;dsimp only;split<;>rfl
theorem rawSteps (n f pr:Int):∀ (b:List Ltl) (lv:List Int) (ch:Bool) (r:List Int×Bool),b.foldl (fu n f pr) (some (lv,ch))=some r->r.1=gx (b.map λx=>⟨pr.toNat,x.pred.toNat,ku f x⟩) lv
 | [],lv,ch,r,h=>by cases h;rfl
 | x::b,lv,ch,r,h=>by
  rw [Bf] at h
  by_cases hx:n<lv.getD x.pred.toNat 0+ku f x
  ·rw [show fu n f pr (some (lv,ch)) x=none from if_pos hx,jk] at h
   cases h
  ·rw [show fu n f pr (some (lv,ch)) x=some (i5 f pr x lv ch) from if_neg hx] at h
   have:=rawSteps n f pr b (i5 f pr x lv ch).1 (i5 f pr x lv ch).2 r h
   rw [this,tz]
   rfl
theorem rawRules (n:Int):∀ (l:List Rul) (lv:List Int) (ch:Bool) (r:List Int×Bool),l.foldl (jl n) (some (lv,ch))=some r->r.1=gx (l.flatMap edgR) lv
 | [],lv,ch,r,h=>by cases h;rfl
 | y::l,lv,ch,r,h=>by
  rw [Bf] at h
  cases hs:jl n (some (lv,ch)) y with
  | none=>rw [hs,kn] at h;cases h
  | some q =>
   rw [hs] at h
   have h1:=rawSteps n y.fold y.pred _ lv ch q hs
   have h2:=rawRules n l q.1 q.2 r h
   rw [h2,h1,Dx,roundE_app]
   rfl
theorem rawLit_flag {f pr:Int} {x:Ltl} {lv:List Int} {ch:Bool} (h:(i5 f pr x lv ch).2=false):ch=false/\(i5 f pr x lv ch).1=lv:=by
 unfold i5 at h ⊢;split at h
 ·cases h
 ·rename_i hn;rw [if_neg hn];exact⟨h,rfl⟩
theorem zu {n f pr:Int}:∀ (b:List Ltl) (lv lv':List Int) (ch:Bool),pr.toNat<lv.length->b.foldl (fu n f pr) (some (lv,ch))=some (lv',false)->ch=false/\lv'=lv
 | [],lv,lv',ch,_,h=>by cases h;exact⟨rfl,rfl⟩
 | x::b,lv,lv',ch,hp,h=>by
  rw [Bf] at h
  by_cases hx:n<lv.getD x.pred.toNat 0+ku f x
  ·rw [show fu n f pr (some (lv,ch)) x=none from if_pos hx,jk] at h
   cases h
  ·rw [show fu n f pr (some (lv,ch)) x=some (i5 f pr x lv ch) from if_neg hx] at h
   obtain⟨h1,h2⟩:=zu b (i5 f pr x lv ch).1 lv' (i5 f pr x lv ch).2 (by rw [tz,p9];exact hp) h
   obtain⟨h3,h4⟩:=rawLit_flag h1
   exact⟨h3,h2.trans h4⟩
theorem zx {n:Int}:∀ (l:List Rul) (lv lv':List Int) (ch:Bool),(∀ r∈l,r.pred.toNat<lv.length)->l.foldl (jl n) (some (lv,ch))=some (lv',false)->ch=false/\lv'=lv
 | [],lv,lv',ch,_,h=>by cases h;exact⟨rfl,rfl⟩
 | y::l,lv,lv',ch,hp,h=>by
  rw [Bf] at h;cases hs:jl n (some (lv,ch)) y with
  | none=>rw [hs,kn] at h;cases h
  | some q =>
   obtain⟨q1,q2⟩:=q;rw [hs] at h;have h0:q1=gx (edgR y) lv:=rawSteps n y.fold y.pred _ lv ch _ hs;have hl:q1.length=lv.length:=by rw [h0,roundE_len]
   obtain⟨h1,h2⟩:=zx l q1 lv' q2 (λr hr=>by rw [hl];exact hp r (Ag _ hr)) h;subst h1;obtain⟨h3,h4⟩:=zu _ lv q1 ch (hp y (Ac ..)) hs;exact⟨h3,h2.trans h4⟩
theorem t6 (p:Prg) (h:PrgOk p):∀ (m j:Nat) (lv:List Int),od p.arity.length p.rules m (L0 (ot p) p.arity.length j)=some lv->∃ k,lv=L0 (ot p) p.arity.length k/\L0 (ot p) p.arity.length (k+1)=L0 (ot p) p.arity.length k
 | 0,_,_,h=>nomatch h
 | m+1,j,lv,hr=>by
  rw [od] at hr
  cases hs:qo p.arity.length p.rules (L0 (ot p) p.arity.length j) with
  | none=>rw [hs] at hr;cases hr
  | some q =>
   obtain⟨q1,q2⟩:=q
   rw [hs] at hr
   have h1:q1=L0 (ot p) p.arity.length (j+1):=rawRules _ _ _ _ _ hs
   cases q2 with
   | true =>
    rw [h1] at hr
    exact t6 p h m (j+1) lv hr
   | false =>
    simp only [Option.some.injEq] at hr
    have h2:=(zx p.rules _ q1 false (λr hr=>by rw [k0];have:=(h.each r hr).pred;omega) hs).2
    exact⟨j,by rw [<- hr,h2],by rw [<- h1,h2]⟩
theorem zt {n f pr:Int} {N:Nat} {E:List Edg} {F:List Int} (hF:yh N E F) (hE:x4 N E) (hb:∀ i,F.getD i 0<=n):∀ (b:List Ltl) (lv:List Int) (ch:Bool),(∀ x∈b,(⟨pr.toNat,x.pred.toNat,ku f x⟩:Edg)∈E)->lv.length=N->(∀ i,lv.getD i 0<=F.getD i 0) ->
  ∃ r,b.foldl (fu n f pr) (some (lv,ch))=some r/\r.1.length=N/\∀ i,r.1.getD i 0<=F.getD i 0
 | [],lv,ch,_,hl,hle=>⟨(lv,ch),rfl,hl,hle⟩
 | x::b,lv,ch,hin,hl,hle=>by
  have hx:=hin x (Ac ..)
  have h1:=hF.2.2 _ hx
  have h2:=hle x.pred.toNat
  have h3:=hb pr.toNat
  dsimp only at h1
  rw [Bf,show fu n f pr (some (lv,ch)) x=some (i5 f pr x lv ch) from if_neg (by omega)]
  exact zt hF hE hb b (i5 f pr x lv ch).1 (i5 f pr x lv ch).2 (λy hy=>hin y (Ag _ hy)) (by rw [tz,p9];exact hl) (λi=>by rw [tz];exact liftE_below hl hF hx (hE _ hx).1 hle i)
theorem zw {n:Int} {N:Nat} {E:List Edg} {F:List Int} (hF:yh N E F) (hE:x4 N E) (hb:∀ i,F.getD i 0<=n):∀ (l:List Rul) (lv:List Int) (ch:Bool),(∀ r∈l,∀ e∈edgR r,e∈E)->lv.length=N->(∀ i,lv.getD i 0<=F.getD i 0) ->
  ∃ r,l.foldl (jl n) (some (lv,ch))=some r/\r.1.length=N/\∀ i,r.1.getD i 0<=F.getD i 0
 | [],lv,ch,_,hl,hle=>⟨(lv,ch),rfl,hl,hle⟩
 | y::l,lv,ch,hin,hl,hle=>by
  obtain⟨⟨q1,q2⟩,h1,h2,h3⟩:=zt hF hE hb (f:=y.fold) (pr:=y.pred) (y.body.filter dw) lv ch (λx hx=>hin y (Ac ..) _ (List.mem_map.2 ⟨x,hx,rfl⟩)) hl hle
  rw [Bf,show jl n (some (lv,ch)) y=some (q1,q2) from h1]
  exact zw hF hE hb l q1 q2 (λr hr=>hin r (Ag _ hr)) h2 h3
theorem rawRound_gap {n:Int} {l:List Rul} {N:Nat} {lv lv':List Int} {ch:Bool} (hl:lv.length=N) (hp:∀ r∈l,r.pred.toNat<N) (hv:∀ v∈lv,0<=v/\v<=n) (h:qo n l lv=some (lv',ch)):Rs n lv lv' ch:=by
 have steps:∀ (f pr:Int) (b:List Ltl) (lv1 lv2:List Int) (c1 c2:Bool),pr.toNat<lv.length->Rs n lv lv1 c1->b.foldl (fu n f pr) (some (lv1,c1))=some (lv2,c2)->Rs n lv lv2 c2:=by
  intro f pr b;induction b with
  | nil=>intro lv1 lv2 c1 c2 _ h1 h2;cases h2;exact h1
  | cons x b ih =>
   intro lv1 lv2 c1 c2 hp h1 h2;rw [Bf] at h2;by_cases hx:n<lv1.getD x.pred.toNat 0+ku f x
   ·rw [show fu n f pr (some (lv1,c1)) x=none from if_pos hx,jk] at h2;cases h2
   ·rw [show fu n f pr (some (lv1,c1)) x=some (i5 f pr x lv1 c1) from if_neg hx] at h2;exact ih _ _ _ _ hp (h1.step hp hx) h2
 have rules:∀ (l:List Rul) (lv1 lv2:List Int) (c1 c2:Bool),(∀ r∈l,r.pred.toNat<N)->Rs n lv lv1 c1->l.foldl (jl n) (some (lv1,c1))=some (lv2,c2)->Rs n lv lv2 c2:=by
  intro l;induction l with
  | nil=>intro lv1 lv2 c1 c2 _ h1 h2;cases h2;exact h1
  | cons y l ih =>
   intro lv1 lv2 c1 c2 hp h1 h2;rw [Bf] at h2;cases hs:jl n (some (lv1,c1)) y with
   | none=>rw [hs,kn] at h2;cases h2
   | some q =>
    obtain⟨q1,q2⟩:=q;rw [hs] at h2;exact ih q1 lv2 q2 c2 (λr hr=>hp r (Ag _ hr)) (steps _ _ _ _ _ _ _ (by rw [hl];exact hp y (Ac ..)) h1 hs) h2
 exact rules l lv lv' false ch hp (Rs.refl hv) h
theorem rawIter_some (p:Prg) (h:PrgOk p) {F:List Int} (hF:yh p.arity.length (ot p) F) (hb:∀ i,F.getD i 0<=(p.arity.length:Int)):∀ (m j:Nat),(∀ v∈L0 (ot p) p.arity.length j,0<=v/\v<=(p.arity.length:Int))->gap p.arity.length (L0 (ot p) p.arity.length j)<m->od p.arity.length p.rules m (L0 (ot p) p.arity.length j)≠none
 | 0,_,_,hg=>by omega
 | m+1,j,hv,hg=>by
  rw [od]
  obtain⟨⟨q1,q2⟩,h1,_,_⟩:=zw hF (edgP_ok h) hb p.rules (L0 (ot p) p.arity.length j) false (λr hr e he=>List.mem_flatMap.2 ⟨r,hr,he⟩) (k0 j) (rc (edgP_ok h) hF j)
  have h1:qo p.arity.length p.rules (L0 (ot p) p.arity.length j)=some (q1,q2):=h1
  rw [h1]
  have hgap:=rawRound_gap (k0 j) (λr hr=>by have:=(h.each r hr).pred;omega) hv h1
  have h2:q1=L0 (ot p) p.arity.length (j+1):=rawRules _ _ _ _ _ h1
  cases q2 with
  | false=>simp
  | true =>
   rw [h2] at hgap ⊢
   exact rawIter_some p h hF hb m (j+1) hgap.2.1 (by have:=hgap.2.2.2 rfl;omega)
def fa (p:Prg):List Int:=nd p.rules (p.arity.length+1) (iw p.arity.length)
def q8 (p:Prg):Bool:=decide (kq p.rules (nd p.rules p.arity.length (iw p.arity.length))=nd p.rules p.arity.length (iw p.arity.length))
theorem docLv_eq (p:Prg) (h:PrgOk p):fa p=L0 (ot p) p.arity.length (p.arity.length+1):=by
 have:=lvIter_edg p h (p.arity.length+1) 0
 rw [Nat.zero_add] at this;exact this
theorem docOk_eq (p:Prg) (h:PrgOk p):q8 p=decide (L0 (ot p) p.arity.length (p.arity.length+1)=L0 (ot p) p.arity.length p.arity.length):=by
 have:=lvIter_edg p h p.arity.length 0
 rw [Nat.zero_add] at this;unfold q8;rw [show nd p.rules p.arity.length (iw p.arity.length)=L0 (ot p) p.arity.length p.arity.length from this,xk _ _ λr hr x hx=>((h.each r hr).lits x hx).kind.1];rfl
theorem levels_same (p:Prg) (h:PrgOk p):rawL p=if q8 p then some (fa p) else none:=by
 have hE:=edgP_ok h;rw [docOk_eq p h,docLv_eq p h];by_cases hr:L0 (ot p) p.arity.length (p.arity.length+1)=L0 (ot p) p.arity.length p.arity.length
 ·rw [if_pos (decide_eq_true hr),hr];have hfit:=rt hE hr;have hb:=least_bound hE hfit;cases hs:rawL p with
  | none =>
   refine absurd hs (rawIter_some p h hfit hb _ 0 (λv hv=>?_) ?_)
   ·rw [List.eq_of_mem_replicate hv];omega
   ·show gap p.arity.length (iw p.arity.length)<_;rw [gap_zeros];exact Nat.lt_succ_self _
  | some lv =>
   obtain⟨k,h1,h2⟩:=t6 p h _ 0 lv hs;have hfk:=rt hE h2;rw [h1,settled hE hfk λF hF i=>rc hE hF k i]
 ·rw [if_neg (by rw [decide_eq_false hr];simp)];cases hs:rawL p with
  | none=>rfl
  | some lv =>
   obtain⟨k,h1,h2⟩:=t6 p h _ 0 lv hs;have hfk:=rt hE h2;have hset:=settled hE hfk λF hF i=>rc hE hF k i
   exfalso;apply hr;show gx (ot p) (L0 (ot p) p.arity.length p.arity.length)=_;rw [hset];exact h2
end Go.Proofs.YtapciiffpnociadGreat
