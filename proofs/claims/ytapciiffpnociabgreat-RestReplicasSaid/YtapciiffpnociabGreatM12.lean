/- Several texts in one: RuH RuM StrB RuN RuO StrP StrQ StrN MoQ StrL StrM MoR StrC. Condition: none. -/
import Derived.Test.YtapciiffpnociabGreatM11
set_option linter.all false
set_option maxHeartbeats 8000000
open Bool renaming and_eq_true→Ae,false_eq_true→B3
open Classical renaming byContradiction→Bo
open Int renaming le_refl→Df,le_trans→Gq
open List renaming append_nil→Bn,count_cons→Fo,exists_cons_of_ne_nil→D3,filter_append→Cf,filter_cons→B7,filter_cons_of_pos→Dw,flatMap_cons→C6,foldl_append→Ea,foldl_cons→Bi,getD→A4,getElem?_eq_getElem→Ad,getElem?_eq_none→Be,getElem?_map→Bh,getElem?_of_mem→Ep,getElem?_replicate→Eb,getElem?_set_ne→B5,getElem?_set_self→B8,getElem_mem→Ah,length_append→Ag,length_cons→Ba,length_filterMap_le→Ey,length_filter_le→Cd,length_map→Aa,length_singleton→A0,length_take→Ap,map_append→Au,map_cons→A3,map_singleton→F5,mem_append_left→Ax,mem_append_right→Bv,mem_cons_of_mem→Ak,mem_cons_self→Ac,mem_filterMap→E4,mem_map_of_mem→Eu,mem_of_getElem?→B2,mem_of_mem_take→Bz,mem_singleton→A1,range→Eo,set_cons_succ→Hm,sum_cons→Hg,take_of_length_le→Aj,take_succ_eq_append_getElem→Am
open Nat renaming add_sub_cancel→E5,le_refl→Af,le_trans→Aw,zero_le→Ai
open Option renaming getD_some→Cm
namespace Go.Proofs.YtapciiffpnociabGreat
open Tryz
section
variable [Y0]
def Ql (n y:Int):Int:=if y<n then y else n
def Rl (n y:Int):Int:=if n<y then y else n
def RV:List Int->Int
 | []=>0
 | x::l=>l.foldl Ql x
def TV:List Int->Int
 | []=>0
 | x::l=>l.foldl Rl x
def dw (T0:Int) (a:Int×Int) (x:Int):Int×Int:=
 (if T0=1 then a.2+1 else if T0=2 then a.1+x else if a.2+1=1∨(T0=3/\x<a.1)∨(T0=4/\a.1<x) then x else a.1,a.2+1)
def rr (T0:Int) (l:List Int):Int:=(l.foldl (dw T0) (0,0)).1
def Xg (T0:Int) (l:List Int):Int:=if T0=1 then l.length else if T0=3 then RV l else if T0=4 then TV l else l.sum
def IU (T0:Int) (l:List Int):Bool:=if T0=1∨T0=3∨T0=4 then true else Q3 l.sum
def nL:∀ (l:List Int) (n m:Int),l≠[]->(l.foldl (dw 1) (n,m)).1=m+l.length
 | [x],n,m,_=>by simp [dw]
 | x::y::l,n,m,_=>by
  rw [Bi,show dw 1 (n,m) x=(m+1,m+1) by simp [dw],nL (y::l) _ _ (by simp)]
  simp only [Ba];omega
def mL:∀ (l:List Int) (n m:Int),(l.foldl (dw 2) (n,m)).1=n+l.sum
 | [],n,m=>by simp
 | x::l,n,m=>by
  rw [Bi,show dw 2 (n,m) x=(n+x,m+1) by simp [dw],mL l,Hg];omega
def lL:∀ (l:List Int) (n m:Int),1<=m->(l.foldl (dw 3) (n,m)).1=l.foldl Ql n
 | [],n,m,_=>rfl
 | x::l,n,m,a=>by
  have:dw 3 (n,m) x=(Ql n x,m+1):=by
   unfold dw Ql;have:¬ (m+1=1):=by omega
   simp [this]
  rw [Bi,this,lL l _ _ (by omega),Bi]
def kL:∀ (l:List Int) (n m:Int),1<=m->(l.foldl (dw 4) (n,m)).1=l.foldl Rl n
 | [],n,m,_=>rfl
 | x::l,n,m,a=>by
  have:dw 4 (n,m) x=(Rl n x,m+1):=by
   unfold dw Rl;have:¬ (m+1=1):=by omega
   simp [this]
  rw [Bi,this,kL l _ _ (by omega),Bi]
def VL {P:Int->Prop}:∀ (l:List Int) (n:Int),P n->(∀ x∈l,P x)->P (l.foldl Ql n)
 | [],_,h,_=>h
 | x::l,n,h,a=>by
  rw [Bi]
  refine VL l _ ?_ λy b=>a y (Ak _ b)
  unfold Ql;split
  ·exact a x (Ac ..)
  ·exact h
def XL {P:Int->Prop}:∀ (l:List Int) (n:Int),P n->(∀ x∈l,P x)->P (l.foldl Rl n)
 | [],_,h,_=>h
 | x::l,n,h,a=>by
  rw [Bi]
  refine XL l _ ?_ λy b=>a y (Ak _ b)
  unfold Rl;split
  ·exact a x (Ac ..)
  ·exact h
def oD {n:Int} (h:-1000000<=n/\n<=1000000):Q3 n=true:=by unfold Q3 L5;simp;omega
def WO {T0:Int} {l:List Int} (d:T0=1∨T0=2∨T0=3∨T0=4) (a:l≠[]) (b:∀ x∈l,-1000000<=x/\x<=1000000) (f:l.length<=1000000) :
  rr T0 l=Xg T0 l/\Q3 (rr T0 l)=IU T0 l:=by
 have e:rr T0 l=Xg T0 l:=by
  unfold rr Xg;rcases d with rfl|rfl|rfl|rfl
  ·rw [nL l _ _ a];simp
  ·rw [mL];simp
  ·obtain⟨x,l,rfl⟩:=D3 a;rw [Bi,show dw 3 (0,0) x=(x,1) by simp [dw],lL _ _ _<|by omega];simp [RV]
  ·obtain⟨x,l,rfl⟩:=D3 a;rw [Bi,show dw 4 (0,0) x=(x,1) by simp [dw],kL _ _ _<|by omega];simp [TV]
 refine⟨e,?_⟩
 rw [e];unfold Xg IU;rcases d with rfl|rfl|rfl|rfl
 ·simp only [if_true,true_or];exact oD<|by omega
 ·simp
 ·obtain⟨x,l,rfl⟩:=D3 a;simp only [show ¬ ((3:Int)=1) by omega,if_false,if_true,true_or,or_true];exact oD<|VL (P:=λz=>-1000000<=z/\z<=1000000) l x (b x<|Ac ..) λy c=>b y<|Ak _ c
 ·obtain⟨x,l,rfl⟩:=D3 a;simp only [show ¬ ((4:Int)=1) by omega,show ¬ ((4:Int)=3) by omega,if_false,if_true,or_true];exact oD<|XL (P:=λz=>-1000000<=z/\z<=1000000) l x (b x<|Ac ..) λy c=>b y<|Ak _ c
abbrev Gr:=List Int×List Int
def nq (a:List (List Int×Int)) (p:List Int):List Int:=(a.filter λw=>decide (w.1=p)).map (·.2)
def Sg (gs:List Gr) (w:List Int×Int):List Gr:=match gs[gs.findIdx λg=>decide (g.1=w.1)]? with
 | some g=>gs.set (gs.findIdx λg=>decide (g.1=w.1)) (g.1,g.2++[w.2])
 | none=>gs++[(w.1,[w.2])]
def yf (a:List (List Int×Int)):List Gr:=a.foldl Sg []
structure aL (gs:List Gr) (ws:List (List Int×Int)):Prop where
 uniq:∀ (j k:Nat) (g h:Gr),gs[j]?=some g->gs[k]?=some h->g.1=h.1->j=k
 Yp:∀ g∈gs,g.2=nq ws g.1
 here:∀ g∈gs,∃ w∈ws,w.1=g.1
 all:∀ w∈ws,∃ g∈gs,g.1=w.1
def Fm (a:List (List Int×Int)) (w:List Int×Int) (p:List Int):nq (a++[w]) p=nq a p++if w.1=p then [w.2] else []:=by
 unfold nq;rw [Cf,Au];congr 1;by_cases h:w.1=p
 ·simp [h]
 ·simp [h]
def OO {a:List (List Int×Int)} {p:List Int} (h:∀ w∈a,w.1≠p):nq a p=[]:=by unfold nq;rw [List.filter_eq_nil_iff.2 λw b=>by simpa using h w b];rfl
def vU {gs:List Gr} {J:List (List Int×Int)} {w:List Int×Int} (h:aL gs J):aL (Sg gs w) (J++[w]):=by
 unfold Sg;cases e:gs[gs.findIdx λg=>decide (g.1=w.1)]? with
 | none =>
  have y:∀ g∈gs,g.1≠w.1:=by
   intro g d l;have:=List.findIdx_lt_length_of_exists (xs:=gs) (p:=λg=>decide (g.1=w.1)) ⟨g,d,decide_eq_true l⟩
   rw [Ad this] at e;cases e
  refine⟨λj k g r c f l=>?_,λg d=>?_,λg d=>?_,λx e=>?_⟩
  ·rw [List.getElem?_append] at c f;by_cases m:j<gs.length<;>by_cases o:k<gs.length
   ·rw [if_pos m] at c;rw [if_pos o] at f;exact h.uniq j k g r c f l
   ·rw [if_pos m] at c;rw [if_neg o] at f;have C:r=(w.1,[w.2]):=by
     by_cases v:k-gs.length=0
     ·rw [v] at f;simpa using f.symm
     ·rw [Be<|by simp;omega] at f;cases f
    rw [C] at l;exact absurd l<|y g<|B2 c
   ·rw [if_neg m] at c;rw [if_pos o] at f;have C:g=(w.1,[w.2]):=by
     by_cases v:j-gs.length=0
     ·rw [v] at c;simpa using c.symm
     ·rw [Be<|by simp;omega] at c;cases c
    rw [C] at l;exact absurd l.symm<|y r<|B2 f
   ·rw [if_neg m] at c;rw [if_neg o] at f;have v:j-gs.length=0:=by
     apply Bo;intro v;rw [Be<|by simp;omega] at c;cases c
    have M:k-gs.length=0:=by
     apply Bo;intro M;rw [Be<|by simp;omega] at f;cases f
    omega
  ·rw [Fm];rcases List.mem_append.1 d with d|d
   ·rw [if_neg (Ne.symm<|y g d),Bn];exact h.Yp g d
   ·rw [A1] at d;subst d;rw [if_pos rfl,OO λx e l=>?_];· rfl
    obtain⟨g,d,N⟩:=h.all x e;exact y g d<|N.trans l
  ·rcases List.mem_append.1 d with d|d
   ·obtain⟨x,m,o⟩:=h.here g d;exact⟨x,Ax _ m,o⟩
   ·rw [A1] at d;subst d;exact⟨w,Bv _ (by simp),rfl⟩
  ·rcases List.mem_append.1 e with e|e
   ·obtain⟨g,m,o⟩:=h.all x e;exact⟨g,Ax _ m,o⟩
   ·rw [A1] at e;subst e;exact⟨_,Bv _ (List.mem_singleton.2 rfl),rfl⟩
 | some q =>
  obtain⟨z,K⟩:=List.getElem?_eq_some_iff.1 e;have F:q.1=w.1:=by
   have:=List.findIdx_getElem (xs:=gs) (p:=λg=>decide (g.1=w.1)) (w:=z)
   rw [K] at this;exact of_decide_eq_true this
  simp only;generalize gs.findIdx (λg=>decide (g.1=w.1))=i at e z K;have A:∀ (j:Nat) (g:Gr),(gs.set i (q.1,q.2++[w.2]))[j]?=some g->∃ r,gs[j]?=some r/\g.1=r.1/\((j=i/\g=(q.1,q.2++[w.2]))∨(j≠i/\g=r)):=by
   intro j g c;by_cases s:i=j
   ·subst s;rw [B8 z] at c;cases c;exact⟨q,e,rfl,.inl ⟨rfl,rfl⟩⟩
   ·rw [B5 s] at c;exact⟨g,c,rfl,.inr ⟨Ne.symm s,rfl⟩⟩
  refine⟨λj k g r c f l=>?_,λg d=>?_,λg d=>?_,λx t=>?_⟩
  ·obtain⟨a,u,B,_⟩:=A j g c;obtain⟨b,O,P,_⟩:=A k r f;exact h.uniq j k a b u O<|B.symm.trans<|l.trans P
  ·obtain⟨j,c⟩:=Ep d;obtain⟨a,u,B,G⟩:=A j g c;rw [Fm];rcases G with ⟨rfl,rfl⟩|⟨G,rfl⟩
   ·rw [if_pos F.symm];simp only;rw [h.Yp q<|B2 e]
   ·rw [if_neg λl=>G (h.uniq j i g q u e<|l.symm.trans F.symm),Bn];exact h.Yp g<|B2 u
  ·obtain⟨j,c⟩:=Ep d;obtain⟨a,u,B,_⟩:=A j g c;obtain⟨x,m,o⟩:=h.here a<|B2 u;exact⟨x,Ax _ m,o.trans B.symm⟩
  ·have L:∀ a∈gs,∃ g∈gs.set i (q.1,q.2++[w.2]),g.1=a.1:=by
    intro a Q;obtain⟨j,c⟩:=Ep Q;by_cases s:i=j
    ·subst s;rw [e] at c;cases c;exact⟨_,B2 (B8 z),rfl⟩
    ·exact⟨a,B2 ((B5 s).trans c),rfl⟩
   rcases List.mem_append.1 t with t|t
   ·obtain⟨a,m,o⟩:=h.all x t;obtain⟨g,H,I⟩:=L a m;exact⟨g,H,I.trans o⟩
   ·rw [A1] at t;subst t;obtain⟨g,H,I⟩:=L q<|B2 e;exact⟨g,H,I.trans F⟩
def Bp:∀ (a vs:List (List Int×Int)) (gs:List Gr),aL gs vs->aL (a.foldl Sg gs) (vs++a)
 | [],vs,gs,h=>by rw [Bn];exact h
 | w::a,vs,gs,h=>by
  have:=Bp a (vs++[w]) (Sg gs w) (vU h)
  rw [List.append_assoc] at this
  exact this
def Cg (a:List (List Int×Int)):aL (yf a) a:=by
 have:=Bp a [] [] ⟨λ_ _ _ _ h=>by simp at h,λ_ h=>by simp at h,λ_ h=>by simp at h,λ_ h=>by simp at h⟩
 rw [List.nil_append] at this;exact this
def aW (r:O3) (w:List Int):List Int:=r.D0.map<|vA w
def pW (r:O3) (w:List Int):List Int×Int:=((aW r w).take (r.D0.length-1),(aW r w).getD (r.D0.length-1) 0)
def jn (r:O3) (ways:List (List Int)):List U0:=if r.T0=0 then ways.map λw=>⟨r.N0,aW r w⟩
 else ways.filterMap λw=>if Q3 (rr r.T0<|nq (ways.map<|pW r) (pW r w).1) then some ⟨r.N0,(pW r w).1++[rr r.T0<|nq (ways.map<|pW r) (pW r w).1]⟩ else none
def MD (r:O3) (ways:List (List Int)):List U0:=if r.T0=0 then ways.map λw=>⟨r.N0,aW r w⟩
 else (yf<|ways.map<|pW r).filterMap λg=>if IU r.T0 g.2 then some ⟨r.N0,g.1++[Xg r.T0 g.2]⟩ else none
def JO {r:O3} {ways:List (List Int)} (q:0<=r.T0/\r.T0<=4) (j:∀ w∈ways,-1000000<=(pW r w).2/\(pW r w).2<=1000000) (k:ways.length<=1000000):∀ x,x∈MD r ways↔x∈jn r ways:=by
 intro x;unfold MD jn;by_cases d:r.T0=0
 ·rw [if_pos d,if_pos d]
 ·rw [if_neg d,if_neg d];have e:=Cg<|ways.map<|pW r;have i:∀ p,(∃ w∈ways.map (pW r),w.1=p)->rr r.T0 (nq (ways.map<|pW r) p)=Xg r.T0 (nq (ways.map<|pW r) p)/\Q3 (rr r.T0<|nq (ways.map<|pW r) p)=IU r.T0 (nq (ways.map<|pW r) p):=by
   rintro p ⟨w,f,rfl⟩;refine WO (by omega) ?_ ?_ ?_
   ·unfold nq;intro l;have:w.2∈((ways.map<|pW r).filter λz=>decide (z.1=w.1)).map (·.2):=List.mem_map.2 ⟨w,List.mem_filter.2 ⟨f,by simp⟩,rfl⟩
    rw [l] at this;simp at this
   ·intro y m;obtain⟨z,o,rfl⟩:=List.mem_map.1 m;obtain⟨u,a,rfl⟩:=List.mem_map.1 (List.mem_filter.1 o).1;exact j u a
   ·unfold nq;rw [Aa];refine Aw (Cd _ _) ?_;rw [Aa];exact k
  rw [E4,E4];constructor
  ·rintro⟨g,b,h⟩;obtain⟨w,f,c⟩:=e.here g b;obtain⟨u,a,rfl⟩:=List.mem_map.1 f;obtain⟨f1,f2⟩:=i g.1 ⟨_,f,c⟩;refine⟨u,a,?_⟩
   rw [c,f2,f1,<- e.Yp g b];exact h
  ·rintro⟨u,a,h⟩;obtain⟨g,b,c⟩:=e.all (pW r u)<|Eu a;obtain⟨f1,f2⟩:=i g.1 ⟨_,Eu a,c.symm⟩;refine⟨g,b,?_⟩
   rw [e.Yp g b,<- f1,<- f2,c];exact h
def HO {r:O3} {ways:List (List Int)} (a:0<=r.T0/\r.T0<=4) (b:∀ w∈ways,-1000000<=(pW r w).2/\(pW r w).2<=1000000) (c:ways.length<=1000000):bg (MD r ways)=bg (jn r ways):=
 l5 (bu _).1 (bu _).1 λx=>by rw [(bu _).2,(bu _).2,JO a b c]
open Go Go.RowKit
def ud {c:List Int} {S:List U0} {r:O3} (a:HE c r) (h:∀ i,0<=c.getD i 0/\c.getD i 0<=3) (f:∀ x∈S,K5 c x):XW S r:=by
 have g:=a.vars;refine⟨⟨λl b=>YV (a.lits l b) g.1 f,λl b d=>?_,λl b t j=>?_,λx k=>(f x k).pA,a.body,by omega,λl b=>?_⟩,oV a.safe,g⟩
 ·obtain⟨_,e,_⟩:=yc<|a.lits l b;unfold jX L5 at e;rw [if_pos d] at e;simp only [Ae,decide_eq_true_eq] at e;exact e
 ·exact ((yc<|a.lits l b).2.2.2.2 t j).2.2
 ·obtain⟨p,_,m,o,_⟩:=yc<|a.lits l b;by_cases d:l.R0=1∨l.R0=2
  ·have:=(m d).2
   have:=h l.N0.toNat
   omega
  ·have:=(o d).2
   omega
attribute [local irreducible] DW DS DL DQ Ev X1 I3 du bl DT
def CE (l:List I6) (a:List Int) (g:∀ t∈l,W5 a.length t) (m:l.length<=1000000):Fn 147 [.s 2 (l.map a7),.s 1 (a.map aq)] (λr=>r=.s 1 ((l.map (vA a)).map aq)):=by
 refine J2 func147 ?_;intro O o p q;have h:(l.map a7).length=l.length:=Aa _;have u:(a.map aq).length=a.length:=Aa _;repeat' (first|(apply Ua;(iterate 8 exact rfl))|(first|refine zs ?_|fail))
 refine ae (ι:=Nat) (λi=>⟨1,[(0,.s 2<|l.map a7),(1,.s 1<|a.map aq),(5,.row 0),(9,.s 2<|l.map a7),(10,.i l.length),(11,.i i)],[(0,.row 3 1<|((l.take i).map<|vA a).map aq)]⟩)
  (λi=>i<=l.length) (λi=>l.length-i) 0 (Ai _) (er id ⟨rfl,rfl,rfl,rfl,by rw [<- h];rfl,rfl,trivial⟩) ?_
 intro i v;by_cases b:i<l.length
 ·have j:=g _<|Ah b;unfold W5 at j;have d:l.take (i+1)=l.take i++[l[i]]:=Am b;by_cases e:l[i].var<0
  ·have c:vA a l[i]=l[i].n:=by unfold vA;rw [if_pos e]
   repeat' (first|refine zs ?_|(refine zm ?_ ?_<;>intro f)|omega)
   exact⟨i+1,b,er (λ_=>2) (hH:=⟨by rw [d,Au,Au,F5,c];rfl,trivial⟩),by omega⟩
  ·have k:l[i].var.toNat<a.length:=by omega
   have c:vA a l[i]=a[l[i].var.toNat]:=by unfold vA;rw [if_neg e,A4,Ad k];rfl
   repeat' (first|refine zs ?_|(refine zm ?_ ?_<;>intro f)|omega)
   exact⟨i+1,b,er (λ_=>2) (hH:=⟨by rw [d,Au,Au,F5,c];rfl,trivial⟩),by omega⟩
 ·rw [Aj<|by omega];repeat' (first|refine zs ?_|(refine zm ?_ ?_<;>intro f)|omega)
  refine ag (ck 4 rfl rfl rfl) ?_;repeat' (apply cr)
  exact⟨.inl rfl,_,rfl,rfl,rfl⟩
def zb (a b:Int):Bool:=decide (a=b)
def fS {a b:Int} {c:Bool} (h:decide (a≠b) = !c):zb a b=c:=by unfold zb;cases c<;>simp_all
def FF (l m:List (Int)):Fn 103 [.s 1 (l.map aq),.s 1 (m.map aq)] (λr=>r=.b (e8 zb l m)):=by
 refine J2 func103 ?_;intro O j k o;refine cm (t:=0) rfl λa=>?_
 refine zS ?_;refine a6 rfl (λh=>?_)<|λh=>?_
 ·have f:l.length≠m.length:=by rw [Aa,Aa] at h;omega
  refine zR ?_;exact bi rfl (vb _ _ _ f).symm
 ·have p:l.length=m.length:=by rw [Aa,Aa] at h;omega
  refine zS ?_;refine ae (ι:=Nat) (λi=>⟨0,[(0,.s 1<|l.map aq),(1,.s 1<|m.map aq),(5,.i i)],[]⟩)
   (λi=>i<=l.length/\e8 zb l m=e8 zb (l.drop i) (m.drop i)) (λi=>l.length-i) 0 ⟨Ai _,rfl⟩
   (er id) ?_
  rintro i ⟨h1,h2⟩;refine zS ?_;refine a6 rfl (λh=>?_)<|λh=>?_
  ·have d:i<l.length:=by rw [Aa] at h;omega
   have g:i<m.length:=by omega
   have e:=xm zb l m i d g;refine zS ?_;refine ee rfl (λa=>?_)<|λa=>?_
   ·have c:zb l[i] m[i]=false:=by exact fS a
    refine zR ?_;exact bi rfl<|by rw [h2,e,c];rfl
   ·have c:zb l[i] m[i]=true:=by exact fS a
    refine zS ?_;exact⟨i+1,⟨d,by rw [h2,e,c];rfl⟩,er id,by omega⟩
  ·refine zR ?_;exact bi rfl<|by rw [h2,Vb _ _ _ _ (by rw [Aa] at h;omega)<|by rw [Aa] at h;omega]
structure O6 (F0:List Int) (r:O3) (ways:List (List Int)):Prop where
 gA:HE F0 r
 many:ways.length<=2000
 len:∀ w∈ways,w.length=r.vars.toNat
 pA:∀ w∈ways,∀ y∈w,-1000000<=y/\y<=1000000
 Jd:r.D0.length<=3
def headD (r:O3) (ways:List (List Int)) (w:List Int):Option U0:=if r.T0=0 then some ⟨r.N0,aW r w⟩
 else if Q3 (rr r.T0<|nq (ways.map<|pW r) (pW r w).1) then some ⟨r.N0,(pW r w).1++[rr r.T0<|nq (ways.map<|pW r) (pW r w).1]⟩ else none
def sf (r:O3) (ways:List (List Int)):jn r ways=ways.filterMap (headD r ways):=by
 unfold jn;by_cases h:r.T0=0
 ·rw [if_pos h,<- List.filterMap_eq_map];congr 1;funext w;unfold headD;rw [if_pos h];rfl
 ·rw [if_neg h];congr 1;funext w;unfold headD;rw [if_neg h]
def O6.D0 {a:List Int} {r:O3} {ways:List (List Int)} (h:O6 a r ways) {w:List Int} (b:w∈ways):∀ t∈r.D0,W5 w.length t:=by intro t c;have d:=h.gA.D0 t c;have e:=h.gA.vars;rw [h.len w b];unfold W5;omega
def O6.Yp {d:List Int} {r:O3} {ways:List (List Int)} (h:O6 d r ways) {w:List Int} (a:w∈ways):∀ x∈aW r w,-1000000<=x/\x<=1000000:=by
 intro x e;obtain⟨t,b,rfl⟩:=List.mem_map.1 e;unfold vA;split
 ·exact (h.gA.D0 t b).2.2
 ·rename_i f;have c:t.var.toNat<w.length:=by have:=h.D0 a t b;unfold W5 at this;omega
  rw [A4,Ad c];exact h.pA w a _<|Ah c
def fR (a b:List Int):e8 zb a b=decide (a=b):=by
 by_cases h:a=b
 ·subst h;rw [decide_eq_true rfl];induction a with
  | nil=>rfl
  | cons x a ih=>unfold e8;simp [zb,ih]
 ·rw [decide_eq_false h];cases c:e8 zb a b with
  | false=>rfl
  | true =>
   exfalso;apply h;clear h;induction a generalizing b with
   | nil=>cases b with|nil=>rfl|cons y b=>simp [e8] at c
   | cons x a ih =>
    cases b with
    | nil=>simp [e8] at c
    | cons y b =>
     simp only [e8,zb,Ae,decide_eq_true_eq] at c;rw [c.1,ih b c.2]
def pn {α a:Type} (f:α->Option a) {l:List α} {i:Nat} (hi:i<l.length):(l.take (i+1)).filterMap f=(l.take i).filterMap f++(f l[i]).toList:=by rw [Am hi,List.filterMap_append,List.filterMap_cons,List.filterMap_nil];cases f l[i]<;>rfl
def qx {α a:Type} (f:α->Option a) (l:List α) (i:Nat):((l.take i).filterMap f).length<=i:=Aw (Ey _ _)<|by rw [Ap];omega
def Lx (T0:Int):∀ (l:List Int) (n m B:Int),0<=m->0<=B->-B<=n->n<=B->m<=B->(∀ x∈l,-1000000<=x/\x<=1000000) ->
  -(B+1000000*l.length)<=(l.foldl (dw T0) (n,m)).1/\(l.foldl (dw T0) (n,m)).1<=B+1000000*l.length/\(l.foldl (dw T0) (n,m)).2=m+l.length
 | [],n,m,B,_,_,c,d,_,_=>by simp;omega
 | x::l,n,m,B,j,k,c,d,o,b=>by
  have p:=b x (Ac ..);rw [Bi];have a:-(B+1000000)<=(dw T0 (n,m) x).1/\(dw T0 (n,m) x).1<=B+1000000/\(dw T0 (n,m) x).2=m+1:=by
   unfold dw;dsimp only;refine⟨?_,?_,rfl⟩<;>(repeat' split)<;>omega
  generalize q:dw T0 (n,m) x=e at a;obtain⟨f,r⟩:=e;dsimp only at a;obtain⟨g,h,rfl⟩:=a;obtain⟨s,t,u⟩:=Lx T0 l f (m+1) (B+1000000) (by omega) (by omega) g h (by omega) λy i=>b y<|Ak _ i
  rw [Ba];refine⟨by omega,by omega,by omega⟩
def cK (T:List Int) (r:O3) (ways:List (List Int)) (g:O6 T r ways):Fn 40 [th r,.s 1 (ways.map gk)] (λU=>U=.s 2 ((bg (jn r ways)).map aa)):=by
 refine J2 func40 ?_;intro a3 w0 E0 K1;rw [sf];have a4:=g.many;have a5:=g.Jd;have lw:(ways.map gk).length=ways.length:=Aa _;have lt:(r.D0.map a7).length=r.D0.length:=Aa _;have F:=u9 (ways.filterMap<|headD r ways) (Aw (Ey _ _)<|by omega);by_cases I:r.T0=0
 ·repeat' ((fail_if_success (apply jm 3));(first|refine zs ?_|fail))
  refine ag (ce (t:=5) 95 2 rfl) ?_;refine zS ?_;refine ae (ι:=Nat) (λi=>⟨2,[(1,.s 1<|ways.map gk),(2,.loc 0 0),(5,.row 1),(7,.i i)],[(0,.M1 87 [.i r.N0,.s 2 (r.D0.map a7),.i r.T0,.s 4 (r.body.map bf),.i r.vars]),(1,.row 95 2<|((ways.take i).filterMap<|headD r ways).map aa)]⟩)
   (λi=>i<=ways.length) (λi=>ways.length-i) 0 (Ai _) (er id) ?_
  intro i M;by_cases o:i<ways.length
  ·have p:=Ah o;have A:=Dd r.D0 ways[i] (g.D0 p) (by omega);have q:=pn (headD r ways) o;have u:headD r ways ways[i]=some ⟨r.N0,aW r ways[i]⟩:=by unfold headD;rw [if_pos I]
   rw [u] at q;have lo:((ways.take i).filterMap<|headD r ways).length<=i:=qx _ _ _;clear F;repeat' (first|refine zs ?_|refine z22 ?_ A|(refine zm ?_ ?_<;>intro c)|omega)
   exact⟨i+1,o,er (λj=>match j with|1=>2|j=>j) (hH:=⟨rfl,by rw [q,Au];rfl,trivial⟩),by omega⟩
  ·rw [Aj<|by omega];repeat' (first|refine zs ?_|(refine zm ?_ ?_<;>intro c)|omega)
   refine dm (ck 127 rfl rfl rfl) ?_;repeat' (first|refine zr ?_|refine z21 ?_ F|fail)
   exact⟨.inl rfl,_,rfl,rfl,rfl⟩
 ·have a9:=(g.gA.Km I).1;obtain⟨m,p⟩:∃ m,r.D0.length=m+1:=⟨r.D0.length-1,by omega⟩;have b0:=g.gA.T0;repeat' ((fail_if_success (apply jm 3));(first|refine zs ?_|fail))
  refine ag (ce (t:=5) 95 2 rfl) ?_;refine zS ?_;refine ae (ι:=Nat) (λi=>⟨2,[(1,.s 1<|ways.map gk),(2,.loc 0 0),(5,.row 1),(6,.i m),(7,.i i)],[(0,.M1 87 [.i r.N0,.s 2 (r.D0.map a7),.i r.T0,.s 4 (r.body.map bf),.i r.vars]),(1,.row 95 2<|((ways.take i).filterMap<|headD r ways).map aa)]⟩)
   (λi=>i<=ways.length) (λi=>ways.length-i) 0 (Ai _) (er id ⟨rfl,rfl,rfl,congrArg (λz=>SV.d<|D.int .i64 z) (show ((r.D0.map a7).length:Int)-1=m by omega),rfl,trivial⟩) ?_
  intro i M;dsimp only at M ⊢;by_cases o:i<ways.length
  ·have V:=Ah o;have A:=Dd r.D0 ways[i] (g.D0 V) (by omega);have q:=pn (headD r ways) o;have lo:((ways.take i).filterMap<|headD r ways).length<=i:=qx _ _ _;have W:(aW r ways[i]).length=m+1:=by unfold aW;rw [Aa];exact p
   have b1:((aW r ways[i]).map aq).length=m+1:=by rw [Aa];exact W
   have B:(pW r ways[i]).1=(aW r ways[i]).take m:=by unfold pW;rw [p];rfl
   clear F;rw [show r.D0.map (vA ways[i])=aW r ways[i] from rfl] at A;repeat' ((fail_if_success (apply jm 10));(first|refine zs ?_|refine z22 ?_ A|(refine zm ?_ ?_<;>intro c)|fail))
   all_goals try omega
   generalize X:(pW r ways[i]).1=P at B;refine my (ι:=Unit) (λ_=>⟨2,[(1,.s 1<|ways.map gk),(2,.loc 0 0),(5,.row 1),(6,.i m),(7,.i i),(8,.s 1<|(aW r ways[i]).map aq),(9,.i<|rr r.T0<|nq (ways.map<|pW r) P)],[(0,.M1 87 [.i r.N0,.s 2 (r.D0.map a7),.i r.T0,.s 4 (r.body.map bf),.i r.vars]),(1,.row 95 2<|((ways.take i).filterMap<|headD r ways).map aa)]⟩) (λ_=>True) ?_ ?_
   ·refine zS ?_;refine ae (ι:=Nat×Int×Int) (λx=>⟨2,[(1,.s 1<|ways.map gk),(2,.loc 0 0),(5,.row 1),(6,.i m),(7,.i i),(8,.s 1<|(aW r ways[i]).map aq),(9,.i x.2.1),(10,.i x.2.2),(11,.i x.1)],[(0,.M1 87 [.i r.N0,.s 2 (r.D0.map a7),.i r.T0,.s 4 (r.body.map bf),.i r.vars]),(1,.row 95 2<|((ways.take i).filterMap<|headD r ways).map aa)]⟩)
     (λx=>x.1<=ways.length/\(nq ((ways.take x.1).map<|pW r) P).foldl (dw r.T0) (0,0)=(x.2.1,x.2.2)) (λx=>ways.length-x.1) (0,0,0) ⟨Ai _,rfl⟩ (er id) ?_
    rintro⟨k,n,a⟩ ⟨f1,f2⟩;dsimp only at f1 f2 ⊢;by_cases f:k<ways.length
    ·have N:=Ah f;have l:=Dd r.D0 ways[k] (g.D0 N) (by omega);rw [show r.D0.map (vA ways[k])=aW r ways[k] from rfl] at l;have Y:(aW r ways[k]).length=m+1:=by unfold aW;rw [Aa];exact p
     have b2:((aW r ways[k]).map aq).length=m+1:=by rw [Aa];exact Y
     have Z:=g.Yp N;have e:=FF ((aW r ways[i]).take m)<|(aW r ways[k]).take m;rw [fR] at e;have C:nq ((ways.take<|k+1).map<|pW r) P=nq ((ways.take k).map<|pW r) P++if (pW r ways[k]).1=P then [(pW r ways[k]).2] else []:=by
      rw [Am f,Au];exact Fm _ _ _
     have O:(pW r ways[k]).1=(aW r ways[k]).take m:=by unfold pW;rw [p];rfl
     have J:(pW r ways[k]).2=(aW r ways[k])[m]'(by omega):=by
      unfold pW;rw [p];simp only [E5];rw [A4,Ad<|by omega];rfl
     have b3:=Z _ (Ah<|show m<(aW r ways[k]).length by omega);have Q:=Lx r.T0 (nq ((ways.take k).map<|pW r) P) 0 0 0 (Df _) (Df _) (by omega) (Df _) (Df _) (λx J=>by
      obtain⟨z,hz,rfl⟩:=List.mem_map.1 J;obtain⟨a0,hu,rfl⟩:=List.mem_map.1 (List.mem_filter.1 hz).1;have a1:=Bz hu;have:=g.Yp a1
      unfold pW;rw [p];simp only [E5];have R:m<(aW r a0).length:=by unfold aW;rw [Aa];omega
      rw [A4,Ad R];exact this _<|Ah R)
     have b4:(nq ((ways.take k).map<|pW r) P).length<=k:=by
      unfold nq;rw [Aa];refine Aw (Cd _ _) ?_;rw [Aa,Ap];omega
     rw [f2] at Q;dsimp only at Q;by_cases G:(aW r ways[i]).take m=(aW r ways[k]).take m
     ·rw [decide_eq_true G] at e;rw [if_pos<|by rw [O,<- G,<- B]] at C;have f3:(nq ((ways.take<|k+1).map<|pW r) P).foldl (dw r.T0) (0,0)=dw r.T0 (n,a) ((aW r ways[k])[m]'(by omega)):=by rw [C,Ea,f2,J];rfl
      clear C A;have v:∀ (K:Int),dw r.T0 (n,a) ((aW r ways[k])[m]'(by omega))=(K,a+1)->(nq ((ways.take<|k+1).map<|pW r) P).foldl (dw r.T0) (0,0)=(K,a+1):=λK h=>f3.trans h
      by_cases w:r.T0=1
      ·have b:dw r.T0 (n,a) ((aW r ways[k])[m]'(by omega))=(a+1,a+1):=by unfold dw;dsimp only;rw [if_pos w]
       repeat' (first|refine zs ?_|refine z22 ?_ l|refine z22 ?_ e|(refine zm ?_ ?_<;>intro c)|omega)
       all_goals exact⟨(k+1,a+1,a+1),⟨f,v _ b⟩,er id,by show ways.length-(k+1)<ways.length-k;omega⟩
      ·by_cases y:r.T0=2
       ·have b:dw r.T0 (n,a) ((aW r ways[k])[m]'(by omega))=(n+(aW r ways[k])[m]'(by omega),a+1):=by unfold dw;dsimp only;rw [if_neg w,if_pos y]
        repeat' (first|refine zs ?_|refine z22 ?_ l|refine z22 ?_ e|(refine zm ?_ ?_<;>intro c)|omega)
        all_goals exact⟨(k+1,n+(aW r ways[k])[m]'(by omega),a+1),⟨f,v _ b⟩,er id,by show ways.length-(k+1)<ways.length-k;omega⟩
       ·by_cases q3:a+1=1
        ·have b:dw r.T0 (n,a) ((aW r ways[k])[m]'(by omega))=((aW r ways[k])[m]'(by omega),a+1):=by unfold dw;dsimp only;rw [if_neg w,if_neg y,if_pos<|.inl q3]
         repeat' (first|refine zs ?_|refine z22 ?_ l|refine z22 ?_ e|(refine zm ?_ ?_<;>intro c)|omega)
         all_goals exact⟨(k+1,(aW r ways[k])[m]'(by omega),a+1),⟨f,v _ b⟩,er id,by show ways.length-(k+1)<ways.length-k;omega⟩
        ·by_cases q4:r.T0=3
         ·by_cases L:((aW r ways[k])[m]'(by omega))<n
          ·have b:dw r.T0 (n,a) ((aW r ways[k])[m]'(by omega))=((aW r ways[k])[m]'(by omega),a+1):=by unfold dw;dsimp only;rw [if_neg w,if_neg y,if_pos<|.inr<|.inl ⟨q4,L⟩]
           repeat' (first|refine zs ?_|refine z22 ?_ l|refine z22 ?_ e|(refine zm ?_ ?_<;>intro c)|omega)
           all_goals exact⟨(k+1,(aW r ways[k])[m]'(by omega),a+1),⟨f,v _ b⟩,er id,by show ways.length-(k+1)<ways.length-k;omega⟩
          ·have b:dw r.T0 (n,a) ((aW r ways[k])[m]'(by omega))=(n,a+1):=by unfold dw;dsimp only;rw [if_neg w,if_neg y,if_neg<|by omega]
           repeat' (first|refine zs ?_|refine z22 ?_ l|refine z22 ?_ e|(refine zm ?_ ?_<;>intro c)|omega)
           all_goals exact⟨(k+1,n,a+1),⟨f,v _ b⟩,er id,by show ways.length-(k+1)<ways.length-k;omega⟩
         ·by_cases L:n<((aW r ways[k])[m]'(by omega))
          ·have b:dw r.T0 (n,a) ((aW r ways[k])[m]'(by omega))=((aW r ways[k])[m]'(by omega),a+1):=by unfold dw;dsimp only;rw [if_neg w,if_neg y,if_pos<|.inr<|.inr ⟨by omega,L⟩]
           repeat' (first|refine zs ?_|refine z22 ?_ l|refine z22 ?_ e|(refine zm ?_ ?_<;>intro c)|omega)
           all_goals exact⟨(k+1,(aW r ways[k])[m]'(by omega),a+1),⟨f,v _ b⟩,er id,by show ways.length-(k+1)<ways.length-k;omega⟩
          ·have b:dw r.T0 (n,a) ((aW r ways[k])[m]'(by omega))=(n,a+1):=by unfold dw;dsimp only;rw [if_neg w,if_neg y,if_neg<|by omega]
           repeat' (first|refine zs ?_|refine z22 ?_ l|refine z22 ?_ e|(refine zm ?_ ?_<;>intro c)|omega)
           all_goals exact⟨(k+1,n,a+1),⟨f,v _ b⟩,er id,by show ways.length-(k+1)<ways.length-k;omega⟩
     ·rw [decide_eq_false G] at e;rw [if_neg (by rw [O,B];exact λh=>G h.symm),Bn] at C;rw [<- C] at f2;repeat' (first|refine zs ?_|refine z22 ?_ l|refine z22 ?_ e|(refine zm ?_ ?_<;>intro c)|omega)
      exact⟨(k+1,n,a),⟨f,f2⟩,er id,by show ways.length-(k+1)<ways.length-k;omega⟩
    ·rw [Aj<|by omega] at f2;have hn:rr r.T0 (nq (ways.map<|pW r) P)=n:=by unfold rr;rw [f2]
     rw [hn];repeat' (first|refine zs ?_|(refine zm ?_ ?_<;>intro c)|omega)
     exact⟨(),trivial,er id⟩
   ·rintro _ _;dsimp only;have u:headD r ways ways[i]=if Q3 (rr r.T0<|nq (ways.map<|pW r) P) then some ⟨r.N0,P++[rr r.T0<|nq (ways.map<|pW r) P]⟩ else none:=by unfold headD;rw [if_neg I,X]
    generalize rr r.T0 (nq (ways.map<|pW r) P)=n at u ⊢;have H:=ml n;cases S:Q3 n with
    | false =>
     rw [S] at H u;rw [u] at q;repeat' (first|refine zs ?_|refine z21 ?_ H|omega)
     exact⟨i+1,o,er id (hH:=⟨rfl,by rw [q];simp only [B3,if_false,Option.toList_none,Bn];rfl,trivial⟩),by omega⟩
    | true =>
     rw [S] at H u;rw [u] at q;have b5:(P.map aq).length<=3:=by rw [Aa,B,Ap];omega
     repeat' (first|(apply Jy;(iterate 10 exact rfl))|(first|refine zs ?_|refine z21 ?_ H|fail))
     all_goals try omega
     have a2:aa ⟨r.N0,P++[n]⟩=[.int .i64 r.N0,.slice 1<|((aW r ways[i]).take m).map aq++[[.int .i64 n]]]:=by
      unfold aa;rw [Au,B];rfl
     exact⟨i+1,o,er (λj=>match j with|1=>15|j=>j) (hH:=⟨rfl,by rw [q,if_pos rfl,Option.toList_some,Au,F5,a2];rfl,trivial⟩),by omega⟩
  ·rw [Aj<|by omega];repeat' (first|refine zs ?_|(refine zm ?_ ?_<;>intro c)|omega)
   refine dm (ck 127 rfl rfl rfl) ?_;repeat' (first|refine zr ?_|refine z21 ?_ F|fail)
   exact⟨.inl rfl,_,rfl,rfl,rfl⟩
def NR {e:RE} (h:rn e):∀ y∈bx e,-1000000<=y/\y<=1000000:=by
 intro y a;obtain⟨x,b,rfl⟩:=List.mem_map.1 a;obtain⟨v,c⟩:=Ep b;cases x with
 | none=>simp
 | some z=>exact h v z c
def SB {S:List U0} {body:List T2}:∀ (ys:List T2) (e:RE),okB S e.length body->(∀ l∈ys,l∈body/\l.R0=1)->rn e->∀ a∈ek S body ys e,∀ y∈a,-1000000<=y/\y<=1000000
 | [],e,d,_,f,a,b=>by
  rw [ek] at b
  cases c:q9 body (body.length+1) e with
  | none=>rw [c] at b;simp at b
  | some p =>
   rw [c] at b
   simp only at b
   split at b
   ·simp at b
   ·rw [A1] at b
    subst b
    exact NR (Ru d f c)
 | l::ys,e,d,h,f,a,b=>by
  rw [ek] at b
  cases c:q9 body (body.length+1) e with
  | none=>rw [c] at b;simp at b
  | some p =>
   rw [c] at b
   simp only at b
   obtain⟨i,_⟩:=qc d.lit c
   have q:=Ru d f c
   obtain⟨g,j⟩:=h l<|Ac ..
   split at b
   ·simp at b
   ·unfold X9 at b
    rw [if_pos j,List.mem_flatMap] at b
    obtain⟨x,k,b⟩:=b
    split at b
    ·rename_i r
     split at b
     ·rename_i s m
      have o:=d.lit l g
      obtain⟨t,_⟩:=ik (o.facts j x k r).symm (by rw [i];exact o.D0) m
      exact SB ys s (by rw [t,i];exact d) (λl g=>h l<|Ak _ g) (x8 q (d.facts x k) m) a b
     ·simp at b
    ·simp at b
def NU {S:List U0} {v:Nat} {body:List T2} (d:okB S v body) {a:List Int} (e:a∈ek S body (k8 body) (e0 v)):∀ y∈a,-1000000<=y/\y<=1000000:=
 SB (k8 body) (e0 v) (by rw [show (e0 v).length=v from List.length_replicate];exact d) (λl c=>⟨(List.mem_filter.1 c).1,of_decide_eq_true (List.mem_filter.1 c).2⟩)
  (λu x b=>by unfold e0 at b;rw [Eb] at b;split at b<;>simp at b) a e
def mO (k:List Int) (r:O3) (ways:List (List Int)) (b:O6 k r ways) (e:r.T0=0):Fn 98 [th r,.s 1 (ways.map gk)] (λl=>l=.d (.own Y0.B (.slice 2 ((bg (jn r ways)).map aa)))):=by
 refine J2 func98 ?_;intro O v y z;rw [sf];have A:=b.many;have C:=b.Jd;have m:(ways.map gk).length=ways.length:=Aa _;have F:(r.D0.map a7).length=r.D0.length:=Aa _;have o:∀ x∈ways.filterMap (headD r ways),x.args.length<=17592186044416:=by
  intro x a;obtain⟨w,G,a⟩:=List.mem_filterMap.1 a;unfold headD at a;rw [if_pos e] at a;simp only [Option.some.injEq] at a;subst a;unfold aW;simp only [Aa];omega
 have f:=Tb (ways.filterMap<|headD r ways) (Aw (Ey _ _)<|by omega) o;repeat' ((fail_if_success (apply jm 2));(first|refine zs ?_|fail))
 refine ag (ce (t:=5) 95 2 rfl) ?_;repeat' (first|refine zs ?_|(refine zm ?_ ?_<;>intro g)|omega)
 refine ae (ι:=Nat) (λi=>⟨2,[(1,.s 1<|ways.map gk),(2,.loc 0 0),(5,.row 1),(21,.s 1<|ways.map gk),(22,.i ways.length),(23,.i i)],[(0,.M1 87 [.i r.N0,.s 2 (r.D0.map a7),.i r.T0,.s 4 (r.body.map bf),.i r.vars]),(1,.row 95 2<|((ways.take i).filterMap<|headD r ways).map aa)]⟩)
  (λi=>i<=ways.length) (λi=>ways.length-i) 0 (Ai _) (er id ⟨rfl,rfl,rfl,rfl,by rw [<- m];rfl,rfl,trivial⟩) ?_
 intro i H;by_cases c:i<ways.length
 ·have p:=Ah c;have q:=CE r.D0 ways[i] (b.D0 p) (by omega);have h:=pn (headD r ways) c;have u:headD r ways ways[i]=some ⟨r.N0,aW r ways[i]⟩:=by unfold headD;rw [if_pos e]
  rw [u] at h;have lo:((ways.take i).filterMap<|headD r ways).length<=i:=qx _ _ _;clear f;repeat' (first|refine zs ?_|refine z22 ?_ q|(refine zm ?_ ?_<;>intro g)|omega)
  exact⟨i+1,c,er (λj=>match j with|1=>11|j=>j) (hH:=⟨rfl,by rw [h,Au];rfl,trivial⟩),by omega⟩
 ·rw [Aj<|by omega];repeat' (first|refine zs ?_|(refine zm ?_ ?_<;>intro g)|omega)
  refine dm (ck 38 rfl rfl rfl) ?_;repeat' (first|refine zr ?_|refine z21 ?_ f|fail)
  exact⟨.inl rfl,_,rfl,rfl,rfl⟩
def uS (a:List Int) (r:O3) (ways:List (List Int)) (b:O6 a r ways) (c:r.T0=0):Fn 98 [th r,.s 1 (ways.map gk)] (λd=>d=.s 2 ((bg (jn r ways)).map aa)):=(mO a r ways b c).Z5
def na (T0:Int) (x:T2):Int:=if x.R0=2∨T0≠0 then 1 else 0
def Vh (T0 N0:Int) (lv:List Int) (x:T2):List Int:=
 if 2<x.R0 then lv
 else if lv.getD N0.toNat 0<lv.getD x.N0.toNat 0+na T0 x then lv.set N0.toNat (lv.getD x.N0.toNat 0+na T0 x) else lv
def vS (lv:List Int) (r:O3):List Int:=r.body.foldl (Vh r.T0 r.N0) lv
def mu (l:List O3) (lv:List Int):List Int:=l.foldl vS lv
def ph (l:List O3):Nat->List Int->List Int
 | 0,a=>a
 | n+1,a=>ph l n (mu l a)
def mX (a b:List Int):Prop:=a.length=b.length/\∀ i,a.getD i 0<=b.getD i 0
def mX.refl (a:List Int):mX a a:=⟨rfl,λ_=>Df _⟩
def mX.trans {a b c:List Int} (h:mX a b) (g:mX b c):mX a c:=⟨h.1.trans g.1,λi=>Gq (h.2 i)<|g.2 i⟩
def d6 (x:T2):Bool:=decide (x.R0=1)||decide (x.R0=2)
def ru (T0:Int) (x:T2):Bool:=decide (x.R0=2)||decide (T0≠0)
def m9 (T0:Int) (x:T2):Int:=if ru T0 x then 1 else 0
def jz (T0 N0:Int) (x:T2) (lv:List Int) (ch:Bool):List Int×Bool:=
 if lv.getD N0.toNat 0<lv.getD x.N0.toNat 0+m9 T0 x then (lv.set N0.toNat (lv.getD x.N0.toNat 0+m9 T0 x),true) else (lv,ch)
def ic (n T0 N0:Int) (b:Option (List Int×Bool)) (x:T2):Option (List Int×Bool):=match b with
 | none=>none
 | some (a,c)=>if n<a.getD x.N0.toNat 0+m9 T0 x then none else some (jz T0 N0 x a c)
def km (n:Int) (a:Option (List Int×Bool)) (r:O3):Option (List Int×Bool):=(r.body.filter d6).foldl (ic n r.T0 r.N0) a
def su (n:Int) (l:List O3) (lv:List Int):Option (List Int×Bool):=l.foldl (km n)<|some (lv,false)
def qw (n:Int) (l:List O3):Nat->List Int->Option (List Int)
 | 0,_=>none
 | k+1,b=>match su n l b with
  | none=>none
  | some (a,true)=>qw n l k a
  | some (a,false)=>some a
def QO (n:Int) (lv:List Int):Nat:=(lv.map λv=>(n-v).toNat).sum
def jr (n:Nat):List Int:=List.replicate n 0
def NN (p:R3):Option (List Int):=qw p.F0.length p.M0 (p.F0.length*p.F0.length+1)<|jr p.F0.length
def qM {n:Int}:∀ {lv:List Int} {i:Nat} {v:Int} (h:i<lv.length),lv[i]<v->v<=n->QO n (lv.set i v)<QO n lv
 | [],_,_,h,_,_=>by simp at h
 | u::lv,0,v,_,a,b=>by
  simp only [QO,List.set_cons_zero,A3,Hg,List.getElem_cons_zero] at a ⊢
  omega
 | u::lv,i+1,v,h,a,b=>by
  have:=qM (n:=n) (lv:=lv) (i:=i) (v:=v) (by simpa using h) (by simpa using a) b
  simp only [QO,Hm,A3,Hg] at this ⊢
  omega
def QB (n m:Nat):QO n (jr m)=m*n:=by unfold QO jr;rw [List.map_replicate,List.sum_replicate_nat];simp
def Rs (n:Int) (a lv:List Int) (ch:Bool):Prop:=lv.length=a.length/\(∀ v∈lv,0<=v/\v<=n)/\QO n lv<=QO n a/\(ch=true->QO n lv<QO n a)
def Rs.refl {n:Int} {lv:List Int} (h:∀ v∈lv,0<=v/\v<=n):Rs n lv lv false:=⟨rfl,h,Af _,λh=>by cases h⟩
def Rs.step {n T0 N0:Int} {a lv:List Int} {ch:Bool} {x:T2} (h:Rs n a lv ch) (j:N0.toNat<a.length) (k:¬ n<lv.getD x.N0.toNat 0+m9 T0 x):Rs n a (jz T0 N0 x lv ch).1 (jz T0 N0 x lv ch).2:=by
 obtain⟨d,b,f,g⟩:=h;unfold jz;split
 ·rename_i e;have c:N0.toNat<lv.length:=by omega
  rw [A4,Ad c,Cm] at e;have:=qM (n:=n) c e<|by omega
  refine⟨by simpa using d,λv i=>?_,by simp only;omega,λ_=>by simp only;omega⟩
  rcases List.mem_or_eq_of_mem_set i with h|h
  ·exact b v h
  ·have:=(b _<|Ah c).1
   omega
 ·exact⟨d,b,f,g⟩
def kl (n T0 N0:Int):∀ (b:List T2),b.foldl (ic n T0 N0) none=none
 | []=>rfl
 | _::b=>kl n T0 N0 b
def mo (n:Int):∀ (l:List O3),l.foldl (km n) none=none
 | []=>rfl
 | r::l=>by
  rw [Bi,show km n none r=none from kl _ _ _ _]
  exact mo n l
def oJ {n T0 N0:Int} {lv:List Int} {ch:Bool} {x:T2} (h1:x.N0.toNat<lv.length) (a:N0.toNat<lv.length):ic n T0 N0 (some (lv,ch)) x =
  if n<lv[x.N0.toNat]+m9 T0 x then none else if lv[N0.toNat]<lv[x.N0.toNat]+m9 T0 x then some (lv.set N0.toNat (lv[x.N0.toNat]+m9 T0 x),true) else some (lv,ch):=by
 simp only [ic,jz,A4,Ad h1,Ad a,Cm];split
 ·rfl
 ·split<;>rfl
def Rs.next {n T0 N0:Int} {b lv lv':List Int} {ch ch':Bool} {x:T2} (h:Rs n b lv ch) (c:N0.toNat<b.length) (a:ic n T0 N0 (some (lv,ch)) x=some (lv',ch')):Rs n b lv' ch':=by
 unfold ic at a;split at a
 ·cases a
 ·rename_i d;cases d;split at a
  ·cases a
  ·rename_i e;have:=h.step (T0:=T0) c e
   injection a with a
   rw [a] at this;exact this
def tZ (a:List Bool×List Int) (x:T2):List Bool×List Int:=if a.1.getD x.N0.toNat false then a else (a.1.set x.N0.toNat true,a.2++[x.N0])
def Sy:∀ {bs:List Bool} {i:Nat} (_:i<bs.length),bs[i]?=some false->(bs.set i true).count false+1=bs.count false
 | [],_,h,_=>by simp at h
 | b::bs,0,_,a=>by simp at a;subst a;simp
 | b::bs,i+1,h,a=>by
  have:=Sy (bs:=bs) (i:=i) (by simpa using h) (by simpa using a)
  rw [Hm,Fo,Fo]
  omega
def Ns (n m:Nat) (a:List Bool×List Int):Prop:=a.1.length=n/\2*a.1.count false+a.2.length<=m/\∀ v∈a.2,0<=v/\v<n
def Ns.step {n m:Nat} {b:List Bool×List Int} {x:T2} (h:Ns n m b) (g:0<=x.N0/\x.N0<n):Ns n m (tZ b x):=by
 obtain⟨d,i,e⟩:=h;unfold tZ;split
 ·exact⟨d,i,e⟩
 ·rename_i f;have c:x.N0.toNat<b.1.length:=by omega
  have j:b.1[x.N0.toNat]?=some false:=by
   rw [Ad c];rw [A4,Ad c,Cm] at f;cases k:b.1[x.N0.toNat] with
   | true=>exact absurd k f
   | false=>rfl
  have:=Sy c j
  refine⟨by simpa using d,by simp only [Ag,A0];omega,λv a=>?_⟩
  rcases List.mem_append.1 a with a|a
  ·exact e v a
  ·simp at a;subst a;exact g
structure Pb (p:R3) (lv:List Int):Prop where
 len:lv.length=p.F0.length
 fit:∀ r∈p.M0,∀ l∈r.body,l.R0<=2->lv.getD l.N0.toNat 0+na r.T0 l<=lv.getD r.N0.toNat 0
structure Jn (p:R3):Prop where
 gA:∀ r∈p.M0,HE p.F0 r
 ar:∀ i,0<=p.F0.getD i 0/\p.F0.getD i 0<=3
 IZ:p.F0.length<=10
 lZ:p.M0.length<=12
def L7 (S:List U0) (r:O3):List U0:=bg<|jn r<|gw S r
def LvA (p:R3) (lv:List Int) (n:Int) (a:List U0) (S:List U0):Prop:=
 (∀ x∈S,K5 p.F0 x)/\∀ x:U0,lv.getD x.N0.toNat 0<n->(x∈S↔x∈a)
def V7 (p:R3) (lv:List Int) (n:Int) (a:List U0):Lv O3 where
 rs:=p.M0.filter λr=>decide (lv.getD r.N0.toNat 0=n)
 hd:=L7
 mw:=J3
 A:=LvA p lv n a
def Zq {S:List U0} {r:O3} {w:List Int} (h:w∈gw S r):w∈ek S r.body (k8 r.body) (e0 r.vars.toNat):=by
 unfold gw at h;split at h
 ·exact (kh _ _ _).mem_iff.1 h
 ·simp at h
def nJ {a:List Int} {S:List U0} {r:O3} (b:HE a r) (e:∀ i,0<=a.getD i 0/\a.getD i 0<=3) (f:∀ x∈S,K5 a x) (g:S.Nodup):O6 a r (gw S r):=by
 have c:=ud b e f;obtain⟨_,_,h⟩:=oc g c.ok.lit c.bd;refine⟨b,?_,λw d=>((h w).1<|Zq d).1,λw d y j=>NU c.ok (Zq d) y j,?_⟩
 ·unfold gw;split
  ·rename_i k;exact of_decide_eq_true k
  ·simp
 ·have:=b.Jd
  have:=e r.N0.toNat
  omega
def jW {c:List Int} {r:O3} {ways:List (List Int)} (h:O6 c r ways) {x:U0} (a:x∈jn r ways):K5 c x/\x.N0=r.N0:=by
 rw [sf] at a;obtain⟨w,f,a⟩:=List.mem_filterMap.1 a;have d:=h.Yp f;have e:(aW r w).length=r.D0.length:=Aa _;unfold headD at a;split at a
 ·simp only [Option.some.injEq] at a;subst a;exact⟨⟨h.gA.N0,by rw [e];exact h.gA.Jd,d⟩,rfl⟩
 ·rename_i g;split at a
  ·rename_i i;simp only [Option.some.injEq] at a;subst a;have k:=(h.gA.Km g).1;have j:(pW r w).1.length=r.D0.length-1:=by
    show ((aW r w).take<|r.D0.length-1).length=_;rw [Ap,e];omega
   refine⟨⟨h.gA.N0,?_,λy b=>?_⟩,rfl⟩
   ·simp only [Ag,A0,j];rw [show r.D0.length-1+1=r.D0.length by omega];exact h.gA.Jd
   ·rcases List.mem_append.1 b with b|b
    ·exact d y<|Bz b
    ·rw [A1] at b;subst b;exact pD i
  ·cases a
def aT {p:R3} (a:Jn p) {S:List U0} {r:O3} (b:r∈p.M0) (c:∀ x∈S,K5 p.F0 x) (d:S.Nodup) {x:U0} (e:x∈L7 S r):K5 p.F0 x/\x.N0=r.N0:=
 jW (nJ (a.gA r b) a.ar c d) (((bu _).2 x).1 e)
def LO {S T:List U0} (h:∀ x∈S,x∈T) {x:U0} (a:Z4 S x=true):Z4 T x=true:=M4.2<|h x<|M4.1 a
def Zl {S T:List U0} {x:U0} (h:x∈S↔x∈T):Z4 S x=Z4 T x:=by rw [Bool.eq_iff_iff,M4,M4];exact h
def aK {S T:List U0} {l:T2} {a:List Int} (h:∀ x∈S,x∈T) (e:l.R0=2->∀ x:U0,x.N0=l.N0->(x∈S↔x∈T)) (b:K3 S l a=true):K3 T l a=true:=by
 unfold K3 at b ⊢;split
 ·rename_i d;rw [if_pos d] at b;exact LO h b
 ·rename_i d;rw [if_neg d] at b;split
  ·rename_i c;rw [if_pos c] at b;rw [<- Zl (e c ⟨l.N0,l.D0.map<|vA a⟩ rfl)];exact b
  ·rename_i c;rw [if_neg c] at b;exact b
def Xw {S T:List U0} {l:T2} {a:List Int} (b:l.R0=1∨l.R0=2->∀ x:U0,x.N0=l.N0->(x∈S↔x∈T)):K3 S l a=K3 T l a:=by
 unfold K3;split
 ·rename_i c;exact Zl (b (.inl c) ⟨l.N0,l.D0.map<|vA a⟩ rfl)
 ·split
  ·rename_i d;rw [Zl (b (.inr d) ⟨l.N0,l.D0.map<|vA a⟩ rfl)]
  ·rfl
def MA {a:List Int} {r:O3} {S T:List U0} (f:HE a r) (g:∀ i,0<=a.getD i 0/\a.getD i 0<=3) (t:∀ x∈S,K5 a x) (u:∀ x∈T,K5 a x) (v:S.Nodup) (y:T.Nodup)
  (z:∀ x∈S,x∈T) (h:∀ l∈r.body,l.R0<=2->na r.T0 l=1->∀ x:U0,x.N0=l.N0->(x∈S↔x∈T)) (b:J3 T r=true) :
  J3 S r=true/\(∀ w∈gw S r,w∈gw T r)/\(r.T0≠0->gw S r=gw T r):=by
 have j:=ud f g t;have k:=ud f g u;obtain⟨_,m,o⟩:=oc v j.ok.lit j.bd;obtain⟨_,A,p⟩:=oc y k.ok.lit k.bd;have q:∀ w∈ek S r.body (k8 r.body) (e0 r.vars.toNat),w∈ek T r.body (k8 r.body) (e0 r.vars.toNat):=by
  intro w d;obtain⟨B,e⟩:=(o w).1 d;exact (p w).2 ⟨B,λl c=>aK z (λe=>h l c (by omega)<|by unfold na;rw [if_pos<|.inl e])<|e l c⟩
 have C:(ua S r.vars.toNat r.body).length<=(ua T r.vars.toNat r.body).length:=by
  rw [(kh S r.vars.toNat r.body).length_eq,(kh T r.vars.toNat r.body).length_eq];exact om m q
 have s:J3 S r=true:=by
  unfold J3 at b ⊢;exact decide_eq_true<|Aw C<|of_decide_eq_true b
 refine⟨s,λw d=>?_,λF=>?_⟩
 ·have G:=q w<|Zq d;unfold gw;rw [if_pos b];exact (kh _ _ _).mem_iff.2 G
 ·have H:∀ w,w∈ek S r.body (k8 r.body) (e0 r.vars.toNat)↔w∈ek T r.body (k8 r.body) (e0 r.vars.toNat):=by
   intro w;rw [o w,p w];refine and_congr_right λ_=>forall_congr' λl=>forall_congr' λc=>?_
   rw [Xw (S:=S) (T:=T) λJ=>h l c (by omega)<|by unfold na;rw [if_pos<|.inr F]]
  have I:=xl m A H;unfold gw;rw [if_pos b,if_pos s];exact zn (Me _ _ _)<|(kh _ _ _).trans I
def Yw {r:O3} {S T:List U0} (c:∀ w∈gw S r,w∈gw T r) (d:r.T0≠0->gw S r=gw T r):∀ x∈L7 S r,x∈L7 T r:=by
 intro x a;have a:=((bu _).2 x).1 a;refine ((bu _).2 x).2 ?_;by_cases b:r.T0=0
 ·unfold jn at a ⊢;rw [if_pos b] at a ⊢;obtain⟨w,e,rfl⟩:=List.mem_map.1 a;exact List.mem_map.2 ⟨w,c w e,rfl⟩
 ·rw [<- d b];exact a
def Tl {p:R3} (d:Jn p) {lv:List Int} (j:Pb p lv) (n:Int) (k:List U0):BU (V7 p lv n k) where
 mono S T hS hT nS nT hst r a hm:=by
  obtain⟨a,c⟩:=List.mem_filter.1 a;have c:=of_decide_eq_true c;obtain⟨m,o,q⟩:=MA (d.gA r a) d.ar hS.1 hT.1 nS.nodup nT.nodup hst (λl s t y x b=>by
   have:=j.fit r a l s t
   have i:lv.getD x.N0.toNat 0<n:=by rw [b];omega
   exact (hS.2 x i).trans (hT.2 x i).symm) hm
  exact⟨m,Yw o q⟩
 grow S T hS hst hT:=by
  refine⟨λx b=>?_,λx b=>⟨λu=>?_,λv=>hst x<|(hS.2 x b).2 v⟩⟩
  ·rcases hT x b with h|⟨r,a,w,e,f,g⟩
   ·exact hS.1 x h
   ·exact (aT d (List.mem_filter.1 a).1 e.1 f.nodup g).1
  ·rcases hT x u with h|⟨r,a,w,e,f,g⟩
   ·exact (hS.2 x b).1 h
   ·obtain⟨a,c⟩:=List.mem_filter.1 a;have c:=of_decide_eq_true c;rw [(aT d a e.1 f.nodup g).2] at b;omega
def Z2 (p:R3) (lv:List Int) (a:List U0):Nat->List U0->Prop
 | 0,m=>m=bg a
 | n+1,M=>∃ m,Z2 p lv a n m/\Fit (V7 p lv n m) m M
def Z2.unique {p:R3} {lv:List Int} {c:List U0}:∀ {n:Nat} {a b:List U0},Z2 p lv c n a->Z2 p lv c n b->a=b
 | 0,_,_,h,g=>h.trans g.symm
 | _+1,_,_,⟨_,d,e⟩,⟨_,f,i⟩=>by
  have:=Z2.unique d f
  subst this
  exact e.unique i
def Z2.ok {p:R3} {lv:List Int} {c:List U0} (f:∀ x∈c,K5 p.F0 x) (g:c.length<=60):∀ {n:Nat} {m:List U0},Z2 p lv c n m->N2 m/\m.length<=60/\(∀ x∈m,K5 p.F0 x)/\∀ x∈c,x∈m
 | 0,m,h=>by
  subst h
  obtain⟨e,b⟩:=bu c
  exact⟨e,Aw (l6 _) g,λx d=>f x ((b x).1 d),λx d=>(b x).2 d⟩
 | n+1,M,⟨m,e,b⟩=>by
  have ih:=Z2.ok f g e
  exact⟨b.M6.strict,b.len,b.M6.a.1,λx d=>b.M6.sub x<|ih.2.2.2 x d⟩
structure Wj where
 p:Nat
 q:Nat
 s:Int
def pi (lv:List Int) (e:Wj):List Int:=if lv.getD e.p 0<lv.getD e.q 0+e.s then lv.set e.p (lv.getD e.q 0+e.s) else lv
def i6 (E:List Wj) (lv:List Int):List Int:=E.foldl pi lv
def xZ (E:List Wj) (lv:List Int):Nat->List Int
 | 0=>lv
 | k+1=>i6 E (xZ E lv k)
def Qa (n:Nat) (E:List Wj):Prop:=∀ e∈E,e.p<n/\e.q<n/\0<=e.s/\e.s<=1
def Qb (n:Nat) (E:List Wj) (F:List Int):Prop:=F.length=n/\(∀ i,0<=F.getD i 0)/\∀ e∈E,F.getD e.q 0+e.s<=F.getD e.p 0
def se (lv:List Int) (e:Wj):(pi lv e).length=lv.length:=by unfold pi;split<;>simp
def Xe:∀ (E:List Wj) (lv:List Int),(i6 E lv).length=lv.length
 | [],_=>rfl
 | e::E,lv=>(Xe E (pi lv e)).trans (se lv e)
def jM (E:List Wj) (lv:List Int):∀ k,(xZ E lv k).length=lv.length
 | 0=>rfl
 | k+1=>(Xe E _).trans (jM E lv k)
def z7 (lv:List Int) (i:Nat) (v:Int) (hi:i<lv.length) (j:Nat):(lv.set i v).getD j 0=if i=j then v else lv.getD j 0:=by
 simp only [A4,List.getElem?_set];split
 ·rename_i h;subst h;first|rfl|(rw [if_pos hi];rfl)
 ·rfl
def HG {n:Nat} {lv:List Int} {e:Wj} (a:lv.length=n) (b:e.p<n) (i:Nat):lv.getD i 0<=(pi lv e).getD i 0:=by
 unfold pi;split
 ·rw [z7 _ _ _<|by omega];split
  ·rename_i h;subst h;omega
  ·exact Df _
 ·exact Df _
def KJ {n:Nat} {lv:List Int} {e:Wj} (a:lv.length=n) (b:e.p<n):lv.getD e.q 0+e.s<=(pi lv e).getD e.p 0:=by
 unfold pi;split
 ·rw [z7 _ _ _ (by omega),if_pos rfl];omega
 ·omega
def Al {n:Nat}:∀ {E:List Wj} {lv:List Int},lv.length=n->Qa n E->∀ i,lv.getD i 0<=(i6 E lv).getD i 0
 | [],_,_,_,_=>Df _
 | e::_,lv,a,hE,i=>Gq (HG a (hE e (Ac ..)).1 i) (Al ((se lv e).trans a) (λx b=>hE x (Ak _ b)) i)
def J9 {n:Nat}:∀ {E:List Wj} {lv:List Int},lv.length=n->Qa n E->∀ e∈E,lv.getD e.q 0+e.s<=(i6 E lv).getD e.p 0
 | [],_,_,_,_,h=>nomatch h
 | x::E,lv,a,hE,e,b=>by
  have c:=hE x (Ac ..)
  have d:Qa n E:=λy g=>hE y<|Ak _ g
  have f:=(se lv x).trans a
  rcases List.mem_cons.1 b with rfl|b
  ·exact Gq (KJ a c.1)<|Al f d _
  ·have i:=J9 f d e b
   have j:=HG (e:=x) a c.1 e.q
   show _<=(i6 E<|pi lv x).getD e.p 0
   omega
def Qo {n:Nat} {E:List Wj} {F lv:List Int} {e:Wj} (d:lv.length=n) (a:Qb n E F) (b:e∈E) (f:e.p<n) (h:∀ i,lv.getD i 0<=F.getD i 0) (i:Nat):(pi lv e).getD i 0<=F.getD i 0:=by
 unfold pi;split
 ·rw [z7 _ _ _<|by omega];split
  ·rename_i c;subst c;have:=a.2.2 e b
   have:=h e.q
   omega
  ·exact h i
 ·exact h i
def Qd {n:Nat} {E:List Wj} {F:List Int} (c:Qb n E F) (hE:Qa n E):∀ (a:List Wj) (lv:List Int),(∀ e∈a,e∈E)->lv.length=n->(∀ i,lv.getD i 0<=F.getD i 0)->∀ i,(i6 a lv).getD i 0<=F.getD i 0
 | [],_,_,_,h,i=>h i
 | e::a,lv,b,d,h,i=>Qd c hE a (pi lv e) (λx f=>b x (Ak _ f)) ((se lv e).trans d)
   (λi=>Qo d c (b e (Ac ..)) (hE e (b e (Ac ..))).1 h i) i
def kD {n:Nat} {E:List Wj} {F lv:List Int} (a:Qb n E F) (hE:Qa n E) (b:lv.length=n) (h:∀ i,lv.getD i 0<=F.getD i 0) (i:Nat):(i6 E lv).getD i 0<=F.getD i 0:=Qd a hE E lv (λ_ h=>h) b h i
def rT {a b:List Int} (c:a.length=b.length) (h:∀ i,a.getD i 0=b.getD i 0):a=b:=by
 apply List.ext_getElem c;intro i d e;have:=h i
 rwa [A4,A4,Ad d,Ad e] at this
def HN {n:Nat} {E:List Wj} {lv:List Int} (a:lv.length=n) (hE:Qa n E) (b:i6 E lv=lv):∀ e∈E,lv.getD e.q 0+e.s<=lv.getD e.p 0:=by
 intro e c;have:=J9 a hE e c
 rwa [b] at this
def cC:∀ {E:List Wj} {lv:List Int},(∀ e∈E,lv.getD e.q 0+e.s<=lv.getD e.p 0)->i6 E lv=lv
 | [],_,_=>rfl
 | e::E,lv,h=>by
  have a:pi lv e=lv:=by
   unfold pi;rw [if_neg];have:=h e<|Ac ..
   omega
  show i6 E (pi lv e)=lv;rw [a];exact cC λx b=>h x<|Ak _ b
section
variable {n : Nat} {E : List Wj} (hE : Qa n E)
abbrev L0 (E:List Wj) (n k:Nat):List Int:=xZ E (jr n) k
def ng (k:Nat):(L0 E n k).length=n:=by rw [jM];simp [jr]
include hE
def yX (k i:Nat):(L0 E n k).getD i 0<=(L0 E n (k+1)).getD i 0:=Al (ng k) hE i
omit hE in
def Fs (n i:Nat):(jr n).getD i 0=0:=by unfold jr;rw [A4,Eb];split<;>rfl
def ZK:∀ (k i:Nat),0<=(L0 E n k).getD i 0
 | 0,i=>by show 0<=(jr n).getD i 0;rw [Fs n];exact Df _
 | k+1,i=>Gq (ZK k i) (yX hE k i)
def tv {F:List Int} (a:Qb n E F):∀ (k i:Nat),(L0 E n k).getD i 0<=F.getD i 0
 | 0,i=>by show (jr n).getD i 0<=_;rw [Fs n];exact a.2.1 i
 | k+1,i=>kD a hE (ng k) (tv a k) i
def um {k:Nat} (h:L0 E n (k+1)=L0 E n k):Qb n E (L0 E n k):=⟨ng k,ZK hE k,HN (ng k) hE h⟩
def eV (n:Nat) (a b:List Int):Nat:=((Eo n).filter λi=>decide (a.getD i 0=b.getD i 0)).length
omit hE in
def Xd {α:Type} (f g:α->Bool):∀ (l:List α),(∀ x∈l,f x=true->g x=true)->(∃ x∈l,f x=false/\g x=true)->(l.filter f).length<(l.filter g).length
 | [],_,⟨_,h,_⟩=>nomatch h
 | y::l,b,⟨x,a,c,d⟩=>by
  have k:(l.filter f).length<=(l.filter g).length:=by
   clear a;have e:∀ x∈l,f x=true->g x=true:=λx a=>b x<|Ak _ a
   clear b;induction l with
   | nil=>simp
   | cons z l ih =>
    have ih:=ih λx a=>e x<|Ak _ a
    have m:=e z<|Ac ..;simp only [B7];cases i:f z<;>cases j:g z<;>simp_all<;>omega
  rcases List.mem_cons.1 a with rfl|a
  ·simp only [B7,c,d,if_true,Ba,B3,if_false];omega
  ·have ih:=Xd f g l (λx a=>b x<|Ak _ a) ⟨x,a,c,d⟩;have o:=b y<|Ac ..;simp only [B7];cases i:f y<;>cases j:g y<;>simp_all<;>omega
omit hE in
def j6 (n:Nat) (f:Nat->Int) (i:Nat):((Eo n).map f).getD i 0=if i<n then f i else 0:=by
 rw [A4,Bh];split
 ·rename_i h;rw [List.getElem?_range h];rfl
 ·rename_i h;rw [Be<|by simp;omega];rfl
def settle {S:List Int} (d:Qb n E S) (r:∀ F,Qb n E F->∀ i,S.getD i 0<=F.getD i 0) {k:Nat} (t:L0 E n k≠S):eV n (L0 E n k) S<eV n (L0 E n (k+1)) S:=by
 have f:=tv hE d;refine Xd _ _ _ (λi a h=>?_) ?_
 ·have b:=of_decide_eq_true h;have c:=yX hE k i;have u:=f (k+1) i;exact decide_eq_true<|by omega
 ·apply Bo;intro g;have g:∀ i,i<n->(L0 E n<|k+1).getD i 0=S.getD i 0->(L0 E n k).getD i 0=S.getD i 0:=by
   intro i a b;apply Bo;intro c;exact g ⟨i,List.mem_range.2 a,decide_eq_false c,decide_eq_true b⟩
  let M:List Int:=(Eo n).map λi=>if (L0 E n k).getD i 0=S.getD i 0 then S.getD i 0 else S.getD i 0-1
  have j:∀ i,i<n->M.getD i 0=if (L0 E n k).getD i 0=S.getD i 0 then S.getD i 0 else S.getD i 0-1:=λi a=>by rw [j6,if_pos a]
  have v:Qb n E M:=by
   refine⟨by simp [M],λi=>?_,λe l=>?_⟩
   ·rw [j6];split
    ·have b:=f k i;have c:=ZK hE k i;split<;>omega
    ·exact Df _
   ·obtain⟨o,w,x,y⟩:=hE e l;have b:=d.2.2 e l;rw [j _ o,j _ w];by_cases m:(L0 E n k).getD e.p 0=S.getD e.p 0
    ·rw [if_pos m];split<;>omega
    ·rw [if_neg m];split
     ·rename_i z;have c:=J9 (ng (E:=E) k) hE e l;have u:=f (k+1) e.p;have A:¬ (L0 E n<|k+1).getD e.p 0=S.getD e.p 0:=λh=>m (g e.p o h)
      have B:(L0 E n k).getD e.q 0+e.s<=(L0 E n<|k+1).getD e.p 0:=c;omega
     ·omega
  apply t;refine rT (by rw [ng,d.1]) λi=>?_
  rcases Nat.lt_or_ge i n with a|a
  ·have b:=r M v i;rw [j i a] at b;split at b
   ·assumption
   ·omega
  ·rw [A4,A4,Be (by rw [ng];exact a),Be<|by rw [d.1];exact a]
omit hE in
def dV (a b:List Int):eV n a b<=n:=by
 have:=Cd (λi=>decide (a.getD i 0=b.getD i 0))<|Eo n
 rw [List.length_range] at this;exact this
def settled {S:List Int} (a:Qb n E S) (c:∀ F,Qb n E F->∀ i,S.getD i 0<=F.getD i 0):L0 E n n=S:=by
 have d:∀ k,L0 E n k=S∨k<=eV n (L0 E n k) S:=by
  intro k;induction k with
  | zero=>exact .inr<|Ai _
  | succ k ih =>
   by_cases h:L0 E n k=S
   ·left;show i6 E (xZ E (jr n) k)=S;rw [show xZ E (jr n) k=S from h];exact cC a.2.2
   ·right;have e:=settle hE a c h;rcases ih with b|b
    ·exact absurd b h
    ·omega
 rcases d n with h|h
 ·exact h
 ·apply Bo;intro f;have e:=settle hE a c f;have b:=dV (n:=n) (L0 E n<|n+1) S;omega
omit hE in
def uJ:∀ (m:Nat) (l:List Int),(∀ v:Nat,1<=v->v<=m->(v:Int)∈l)->m<=l.length
 | 0,_,_=>Ai _
 | m+1,l,h=>by
  have a:=h (m+1) (by omega) (Af _)
  have b:=uJ m (l.erase ((m+1:Nat):Int)) λv c d=>(List.mem_erase_of_ne<|by omega).2<|h v c<|by omega
  rw [List.length_erase_of_mem a] at b
  have:=List.length_pos_of_mem a
  omega
def PG (d:Qb n E (L0 E n n)) (i:Nat):(L0 E n n).getD i 0<=n:=by
 apply Bo;intro a;have a:(n:Int)<(L0 E n n).getD i 0:=by omega
 have m:∀ v:Nat,1<=v->v<=n+1->(v:Int)∈L0 E n n:=by
  intro v t u;apply Bo;intro o;have f:∀ j,j<n->(L0 E n n).getD j 0≠v:=by
   intro j b h;apply o;rw [A4,Ad (by rw [ng];exact b),Cm] at h;rw [<- h];exact Ah _
  let M:List Int:=(Eo n).map λj=>if (v:Int)<(L0 E n n).getD j 0 then (L0 E n n).getD j 0-1 else (L0 E n n).getD j 0
  have c:∀ j,j<n->M.getD j 0=if (v:Int)<(L0 E n n).getD j 0 then (L0 E n n).getD j 0-1 else (L0 E n n).getD j 0:=λj b=>by rw [j6,if_pos b]
  have p:Qb n E M:=by
   refine⟨by simp [M],λj=>?_,λe g=>?_⟩
   ·rw [j6];split
    ·have:=d.2.1 j
     split<;>omega
    ·exact Df _
   ·obtain⟨r,k,w,x⟩:=hE e g;have y:=d.2.2 e g;have z:=f e.q k;rw [c _ r,c _ k];split<;>split<;>omega
  have l:i<n:=by
   apply Bo;intro h;rw [A4,Be<|by rw [ng];omega] at a;simp at a;omega
  have s:=tv hE p n i;have A:=f i l;rw [c i l,if_pos<|by omega] at s;omega
 have:=uJ (n+1) _ m
 rw [ng] at this;omega
end
def Lm {α:Type} {f:α->Int}:∀ {l:List α},bp f l=0->∀ x∈l,f x=0
 | [],_,_,h=>nomatch h
 | y::l,h,x,a=>by
  unfold bp at h
  split at h
  ·rename_i b;exact absurd h b
  ·rename_i b
   rcases List.mem_cons.1 a with rfl|a
   ·exact Bo λc=>b c
   ·exact Lm h x a
def Zh {n a b:Int} (h:¬ L5 n a b=false):a<=n/\n<=b:=by unfold L5 at h;simp at h;exact h
structure xX (n vars:Int) (l:T2):Prop where
 R0:1<=l.R0/\l.R0<=4
 N0:d6 l=true->0<=l.N0/\l.N0<n
structure uX (n:Nat) (r:O3):Prop where
 N0:0<=r.N0/\r.N0<n
 vars:0<=r.vars/\r.vars<=8
 T0:0<=r.T0/\r.T0<=4
 body:r.body.length<=4
 lits:∀ l∈r.body,xX n r.vars l
structure De (p:R3):Prop where
 gX:p.F0.length<=10
 M0:p.M0.length<=12
 Z0:p.Z0.length=p.F0.length
 each:∀ r∈p.M0,uX p.F0.length r
def AS {a:List Int} {b:Int} {l:T2} (h:nf a b l=0):xX a.length b l:=by
 unfold nf at h;split at h;· cases h
 rename_i d;split at h;· cases h
 refine⟨Zh d,λc=>?_⟩
 have e:l.R0=1∨l.R0=2:=by
  unfold d6 at c;simpa using c
 rw [if_pos e] at h;split at h;· cases h
 rename_i f;have:=Zh f
 omega
def jR {b:List Int} {r:O3} (h:pu b r=0):uX b.length r:=by
 unfold pu at h;split at h;· cases h
 rename_i c;split at h;· cases h
 split at h;· cases h
 rename_i d;split at h;· rename_i e;exact absurd h e
 split at h;· cases h
 rename_i f;split at h;· cases h
 split at h;· cases h
 rename_i j;split at h;· rename_i a;exact absurd h a
 rename_i a;have:=Zh c
 exact⟨by omega,Zh d,Zh f,by omega,λl g=>AS<|Lm (Bo λi=>a i) l g⟩
def Qh {a:ByteArray->Bool} {p:R3} (h:dn a p=0):De p:=by
 unfold dn at h;split at h;· cases h
 rename_i d;split at h;· cases h
 rename_i e;split at h;· rename_i b;exact absurd h b
 exact⟨by omega,by omega,by omega,λr c=>jR<|Lm h r c⟩
def vP (r:O3):List Wj:=(r.body.filter d6).map λx=>⟨r.N0.toNat,x.N0.toNat,m9 r.T0 x⟩
def rf (p:R3):List Wj:=p.M0.flatMap vP
def BS (f:Int) (x:T2):0<=m9 f x/\m9 f x<=1:=by unfold m9;split<;>omega
def Qr {p:R3} (h:De p):Qa p.F0.length (rf p):=by intro e a;unfold rf at a;obtain⟨r,b,a⟩:=List.mem_flatMap.1 a;unfold vP at a;obtain⟨x,c,rfl⟩:=List.mem_map.1 a;obtain⟨d,f⟩:=List.mem_filter.1 c;have g:=(h.each r b).N0;have i:=((h.each r b).lits x d).N0 f;have j:=BS r.T0 x;dsimp only;omega
def dM (f:Int) (x:T2):na f x=m9 f x:=by unfold na m9 ru;by_cases a:x.R0=2<;>by_cases b:f=0<;>simp [a,b]
def Zf {x:T2} (h:1<=x.R0):(2<x.R0)↔d6 x=false:=by unfold d6;simp only [Bool.or_eq_false_iff,decide_eq_false_iff_not];omega
def Fw (f pr:Int):∀ (b:List T2) (lv:List Int),(∀ x∈b,1<=x.R0)->b.foldl (Vh f pr) lv=i6 ((b.filter d6).map λx=>⟨pr.toNat,x.N0.toNat,m9 f x⟩) lv
 | [],_,_=>rfl
 | x::b,lv,h=>by
  have c:=h x (Ac ..)
  have d:=λy e=>h y<|Ak _ e
  rw [Bi,Fw f pr b _ d]
  cases a:d6 x with
  | false =>
   rw [List.filter_cons_of_neg<|by rw [a];simp]
   congr 1
   unfold Vh
   rw [if_pos<|(Zf c).2 a]
  | true =>
   rw [Dw a,A3]
   show _=i6 _ (pi lv _)
   congr 1
   unfold Vh pi
   rw [if_neg (by rw [Zf c,a];simp),dM]
def Fu (A B:List Wj) (lv:List Int):i6 (A++B) lv=i6 B (i6 A lv):=by unfold i6;rw [Ea]
def V9:∀ (l:List O3) (lv:List Int),(∀ r∈l,∀ x∈r.body,1<=x.R0)->mu l lv=i6 (l.flatMap vP) lv
 | [],_,_=>rfl
 | r::l,lv,h=>by
  rw [C6,Fu,<- V9 l _ λy a=>h y (Ak _ a)]
  show mu l (vS lv r)=_
  congr 1
  exact Fw _ _ _ _ (h r (Ac ..))
def Sf (p:R3) (h:De p):∀ (k j:Nat),ph p.M0 k (L0 (rf p) p.F0.length j)=L0 (rf p) p.F0.length (j+k)
 | 0,_=>rfl
 | k+1,j=>by
  rw [ph,V9 _ _ λr a x b=>((h.each r a).lits x b).R0.1]
  show ph p.M0 k (L0 (rf p) p.F0.length (j+1))=_
  rw [Sf p h k (j+1)]
  congr 1
  omega
def xt (f pr:Int) (x:T2) (lv:List Int) (ch:Bool):(jz f pr x lv ch).1=pi lv ⟨pr.toNat,x.N0.toNat,m9 f x⟩:=by unfold jz pi;dsimp only;split<;>rfl
def Wu (n f pr:Int):∀ (b:List T2) (lv:List Int) (ch:Bool) (r:List Int×Bool),b.foldl (ic n f pr) (some (lv,ch))=some r->r.1=i6 (b.map λx=>⟨pr.toNat,x.N0.toNat,m9 f x⟩) lv
 | [],lv,ch,r,h=>by cases h;rfl
 | x::b,lv,ch,r,h=>by
  rw [Bi] at h
  by_cases a:n<lv.getD x.N0.toNat 0+m9 f x
  ·rw [show ic n f pr (some (lv,ch)) x=none from if_pos a,kl] at h
   cases h
  ·rw [show ic n f pr (some (lv,ch)) x=some (jz f pr x lv ch) from if_neg a] at h
   have:=Wu n f pr b (jz f pr x lv ch).1 (jz f pr x lv ch).2 r h
   rw [this,xt]
   rfl
def Xu (n:Int):∀ (l:List O3) (lv:List Int) (ch:Bool) (r:List Int×Bool),l.foldl (km n) (some (lv,ch))=some r->r.1=i6 (l.flatMap vP) lv
 | [],lv,ch,r,h=>by cases h;rfl
 | y::l,lv,ch,r,h=>by
  rw [Bi] at h
  cases a:km n (some (lv,ch)) y with
  | none=>rw [a,mo] at h;cases h
  | some q =>
   rw [a] at h
   have b:=Wu n y.T0 y.N0 _ lv ch q a
   have c:=Xu n l q.1 q.2 r h
   rw [c,b,C6,Fu]
   rfl
def VF {f pr:Int} {x:T2} {lv:List Int} {ch:Bool} (h:(jz f pr x lv ch).2=false):ch=false/\(jz f pr x lv ch).1=lv:=by
 unfold jz at h ⊢;split at h
 ·cases h
 ·rename_i a;rw [if_neg a];exact⟨h,rfl⟩
def Td {n f pr:Int}:∀ (b:List T2) (lv lv':List Int) (ch:Bool),pr.toNat<lv.length->b.foldl (ic n f pr) (some (lv,ch))=some (lv',false)->ch=false/\lv'=lv
 | [],lv,lv',ch,_,h=>by cases h;exact⟨rfl,rfl⟩
 | x::b,lv,lv',ch,c,h=>by
  rw [Bi] at h
  by_cases a:n<lv.getD x.N0.toNat 0+m9 f x
  ·rw [show ic n f pr (some (lv,ch)) x=none from if_pos a,kl] at h
   cases h
  ·rw [show ic n f pr (some (lv,ch)) x=some (jz f pr x lv ch) from if_neg a] at h
   obtain⟨d,e⟩:=Td b (jz f pr x lv ch).1 lv' (jz f pr x lv ch).2 (by rw [xt,se];exact c) h
   obtain⟨g,i⟩:=VF d
   exact⟨g,e.trans i⟩
def Vd {n:Int}:∀ (l:List O3) (lv lv':List Int) (ch:Bool),(∀ r∈l,r.N0.toNat<lv.length)->l.foldl (km n) (some (lv,ch))=some (lv',false)->ch=false/\lv'=lv
 | [],lv,lv',ch,_,h=>by cases h;exact⟨rfl,rfl⟩
 | y::l,lv,lv',ch,c,h=>by
  rw [Bi] at h;cases a:km n (some (lv,ch)) y with
  | none=>rw [a,mo] at h;cases h
  | some q =>
   obtain⟨b,d⟩:=q;rw [a] at h;have e:b=i6 (vP y) lv:=Wu n y.T0 y.N0 _ lv ch _ a;have f:b.length=lv.length:=by rw [e,Xe]
   obtain⟨g,i⟩:=Vd l b lv' d (λr j=>by rw [f];exact c r<|Ak _ j) h;subst g;obtain⟨k,m⟩:=Td _ lv b ch (c y<|Ac ..) a;exact⟨k,i.trans m⟩
def xu (p:R3) (h:De p):∀ (m j:Nat) (lv:List Int),qw p.F0.length p.M0 m (L0 (rf p) p.F0.length j)=some lv->∃ k,lv=L0 (rf p) p.F0.length k/\L0 (rf p) p.F0.length (k+1)=L0 (rf p) p.F0.length k
 | 0,_,_,h=>nomatch h
 | m+1,j,lv,a=>by
  rw [qw] at a
  cases b:su p.F0.length p.M0 (L0 (rf p) p.F0.length j) with
  | none=>rw [b] at a;cases a
  | some q =>
   obtain⟨c,f⟩:=q
   rw [b] at a
   have d:c=L0 (rf p) p.F0.length (j+1):=Xu _ _ _ _ _ b
   cases f with
   | true =>
    rw [d] at a
    exact xu p h m (j+1) lv a
   | false =>
    simp only [Option.some.injEq] at a
    have e:=(Vd p.M0 _ c false (λr a=>by rw [ng];have:=(h.each r a).N0;omega) b).2
    exact⟨j,by rw [<- a,e],by rw [<- d,e]⟩
def Sd {n f pr:Int} {N:Nat} {E:List Wj} {F:List Int} (d:Qb N E F) (hE:Qa N E) (hb:∀ i,F.getD i 0<=n):∀ (b:List T2) (lv:List Int) (ch:Bool),(∀ x∈b,(⟨pr.toNat,x.N0.toNat,m9 f x⟩:Wj)∈E)->lv.length=N->(∀ i,lv.getD i 0<=F.getD i 0) ->
  ∃ r,b.foldl (ic n f pr) (some (lv,ch))=some r/\r.1.length=N/\∀ i,r.1.getD i 0<=F.getD i 0
 | [],lv,ch,_,a,c=>⟨(lv,ch),rfl,a,c⟩
 | x::b,lv,ch,g,a,c=>by
  have e:=g x (Ac ..)
  have h:=d.2.2 _ e
  have k:=c x.N0.toNat
  have l:=hb pr.toNat
  dsimp only at h
  rw [Bi,show ic n f pr (some (lv,ch)) x=some (jz f pr x lv ch) from if_neg (by omega)]
  exact Sd d hE hb b (jz f pr x lv ch).1 (jz f pr x lv ch).2 (λy j=>g y<|Ak _ j) (by rw [xt,se];exact a)<|λi=>by rw [xt];exact Qo a d e (hE _ e).1 c i
def Ud {n:Int} {N:Nat} {E:List Wj} {F:List Int} (c:Qb N E F) (hE:Qa N E) (hb:∀ i,F.getD i 0<=n):∀ (l:List O3) (lv:List Int) (ch:Bool),(∀ r∈l,∀ e∈vP r,e∈E)->lv.length=N->(∀ i,lv.getD i 0<=F.getD i 0) ->
  ∃ r,l.foldl (km n) (some (lv,ch))=some r/\r.1.length=N/\∀ i,r.1.getD i 0<=F.getD i 0
 | [],lv,ch,_,a,b=>⟨(lv,ch),rfl,a,b⟩
 | y::l,lv,ch,d,a,b=>by
  obtain⟨⟨g,h⟩,j,k,m⟩:=Sd c hE hb (f:=y.T0) (pr:=y.N0) (y.body.filter d6) lv ch (λx o=>d y (Ac ..) _<|List.mem_map.2 ⟨x,o,rfl⟩) a b
  rw [Bi,show km n (some (lv,ch)) y=some (g,h) from j]
  exact Ud c hE hb l g h (λr p=>d r<|Ak _ p) k m
def mD {n:Int} {l:List O3} {N:Nat} {lv lv':List Int} {ch:Bool} (p:lv.length=N) (i:∀ r∈l,r.N0.toNat<N) (s:∀ v∈lv,0<=v/\v<=n) (h:su n l lv=some (lv',ch)):Rs n lv lv' ch:=by
 have t:∀ (f k:Int) (b:List T2) (c e:List Int) (d g:Bool),k.toNat<lv.length->Rs n lv c d->b.foldl (ic n f k) (some (c,d))=some (e,g)->Rs n lv e g:=by
  intro f k b;induction b with
  | nil=>intro c e d g _ j a;cases a;exact j
  | cons x b ih =>
   intro c e d g i j a;rw [Bi] at a;by_cases m:n<c.getD x.N0.toNat 0+m9 f x
   ·rw [show ic n f k (some (c,d)) x=none from if_pos m,kl] at a;cases a
   ·rw [show ic n f k (some (c,d)) x=some (jz f k x c d) from if_neg m] at a;exact ih _ _ _ _ i (j.step i m) a
 have u:∀ (l:List O3) (c e:List Int) (d g:Bool),(∀ r∈l,r.N0.toNat<N)->Rs n lv c d->l.foldl (km n) (some (c,d))=some (e,g)->Rs n lv e g:=by
  intro l;induction l with
  | nil=>intro c e d g _ j a;cases a;exact j
  | cons y l ih =>
   intro c e d g i j a;rw [Bi] at a;cases o:km n (some (c,d)) y with
   | none=>rw [o,mo] at a;cases a
   | some q =>
    obtain⟨w,z⟩:=q;rw [o] at a;exact ih w e z g (λr A=>i r<|Ak _ A) (t _ _ _ _ _ _ _ (by rw [p];exact i y<|Ac ..) j o) a
 exact u l lv lv' false ch i (Rs.refl s) h
def Ph (p:R3) (h:De p) {F:List Int} (b:Qb p.F0.length (rf p) F) (hb:∀ i,F.getD i 0<=(p.F0.length:Int)):∀ (m j:Nat),(∀ v∈L0 (rf p) p.F0.length j,0<=v/\v<=(p.F0.length:Int))->QO p.F0.length (L0 (rf p) p.F0.length j)<m->qw p.F0.length p.M0 m (L0 (rf p) p.F0.length j)≠none
 | 0,_,_,k=>by omega
 | m+1,j,l,k=>by
  rw [qw]
  obtain⟨⟨f,g⟩,a,_,_⟩:=Ud b (Qr h) hb p.M0 (L0 (rf p) p.F0.length j) false (λr c e o=>List.mem_flatMap.2 ⟨r,c,o⟩) (ng j) (tv (Qr h) b j)
  have a:su p.F0.length p.M0 (L0 (rf p) p.F0.length j)=some (f,g):=a
  rw [a]
  have d:=mD (ng j) (λr c=>by have:=(h.each r c).N0;omega) l a
  have q:f=L0 (rf p) p.F0.length (j+1):=Xu _ _ _ _ _ a
  cases g with
  | false=>simp
  | true =>
   rw [q] at d ⊢
   exact Ph p h b hb m (j+1) d.2.1<|by have:=d.2.2.2 rfl;omega
def gn (p:R3):List Int:=ph p.M0 (p.F0.length+1)<|jr p.F0.length
def tm (p:R3):Bool:=decide (mu p.M0 (ph p.M0 p.F0.length<|jr p.F0.length)=ph p.M0 p.F0.length (jr p.F0.length))
def SH (p:R3) (h:De p):gn p=L0 (rf p) p.F0.length (p.F0.length+1):=by
 have:=Sf p h (p.F0.length+1) 0
 rw [Nat.zero_add] at this;exact this
def RH (p:R3) (h:De p):tm p=decide (L0 (rf p) p.F0.length (p.F0.length+1)=L0 (rf p) p.F0.length p.F0.length):=by
 have:=Sf p h p.F0.length 0
 rw [Nat.zero_add] at this;unfold tm;rw [show ph p.M0 p.F0.length (jr p.F0.length)=L0 (rf p) p.F0.length p.F0.length from this,V9 _ _ λr a x b=>((h.each r a).lits x b).R0.1];rfl
def IG (p:R3) (h:De p):NN p=if tm p then some (gn p) else none:=by
 have hE:=Qr h;rw [RH p h,SH p h];by_cases a:L0 (rf p) p.F0.length (p.F0.length+1)=L0 (rf p) p.F0.length p.F0.length
 ·rw [if_pos (decide_eq_true a),a];have g:=um hE a;have l:=PG hE g;cases b:NN p with
  | none =>
   refine absurd b<|Ph p h g l _ 0 (λv m=>?_) ?_
   ·rw [List.eq_of_mem_replicate m];omega
   ·show QO p.F0.length (jr p.F0.length)<_;rw [QB];exact Nat.lt_succ_self _
  | some d =>
   obtain⟨k,j,c⟩:=xu p h _ 0 d b;have e:=um hE c;rw [j,settled hE e λF f i=>tv hE f k i]
 ·rw [if_neg<|by rw [decide_eq_false a];simp];cases b:NN p with
  | none=>rfl
  | some d =>
   obtain⟨k,j,c⟩:=xu p h _ 0 d b;have e:=um hE c;have o:=settled hE e λF f i=>tv hE f k i
   exfalso;apply a;show i6 (rf p) (L0 (rf p) p.F0.length p.F0.length)=_;rw [o];exact c
def JS {n:Nat} {E:List Wj} (hE:Qa n E) (c:Qb n E (L0 E n n)) (i:Nat) (hi:i<n):(L0 E n n).getD i 0<n:=by
 apply Bo;intro k;have k:(n:Int)<=(L0 E n n).getD i 0:=by omega
 have l:∀ v:Nat,v<=n->(v:Int)∈L0 E n n:=by
  intro v u;apply Bo;intro m;have d:∀ j,j<n->(L0 E n n).getD j 0≠v:=by
   intro j a h;apply m;rw [A4,Ad (by rw [ng];exact a),Cm] at h;rw [<- h];exact Ah _
  let M:List Int:=(Eo n).map λj=>if (v:Int)<(L0 E n n).getD j 0 then (L0 E n n).getD j 0-1 else (L0 E n n).getD j 0
  have b:∀ j,j<n->M.getD j 0=if (v:Int)<(L0 E n n).getD j 0 then (L0 E n n).getD j 0-1 else (L0 E n n).getD j 0:=λj a=>by rw [j6,if_pos a]
  have o:Qb n E M:=by
   refine⟨by simp [M],λj=>?_,λe f=>?_⟩
   ·rw [j6];split
    ·have:=c.2.1 j
     split<;>omega
    ·exact Df _
   ·obtain⟨p,g,w,x⟩:=hE e f;have r:=c.2.2 e f;have s:=d e.q g;rw [b _ p,b _ g];split<;>split<;>omega
  have t:=tv hE o n i;have y:=d i hi;rw [b i hi,if_pos<|by omega] at t;omega
 have:=uJ (n+1) ((L0 E n n).map (· + 1)) λv r s=>List.mem_map.2 ⟨((v-1:Nat):Int),l (v-1) (by omega),by omega⟩
 rw [Aa,ng] at this;omega
def BV {p:R3} (h:dn db p=0):Jn p:=by obtain⟨a,b,c,d⟩:=rJ h;exact⟨a,b,c,d⟩
def LP {p:R3} (h:dn db p=0) (c:tm p=true):Pb p (gn p)/\∀ r∈p.M0,0<=(gn p).getD r.N0.toNat 0/\(gn p).getD r.N0.toNat 0<p.F0.length:=by
 have a:=Qh h;have hE:=Qr a;rw [RH p a,decide_eq_true_eq] at c;have d:=um hE c;rw [SH p a,c];refine⟨⟨ng _,λr b l e j=>?_⟩,λr b=>⟨d.2.1 _,?_⟩⟩
 ·have f:=((a.each r b).lits l e).R0.1;have g:d6 l=true:=by
   cases i:d6 l with
   | true=>rfl
   | false=>exact absurd ((Zf f).2 i)<|by omega
  have:=d.2.2 ⟨r.N0.toNat,l.N0.toNat,m9 r.T0 l⟩ (List.mem_flatMap.2 ⟨r,b,List.mem_map.2 ⟨l,List.mem_filter.2 ⟨e,g⟩,rfl⟩⟩)
  rw [dM];exact this
 ·have k:=(a.each r b).N0;exact JS hE d r.N0.toNat<|by omega
def t6 (p:R3) (l:List U0):Int:=if dn db p≠0 then dn db p else if tm p=false then 4 else tg p.F0 l
inductive Z3 (p:R3) (l:List U0):Int->List U0->Prop
 | bad (h:t6 p l≠0):Z3 p l (t6 p l) []
 | ok (m:List U0) (h:t6 p l=0) (hr:Z2 p (gn p) l p.F0.length m):Z3 p l 0 m
 | Vv (h:t6 p l=0) (hr:¬ ∃ m,Z2 p (gn p) l p.F0.length m):Z3 p l 2 []
def Z3.total (p:R3) (l:List U0):∃ e m,Z3 p l e m:=by
 by_cases h:t6 p l=0
 ·by_cases a:∃ m,Z2 p (gn p) l p.F0.length m
  ·obtain⟨m,a⟩:=a;exact⟨0,m,.ok m h a⟩
  ·exact⟨2,[],.Vv h a⟩
 ·exact⟨_,[],.bad h⟩
def Z3.unique {p:R3} {l:List U0} {e e':Int} {m m':List U0} (h:Z3 p l e m) (b:Z3 p l e' m'):e=e'/\m=m':=by
 cases h with
 | bad h=>cases b with
  | bad=>exact⟨rfl,rfl⟩
  | ok _ a=>exact absurd a h
  | Vv a=>exact absurd a h
 | ok _ h f=>cases b with
  | bad a=>exact absurd h a
  | ok _ _ c=>exact⟨rfl,f.unique c⟩
  | Vv _ d=>exact absurd ⟨_,f⟩ d
 | Vv h d=>cases b with
  | bad a=>exact absurd h a
  | ok _ _ c=>exact absurd ⟨_,c⟩ d
  | Vv=>exact⟨rfl,rfl⟩
def Z3.run {p:R3} {l m:List U0} (h:t6 p l=0) (a:Z3 p l 0 m):Z2 p (gn p) l p.F0.length m:=by
 generalize b:(0:Int)=e at a;cases a with
 | bad c=>exact absurd h c
 | ok _ _ a=>exact a
 | Vv=>cases b
def Z3.ok0 {p:R3} {l m:List U0} (a:Z3 p l 0 m):t6 p l=0:=by
 generalize b:(0:Int)=e at a;cases a with
 | bad c=>exact absurd b.symm c
 | ok _ h _=>exact h
 | Vv=>cases b
structure MOk (p:R3) (l:List U0):Prop where
 prog:dn db p=0
 pr:Jn p
 fit:Pb p (gn p)
 lvs:∀ r∈p.M0,0<=(gn p).getD r.N0.toNat 0/\(gn p).getD r.N0.toNat 0<p.F0.length
 doc:tm p=true
 len:l.length<=60
 facts:∀ x∈l,K5 p.F0 x
def fP {a:List Int} {l:List U0} (h:tg a l=0):l.length<=60/\∀ x∈l,K5 a x:=by
 unfold tg at h;split at h;· cases h
 exact⟨by omega,λx b=>Tx<|jk h x b⟩
def lX {p:R3} {l:List U0} (h:t6 p l=0):MOk p l:=by
 unfold t6 at h;split at h
 ·rename_i a;exact absurd h a
 rename_i a;split at h;· cases h
 rename_i b;have a:dn db p=0:=by simpa using a
 have b:tm p=true:=by simpa using b
 obtain⟨c,d⟩:=fP h;obtain⟨f1,f2⟩:=LP a b;exact⟨a,BV a,f1,f2,b,c,d⟩
def Z3.strict {p:R3} {l:List U0} {e:Int} {m:List U0} (h:Z3 p l e m):N2 m/\m.length<=60/\(∀ x∈m,K5 p.F0 x):=by
 cases h with
 | bad=>exact⟨.nil,by simp,λ_ h=>by simp at h⟩
 | ok _ h a =>
  have:=Z2.ok (lX h).facts (lX h).len a
  exact⟨this.1,this.2.1,this.2.2.1⟩
 | Vv=>exact⟨.nil,by simp,λ_ h=>by simp at h⟩
def aP {p:R3} {lv:List Int} {n:Int} {m M:List U0} (g:Jn p) (i:Pb p lv) (h:Fit (V7 p lv n m) m M):∀ x∈M,x∈m∨∃ r∈(V7 p lv n m).rs,x∈L7 M r:=by
 have f:=Tl g i n m;obtain⟨t1,t2⟩:=bu<|m++((V7 p lv n m).rs.flatMap λr=>L7 M r);have d:∀ x∈bg (m++((V7 p lv n m).rs.flatMap λr=>L7 M r)),x∈M:=by
  intro x b;rcases List.mem_append.1 ((t2 x).1 b) with b|b
  ·exact h.M6.sub x b
  ·obtain⟨r,c,b⟩:=List.mem_flatMap.1 b;exact h.M6.cl r c x b
 have e:(V7 p lv n m).A (bg<|m++((V7 p lv n m).rs.flatMap λr=>L7 M r)):=by
  refine⟨λx b=>h.M6.a.1 x (d x b),λx b=>⟨λj=>(h.M6.a.2 x b).1 (d x j),λk=>(t2 x).2<|Ax _ k⟩⟩
 have l:Good (V7 p lv n m) m (bg<|m++((V7 p lv n m).rs.flatMap λr=>L7 M r)):=by
  refine⟨t1,e,λx b=>(t2 x).2 (Ax _ b),λr c=>?_,λr c x b=>?_⟩
  ·exact (f.mono _ M e h.M6.a t1 h.M6.strict d r c<|h.M6.eZ r c).1
  ·exact (t2 x).2 (Bv _ (List.mem_flatMap.2 ⟨r,c,(f.mono _ M e h.M6.a t1 h.M6.strict d r c<|h.M6.eZ r c).2 x b⟩))
 intro x b;rcases List.mem_append.1 ((t2 x).1<|h.least _ l x b) with b|b
 ·exact .inl b
 ·obtain⟨r,c,b⟩:=List.mem_flatMap.1 b;exact .inr ⟨r,c,b⟩
def Vk {a:List Int} {r:O3} {S T:List U0} (b:HE a r) (c:∀ i,0<=a.getD i 0/\a.getD i 0<=3) (f:∀ x∈S,K5 a x) (g:∀ x∈T,K5 a x) (h:S.Nodup) (j:T.Nodup)
  (k:∀ l∈r.body,l.R0<=2->∀ x:U0,x.N0=l.N0->(x∈S↔x∈T)):J3 S r=J3 T r/\gw S r=gw T r:=by
 have d:=ud b c f;have e:=ud b c g;obtain⟨_,m,o⟩:=oc h d.ok.lit d.bd;obtain⟨_,p,q⟩:=oc j e.ok.lit e.bd;have s:∀ w,w∈ek S r.body (k8 r.body) (e0 r.vars.toNat)↔w∈ek T r.body (k8 r.body) (e0 r.vars.toNat):=by
  intro w;rw [o w,q w];refine and_congr_right λ_=>forall_congr' λl=>forall_congr' λt=>?_
  rw [Xw (S:=S) (T:=T) λv=>k l t<|by omega]
 have u:ua S r.vars.toNat r.body=ua T r.vars.toNat r.body:=zn (Me _ _ _)<|(kh _ _ _).trans<|xl m p s;unfold gw J3;rw [u];exact⟨rfl,rfl⟩
def Z2.stay {p:R3} {lv:List Int} {c:List U0}:∀ {k n:Nat} {m M:List U0},Z2 p lv c n m->Z2 p lv c (n+k) M->(∀ x∈m,x∈M)/\∀ x:U0,lv.getD x.N0.toNat 0<n->(x∈M↔x∈m)
 | 0,n,m,M,h,g=>by
  have:=Z2.unique h g
  subst this
  exact⟨λ_ h=>h,λ_ _=>Iff.rfl⟩
 | k+1,n,m,M,h,⟨j,e,d⟩=>by
  obtain⟨f,i⟩:=Z2.stay (k:=k) h e
  refine⟨λx b=>d.M6.sub x (f x b),λx b=>?_⟩
  rw [d.M6.a.2 x (by show _<((n+k:Nat):Int);omega)]
  exact i x b
def Z2.back {p:R3} {lv:List Int} {a:List U0}:∀ {k n:Nat} {M:List U0},Z2 p lv a (n+k) M->∃ m,Z2 p lv a n m
 | 0,_,M,h=>⟨M,h⟩
 | k+1,_,_,⟨_,h,_⟩=>Z2.back (k:=k) h
def Z2.K4 {p:R3} {lv:List Int} {b:List U0} (g:Jn p) (s:Pb p lv) (i:∀ x∈b,K5 p.F0 x) (j:b.length<=60) {N:Nat} {M:List U0} (h:Z2 p lv b N M) {r:O3} (c:r∈p.M0)
  (t:0<=lv.getD r.N0.toNat 0) (H:lv.getD r.N0.toNat 0<N):J3 M r=true/\∀ x∈L7 M r,x∈M:=by
 obtain⟨n,u⟩:∃ n:Nat,(n:Int)=lv.getD r.N0.toNat 0:=⟨(lv.getD r.N0.toNat 0).toNat,Int.toNat_of_nonneg t⟩;have v:n+1+(N-(n+1))=N:=by omega
 have d:=h;rw [<- v] at d;obtain⟨w,e⟩:=Z2.back d;obtain⟨y,z⟩:=Z2.stay e d;obtain⟨m,A,f⟩:=e;have k:=Z2.ok i j (n:=n+1) (m:=w) ⟨m,A,f⟩;have o:=Z2.ok i j h;have q:r∈(V7 p lv n m).rs:=List.mem_filter.2 ⟨c,decide_eq_true u.symm⟩;obtain⟨B,C⟩:=Vk (g.gA r c) g.ar o.2.2.1 k.2.2.1 o.1.nodup k.1.nodup λl F G x a=>z x (by
  have e:=s.fit r c l F G;have I:0<=na r.T0 l:=by unfold na;split<;>omega
  rw [a];omega)
 refine⟨B.trans (f.M6.eZ r q),λx a=>y x ?_⟩
 unfold L7 at a;rw [C] at a;exact f.M6.cl r q x a
def Z2.from {p:R3} {lv:List Int} {d:List U0} (e:Jn p) (i:Pb p lv) (j:∀ x∈d,K5 p.F0 x) (k:d.length<=60):∀ {N:Nat} {M:List U0},Z2 p lv d N M->∀ x∈M,x∈d∨∃ r∈p.M0,0<=lv.getD r.N0.toNat 0/\lv.getD r.N0.toNat 0<N/\x∈L7 M r
 | 0,M,h,x,b=>by
  subst h;exact .inl (((bu _).2 x).1 b)
 | N+1,M,⟨m,f,g⟩,x,b=>by
  have t:Z2 p lv d (N+1) M:=⟨m,f,g⟩
  have o:=Z2.ok j k t;have q:=Z2.ok j k f;rcases aP e i g x b with b|⟨r,c,b⟩
  ·rcases Z2.from e i j k f x b with b|⟨r,c,u,B,b⟩
   ·exact .inl b
   ·refine .inr ⟨r,c,u,by omega,?_⟩;obtain⟨C,v⟩:=Vk (e.gA r c) e.ar o.2.2.1 q.2.2.1 o.1.nodup q.1.nodup λl w z y A=>g.M6.a.2 y (by
     have f:=i.fit r c l w z;have g:0<=na r.T0 l:=by unfold na;split<;>omega
     rw [A];omega)
    unfold L7 at b ⊢;rw [v];exact b
  ·obtain⟨c,s⟩:=List.mem_filter.1 c;have s:=of_decide_eq_true s;exact .inr ⟨r,c,by omega,by omega,b⟩
end
section
open Go Go.RowKit
variable [Y0]
attribute [local irreducible] DW DS DL DQ Ev X1 I3 du bl RM
def j8 (r:O3):List (List SV):=(r.body.filter d6).map λx=>[.i x.N0,.b<|ru r.T0 x]
def Za (r:O3) (i:Nat):Nat:=((r.body.take i).filter d6).length
def cT (r:O3):Fn 266 [th r] (λa=>a=.fn 271 [.pd (dq r)]):=by
 refine J2 func266 ?_;intro O b c d;refine zS ?_;refine ag (Xx (ds:=dq r) 2 0 rfl rfl) ?_;repeat' (apply cr)
 exact⟨.inl rfl,_,rfl,rfl,rfl⟩
def fK {r:O3} {j:Nat} (h:j<(j8 r).length):∃ c:j<(r.body.filter d6).length,(j8 r)[j]=[.i ((r.body.filter d6)[j]).N0,.b (ru r.T0 (r.body.filter d6)[j])]:=by
 have a:j<(r.body.filter d6).length:=by unfold j8 at h;rwa [Aa] at h
 exact⟨a,by simp [j8]⟩
def eK (r:O3):(j8 r).length=(r.body.filter d6).length:=by unfold j8;rw [Aa]
def bH (r:O3):∀ x∈j8 r,2=x.length/\SV.U1 0 x=true:=by intro x a;unfold j8 at a;obtain⟨y,_,rfl⟩:=List.mem_map.1 a;exact⟨rfl,rfl⟩
def SP {r:O3} {i:Nat} (hi:i<r.body.length) (h:d6 r.body[i]=false):Za r (i+1)=Za r i:=by unfold Za;rw [Am hi,Cf,Ag];simp [h]
def RP {r:O3} {i:Nat} (hi:i<r.body.length) (h:d6 r.body[i]=true):Za r (i+1)=Za r i+1:=by unfold Za;rw [Am hi,Cf,Ag];simp [h]
def bU {r:O3} {i:Nat} (hi:r.body.length<=i):Za r i=(j8 r).length:=by unfold Za j8;rw [Aj hi,Aa]
def NO {r:O3} {i:Nat} (hi:i<r.body.length) (h:d6 r.body[i]=true):∃ hc:Za r i<(j8 r).length,(j8 r)[Za r i]=[.i r.body[i].N0,.b (ru r.T0 r.body[i])]:=by
 have a:r.body.filter d6=(r.body.take i).filter d6++r.body[i]::(r.body.drop<|i+1).filter d6:=by
  conv=>lhs;rw [<- List.take_append_drop i r.body,Cf,List.drop_eq_getElem_cons hi]
  rw [Dw h]
 have c:(j8 r)[Za r i]?=some [.i r.body[i].N0,.b<|ru r.T0 r.body[i]]:=by
  unfold j8 Za;rw [a,Bh,List.getElem?_append_right (Af _),Nat.sub_self];rfl
 obtain⟨d,e⟩:=List.getElem?_eq_some_iff.1 c;exact⟨d,e⟩
abbrev iW (a b c:Value) (n i:Nat):Sl:=[(0,.val a),(1,.val b),(6,.val c),(7,.i n),(8,.i i)]
set_option maxHeartbeats 4000000 in
def gK (r:O3):LZ prog 271 [.pd (dq r)] (j8 r):=by
 refine⟨by kernel_rfl,?_⟩
 intro X e0 q lb l J t hX x b4 b5 B y b6 b7 hy;match lb,b4 with
 | [g],⟨a1,_⟩ =>
  have c0:=a1;obtain⟨b,off,c1,hb,g2,c2⟩:=c0;obtain⟨o,c3,C⟩:=c2 3 (by show 3<5;omega);have C:Q0 X q o (.slice 4<|r.body.map bf):=C;obtain⟨ao,c4,a3,c6,g3,_⟩:=C.R4;have e1:(r.body.map bf).length=r.body.length:=Aa _;rw [e1] at a3 c6;have a4:r.body.length<=maxLen:=by omega
  have g4:r.body.length<=9223372036854775807:=by unfold maxLen at a4;omega
  refine callsIn_wide.1<|callsIn_of_wp_marks (F:=Fence.wide) (n:=0) func271 rfl trivial ?_;have e3:Flat 34 [(0,.val<|.func (.yield l) #[] #[]),(1,.val g)] { tmps:=(#[.func (.yield l) #[] #[]]++[g].toArray)++Array.replicate 32 undef,defers:=[] }:=by
   refine⟨by simp,rfl,λa5 X e w=>?_⟩
   rw [Sl.C1];split
   ·rename_i h;subst h;simp [Rel]
   ·rw [Sl.C1];split
    ·rename_i h;subst h;simp [Rel]
    ·trivial
  have M:∀ (j:Exit) (a:Act) (W:World),(j=.normal∨j=.ret)->a.defers=[]->(J (j8 r).length W∨t W) ->
    bodyPostM Fence.wide 0 prog f271 (λz c=>(∃ v,z=.returned v)/\(J (j8 r).length c∨t c)) j a W:=by
   rintro j a W R hd hj;have:LeavesInM Fence.wide 0 prog f271 a.tmps (λz c=>(∃ v,z=.returned v)/\(J (j8 r).length c∨t c)) a.defers .returning W:=by
    rw [hd];exact⟨.tuple #[],by simp [results,f271],⟨_,rfl⟩,hj⟩
   rcases R with rfl|rfl<;>exact this
  obtain⟨S,a9⟩:∃ S,S=bodyPostM Fence.wide 0 prog f271 (λz c=>(∃ v,z=.returned v)/\(J (j8 r).length c∨t c)):=⟨_,rfl⟩;rw [<- a9] at M ⊢;clear a9;refine wpIn_seq<|wpIn_mono (Q:=λj p T=>j=.normal/\Flat 34 (iW (.func (.yield l) #[] #[]) g o r.body.length 0) p/\Below q.heap.size q T) ?_ ?_
  ·have U:=e3.sD (P:=prog) (τ:=U5) (τok:=bt) (O:=X) q hX x;refine zM U<|zY rfl ?_;subst c1 a3;apply Qm;exact rfl;refine iv (nP (l:=[(0,3,1),(1,84,1),(2,3,1),(3,85,1),(4,3,1)]) rfl rfl rfl 1 rfl) rfl rfl ?_;refine iv (mP (u:=.slice ao r.body.length c4) 5 rfl rfl rfl c3<|λ_=>id) rfl rfl ?_;refine iv (oK 6 (t':=156) rfl rfl a4) rfl rfl ?_;refine zS ?_;intro e a w m;exact⟨rfl,m.flatten ⟨rfl,rfl,rfl,rfl,rfl,trivial⟩ rfl,m.toHeap.J7⟩
  rintro j a0 w0 ⟨rfl,hf0,hbl0⟩;refine wpIn_block (wpIn_loop_ghost (λn a W=>∃ i,i<=r.body.length/\n=r.body.length-i/\Flat 34 (iW (.func (.yield l) #[] #[]) g o r.body.length i) a/\J (Za r i) W) r.body.length ⟨0,Ai _,rfl,hf0,y _ _ _ b5 hbl0⟩ ?_);rintro n a W ⟨i,hi,rfl,hf,hj⟩;obtain⟨V,b0⟩:=B _ _ hj;have e4:∀ b,wX X q W b->b<W.heap.size:=λb h=>h.1
  have U:=hf.sD (P:=prog) (τ:=U5) (τok:=bt) (O:=wX X q W) W e4<|x.grow V;have e5:∀ {k:Nat} {L:Sl} {H:Hp} {e:Env} {a:Act} {w:World},J0 (C8 prog U5 bt (wX X q W) W 34) (lo k) L H e a w->L.get 1=.val g->J0 (C8 prog U5 bt (wX X q W) W 34) (lo k) ((1,.pd<|dq r)::L) H e a w:=
   λm h=>m.AQ 1 h<|SS V b0 rfl a1 m.toHeap
  have e6:∀ {k:Nat} {L:Sl} {H:Hp} {e:Env} {a:Act} {w:World},J0 (C8 prog U5 bt (wX X q W) W 34) (lo k) L H e a w->L.get 6=.val o->J0 (C8 prog U5 bt (wX X q W) W 34) (lo k) ((6,.s 4<|r.body.map bf)::L) H e a w:=
   λm h=>m.AQ 6 h<|SS (e0:=e0) (s:=.s 4<|r.body.map bf) V b0 rfl C m.toHeap
  refine zM U ?_;have b1:∀ (Y:Code) (a:Act) (c:World),i<r.body.length->Flat 34 (iW (.func (.yield l) #[] #[]) g o r.body.length i) a->J (Za r<|i+1) c ->
    DW (C8 prog U5 bt X c 34) Y (λj _ L _=>j=.normal/\Ge L (iW (.func (.yield l) #[] #[]) g o r.body.length<|i+1)) 0 (iW (.func (.yield l) #[] #[]) g o r.body.length i) [] ->
    Code.wpIn Fence.wide 0 prog Y (Exit.then (λp T=>∃ n',n'<r.body.length-i/\∃ i,i<=r.body.length/\n'=r.body.length-i/\Flat 34 (iW (.func (.yield l) #[] #[]) g o r.body.length i) p/\J (Za r i) T)<|Exit.inBlock 0<|λj a w=>S j a w) a c:=by
   intro Y a c s e7 Z h5;have e9:∀ b,X b->b<c.heap.size:=λb h=>Nat.lt_of_lt_of_le (hX b h) (B _ _ Z).1
   have m1:=e7.sD (P:=prog) (τ:=U5) (τok:=bt) (O:=X) c e9<|x.grow (B _ _ Z).1;refine wpIn_mono (BY m1 h5) ?_;rintro j a2 w2 (⟨k2,L2,H2,e2,m2,rfl,hk2⟩|⟨_,_,_,_,_,_,G,_⟩)
   ·exact⟨r.body.length-(i+1),by omega,i+1,by omega,rfl,m2.flatten hk2 rfl,y _ _ _ Z m2.toHeap.J7⟩
   ·exact G.elim
  refine Rr rfl ?_;refine zS ?_;refine Rr rfl ?_;by_cases s:i<r.body.length
  rotate_left
  ·repeat' (first|refine zs ?_|(refine zm ?_ ?_<;>intro hg)|omega)
   intro e a w m;refine M .normal a w (.inl rfl) (m.flatten (Ls:=[]) trivial rfl).defers<|.inl ?_;rw [<- bU (r:=r) (i:=i) (by omega)];exact y _ _ _ hj m.toHeap.J7
  repeat' (first|refine zs ?_|(refine zm ?_ ?_<;>intro hg)|omega)
  refine FH<|xP ?_;refine Rr rfl ?_;apply Qm;exact rfl;refine iv (tT ((6,.s 4<|r.body.map bf)::_) (λe a w m=>e6 m rfl)<|gE (f:=bf) (l:=r.body) (t':=156) rfl rfl rfl rfl rfl rfl s) rfl rfl ?_;refine zS ?_;refine Rr rfl ?_;repeat' (first|refine zs ?_|(refine zm ?_ ?_<;>intro hg)|fail)
  ·intro e a w m;simp only [Exit.inBlock,if_true,Exit.then];refine b1 _ a w s (m.flatten ⟨rfl,rfl,rfl,rfl,rfl,trivial⟩ rfl) (by rw [SP s<|by unfold d6;simp_all];exact y _ _ _ hj m.toHeap.J7) ?_;refine zS ?_;exact⟨rfl,rfl,rfl,rfl,rfl,rfl,trivial⟩
  all_goals
   have b2:d6 r.body[i]=true:=by
    have g0:r.body[i].R0=1∨r.body[i].R0=2:=by omega
    unfold d6;rcases g0 with h|h<;>simp [h]
   obtain⟨hc,R⟩:=NO s b2;refine FH (zK (l:=l) (d:=31) (N:=34) (pre:=[_,_,_,_,_,_,_,_,_,_,_]) (post:=[_]) (by rfl) (by rfl) (by rfl) (by rfl) (iW (.func (.yield l) #[] #[]) g o r.body.length i) rfl (λb=>(32,.b<|!b)::iW (.func (.yield l) #[] #[]) g o r.body.length i) (J<|Za r<|i+1) t ?_ ?_ ?_<|λW1 h=>h.elim (λh=>x.grow (B _ _ h).1)<|λh=>x.grow<|b7 _ h)
   ·repeat' (first|(first|refine zs ?_|(refine zm ?_ ?_<;>intro hg)|fail)|(refine iv (tT ((1,.pd<|dq r)::_) (λe a w m=>e5 m rfl) (Rp (l:=[(0,3,1),(1,84,1),(2,3,1),(3,85,1),(4,3,1)]) rfl rfl rfl rfl)) rfl rfl ?_))
    all_goals
     refine⟨rfl,rfl,⟨rfl,rfl,rfl,rfl,rfl,trivial⟩,λe c vs I b3=>?_⟩
     have:=hy (Za r i) hc W c vs hj I ⟨e,by rw [R];unfold ru;first|(rw [decide_eq_true (by assumption),Bool.true_or];exact b3)|(rw [decide_eq_false (by assumption),Bool.false_or];exact b3)⟩
     rw [<- RP s b2] at this;exact this
   ·intro b c;refine zS ?_;exact⟨rfl,⟨rfl,rfl,rfl,rfl,rfl,rfl,trivial⟩,rfl⟩
   ·rintro b p c hfl ⟨W1,I,A⟩;have g1:Flat 34 (iW (.func (.yield l) #[] #[]) g o r.body.length i) p:=⟨hfl.len,hfl.defers,λa5 X e w=>by
     have:=hfl.slot a5 X e w
     rw [Sl.C1] at this;split at this
     ·rename_i h;subst h;trivial
     ·exact this⟩
    have G:p.eval (.tmp 32)=.bool (!b):=by
     have K:=hfl.slot 32 (λ_=>False) ⟨λ_=>0,λ_=>undef,lo 0⟩ c;have K:Q0 _ c (p.tmps.getD 32 undef) (.bool<|!b):=K;show p.tmps.getD 32 undef=_;generalize p.tmps.getD 32 undef=v at K ⊢;cases K;rfl
    rcases A with ⟨rfl,A⟩|⟨rfl,A⟩
    ·refine wpIn_cond_false G<|wpIn_skip ?_;refine b1 _ p c s g1 (y _ _ _ A I) ?_;refine zS ?_;exact⟨rfl,rfl,rfl,rfl,rfl,rfl,trivial⟩
    ·refine wpIn_cond_true G<|wpIn_ret ?_;exact M .ret p c (.inr rfl) hfl.defers<|.inr<|b6 _ _ A I
end
end Go.Proofs.YtapciiffpnociabGreat
