/- Several texts in one: DagR DagS DagT DagU DagV GosA GosB DagW DagX GosP DagY GosC GosD GosE GosF DagZ DagM GosG VwB GxShO VwC VwP MoC MoD MoE. Condition: none. -/
import Derived.Test.YtapciiffpnociabGreatM17
set_option linter.all false
set_option maxHeartbeats 8000000
open Bool renaming and_eq_true→Ae,false_or→Ci,not_eq_true→C5,true_and→Do
open Classical renaming choose→Ie,choose_spec→Gy
open List renaming append_nil→Bn,countP_append→Ho,countP_cons→Ic,drop_eq_getElem_cons→An,drop_of_length_le→Ar,filter_append→Cf,filter_cons→B7,getD→A4,getElem?_eq_getElem→Ad,getElem?_set_ne→B5,getElem_append_left→C9,getElem_append_right→C2,getElem_mem→Ah,length_append→Ag,length_cons→Ba,length_eraseIdx_of_lt→D4,length_filter_le→Cd,length_map→Aa,length_set→A6,length_singleton→A0,map_append→Au,mem_append_left→Ax,mem_cons→Bl,replicate→Aq,take_of_length_le→Aj,take_succ_eq_append_getElem→Am
open Nat renaming le_refl→Af,le_trans→Aw,lt_of_lt_of_le→As,not_lt_zero→A2,zero_le→Ai
namespace Go.Proofs.YtapciiffpnociabGreat
open Tryz
section
open Go Go.RowKit
variable [Y0]
attribute [local irreducible] DW DS DL DQ Ev X1 I3 du bl DT
def Nf (l:List X0) (y:Z1) (d:l.length<=4398046511104):Fn 35 [.s 5 (l.map ak),o5 y] (λr=>r=.i (mv (λu=>u.id.same y) l)):=by
 refine J2 func35 ?_;intro O e f g;have k:(l.map ak).length=l.length:=Aa _;refine zS ?_;refine ae (ι:=Nat) (λi=>⟨1,[(0,.s 5<|l.map ak),(3,.loc 0 0),(5,.i i)],[(0,.M1 31 [.i y.J1,.i y.L1])]⟩)
  (λi=>i<=l.length/\∀ j (c:j<l.length),j<i->Z1.same l[j].id y=false) (λi=>l.length-i) 0 ⟨Ai _,λj _ h=>absurd h<|A2 j⟩
  (er id) ?_
 rintro i ⟨h1,h2⟩;dsimp only at h1 h2 ⊢;refine zS ?_;refine a6 rfl (λh=>?_)<|λh=>?_
 ·have a:i<l.length:=by omega
  refine zS ?_;refine ee rfl (λb=>?_)<|λb=>?_
  ·refine zR ?_;exact bh rfl (kr (p:=λu:X0=>u.id.same y) h2 a<|va b).symm
  ·refine zS ?_;exact⟨i+1,⟨a,ja (p:=λu:X0=>u.id.same y) h2 a<|va b⟩,er id,by omega⟩
 ·refine zR ?_;exact bh rfl (j7 (p:=λu:X0=>u.id.same y) λj c=>h2 j c<|by omega).symm
def Ss (u:X0) (h:u.P0.length+u.V0.length<=1000000):Fn 132 [fg u] (λr=>r=.s 2 ((cq u).map ay)):=by
 refine J2 func132 ?_;intro O a b c;have d:(u.P0.map ay).length=u.P0.length:=Aa _;have e:(u.V0.map ay).length=u.V0.length:=Aa _;repeat' (first|(apply Jy;(iterate 10 exact rfl))|(first|refine zs ?_|fail))
 refine ag (ck 2 rfl rfl rfl) ?_;repeat' (apply cr)
 exact⟨.inl rfl,_,rfl,rfl,by unfold cq;rw [Au];rfl⟩
def l7 (l m:List (X0)):Fn 46 [.s 5 (l.map ak),.s 5 (m.map ak)] (λr=>r=.b (e8 X0.same l m)):=by
 refine J2 func46 ?_;intro O j k n;refine cm (t:=0) rfl λa=>?_
 refine zS ?_;refine a6 rfl (λh=>?_)<|λh=>?_
 ·have f:l.length≠m.length:=by rw [Aa,Aa] at h;omega
  refine zR ?_;exact bi rfl (vb _ _ _ f).symm
 ·have o:l.length=m.length:=by rw [Aa,Aa] at h;omega
  refine zS ?_;refine ae (ι:=Nat) (λi=>⟨0,[(0,.s 5<|l.map ak),(1,.s 5<|m.map ak),(5,.i i)],[]⟩)
   (λi=>i<=l.length/\e8 X0.same l m=e8 X0.same (l.drop i) (m.drop i)) (λi=>l.length-i) 0 ⟨Ai _,rfl⟩
   (er id) ?_
  rintro i ⟨h1,h2⟩;refine zS ?_;refine a6 rfl (λh=>?_)<|λh=>?_
  ·have d:i<l.length:=by rw [Aa] at h;omega
   have g:i<m.length:=by omega
   have e:=xm X0.same l m i d g;repeat' (first|refine zs ?_|refine z32 ?_ (hc:=by apply ut)|fail)
   refine ee rfl (λa=>?_)<|λa=>?_
   ·have c:X0.same l[i] m[i]=false:=by simpa using a
    refine zR ?_;exact bi rfl<|by rw [h2,e,c];rfl
   ·have c:X0.same l[i] m[i]=true:=by simpa using a
    refine zS ?_;exact⟨i+1,⟨d,by rw [h2,e,c];rfl⟩,er id,by omega⟩
  ·refine zR ?_;exact bi rfl<|by rw [h2,Vb _ _ _ _ (by rw [Aa] at h;omega)<|by rw [Aa] at h;omega]
def W8 (a b:X2):Fn 23 [df a,df b] (λr=>r=.b (e8 X0.same a.I0 b.I0&&e8 X0.same a.K0 b.K0)):=by
 refine J2 func23 ?_;intro O f g h;have c:=l7 a.I0 b.I0;have e:=l7 a.K0 b.K0;cases d:e8 X0.same a.I0 b.I0 with
 | true =>
  rw [d] at c;repeat' (first|refine zr ?_|refine z21 ?_ c|refine z21 ?_ e|fail)
  exact bi rfl rfl
 | false =>
  rw [d] at c;repeat' (first|refine zr ?_|refine z21 ?_ c|fail)
  exact bi rfl rfl
def XG (l:List X0) (i:Z1):decide (mv (λu=>u.id.same i) l<0) = !R1 l i:=by
 have h:=ra (λu:X0=>u.id.same i) l;unfold R1;rw [<- h];cases a:decide (mv (λu:X0=>u.id.same i) l ≥ 0) with
 | true=>rw [decide_eq_true_eq] at a;exact decide_eq_false<|by omega
 | false=>rw [decide_eq_false_iff_not] at a;exact decide_eq_true<|by omega
def Uo (I0:List X0) (u:X0) (l:I0.length<=4398046511104) (h:u.P0.length+u.V0.length<=1000000):Fn 74 [.s 5 (I0.map ak),fg u] (λr=>r=.b (I2 I0 u)):=by
 refine J2 func74 ?_;intro O n o p;have d:=Ss u h;have e:I2 I0 u=(cq u).all (R1 I0):=rfl;have m:(cq u).length<=1000000:=by unfold cq;rw [Ag];omega
 generalize cq u=a at d e m;have q:(a.map ay).length=a.length:=Aa _;repeat' (first|refine zs ?_|refine z21 ?_ d|fail)
 refine ae (ι:=Nat) (λi=>⟨0,[(0,.s 5<|I0.map ak),(5,.s 2<|a.map ay),(6,.i i)],[]⟩)
  (λi=>i<=a.length/\I2 I0 u=(a.drop i).all (R1 I0)) (λi=>a.length-i) 0 ⟨Ai _,e⟩ (er id) ?_
 rintro i ⟨g1,g2⟩;dsimp only at g1 g2 ⊢;by_cases f:i<a.length
 ·have g:=Nf I0 a[i] l;have c:=XG I0 a[i];rw [An f,List.all_cons] at g2;cases j:R1 I0 a[i] with
  | true =>
   rw [j] at c g2;have c:=of_decide_eq_false c;rw [Do] at g2;clear d;repeat' (first|refine zs ?_|refine z21 ?_ g|(refine zm ?_ ?_<;>intro k)|omega)
   exact⟨i+1,⟨f,g2⟩,er id,by omega⟩
  | false =>
   rw [j] at c g2;have c:=of_decide_eq_true c;rw [Bool.false_and] at g2;rw [g2];clear d;repeat' (first|refine zr ?_|refine z21 ?_ g|(refine zm ?_ ?_<;>intro k)|omega)
   exact bi rfl rfl
 ·rw [Ar<|by omega] at g2;rw [g2];repeat' (first|refine zr ?_|(refine zm ?_ ?_<;>intro k)|omega)
  exact bi rfl rfl
abbrev jA (r:X2):HB:=.M1 29 [.s 5 (r.I0.map ak),.s 5 (r.K0.map ak)]
def YG (l:List X0) (i:Z1):Bool:=l.any λv=>v.V0.any λj=>j.same i
def PJ (I0 l:List X0) (x:X0):nb I0 (l++[x])=nb I0 l++(match YG I0 x.id with|true=>[]|false=>[x]):=by unfold nb YG;rw [Cf,B7,List.any_flatMap];cases I0.any λv=>v.V0.any λj=>j.same x.id<;>rfl
def KO {l:List X0} {k:Nat} (a:k<l.length) (i:Z1):YG (l.take (k+1)) i=(YG (l.take k) i||l[k].V0.any λj=>j.same i):=by unfold YG;rw [Am a,List.any_append];simp
def mK (r:X2) (n:r.I0.length<=1000000) (o:(r.I0.flatMap X0.F1).length<=1000000):Fn 31 [df r] (λm=>m=.s 2 ((bg ((Ga r.I0).flatMap X0.F1)).map aa)):=by
 refine J2 func31 ?_;intro O p q u;have v:(r.I0.map ak).length=r.I0.length:=Aa _;refine zS ?_;refine ag (ce (t:=3) 95 2 rfl) ?_;refine ae (ι:=Nat) (λi=>⟨2,[(1,.loc 0 0),(3,.row 1),(4,.i i)],[(0,jA r),(1,.row 95 2<|((nb r.I0<|r.I0.take i).flatMap X0.F1).map aa)]⟩)
  (λi=>i<=r.I0.length) (λi=>r.I0.length-i) 0 (Ai _) (er id) ?_
 intro i x;by_cases f:i<r.I0.length
 ·have a:=PJ r.I0 (r.I0.take i) r.I0[i];rw [<- Am f] at a;repeat' (first|refine zs ?_|(refine zm ?_ ?_<;>intro c)|omega)
  refine ae (ι:=Nat) (λk=>⟨2,[(1,.loc 0 0),(3,.row 1),(4,.i i),(5,.b<|YG (r.I0.take k) r.I0[i].id),(6,.i k)],[(0,jA r),(1,.row 95 2<|((nb r.I0<|r.I0.take i).flatMap X0.F1).map aa)]⟩)
   (λk=>k<=r.I0.length) (λk=>r.I0.length-k) 0 (Ai _) (er id) ?_
  intro k y;by_cases g:k<r.I0.length
  ·have e:=KO g r.I0[i].id;have w:=ZG r.I0[k].V0 r.I0[i].id;cases d:YG (r.I0.take k) r.I0[i].id with
   | true =>
    rw [d,Bool.true_or] at e;repeat' (first|refine zs ?_|(refine zm ?_ ?_<;>intro c)|omega)
    exact⟨k+1,g,er id ⟨rfl,rfl,rfl,by rw [e];rfl,rfl,trivial⟩,by omega⟩
   | false =>
    rw [d,Ci] at e;rw [<- e] at w;repeat' (first|refine zs ?_|refine z22 ?_ w|(refine zm ?_ ?_<;>intro c)|omega)
    exact⟨k+1,g,er id,by omega⟩
  ·rw [Aj (by omega:r.I0.length<=k)];cases d:YG r.I0 r.I0[i].id with
   | true =>
    rw [d] at a;dsimp only at a;rw [Bn] at a;repeat' (first|refine zs ?_|(refine zm ?_ ?_<;>intro c)|omega)
    exact⟨i+1,f,er id (hH:=⟨rfl,by rw [a];rfl,trivial⟩),by omega⟩
   | false =>
    rw [d] at a;dsimp only at a;repeat' (first|refine zs ?_|(refine zm ?_ ?_<;>intro c)|omega)
    have lo:=X8 r.I0<|i+1;have h:(r.I0[i].F1.map aa).length=r.I0[i].F1.length:=Aa _;have l:(nb r.I0<|r.I0.take<|i+1).flatMap X0.F1=(nb r.I0<|r.I0.take i).flatMap X0.F1++r.I0[i].F1:=by rw [a,List.flatMap_append];simp
    rw [l,Ag] at lo;refine v8 rfl ⟨by rw [Aa,h];omega,by unfold maxLen;rw [Aa,h];omega⟩ rfl rfl rfl rfl ?_;refine zS ?_;exact⟨i+1,f,er (λj=>match j with|1=>2|j=>j) (hH:=⟨rfl,by rw [l,Au];rfl,trivial⟩),by omega⟩
 ·rw [Aj (by omega:r.I0.length<=i)];have w:=u9 ((nb r.I0 r.I0).flatMap X0.F1) (by have:=X8 r.I0 r.I0.length;rw [Aj<|Af _] at this;omega);refine ag (ck 3 rfl rfl rfl) ?_;repeat' (first|refine zr ?_|refine z21 ?_ w|(refine zm ?_ ?_<;>intro c)|omega)
  exact⟨.inl rfl,_,rfl,rfl,rfl⟩
def Ju {I0:List X0} (b:W3 I0) (c:∀ u∈I0,I2 I0 u=true):uu I0=true↔∃ u∈I0,¬ Tg I0 u.id:=by
 unfold uu;rw [List.any_eq_true];constructor
 ·rintro⟨u,a,h⟩;exact⟨u,a,λd=>tE b d u a rfl<|(Pj b _ _).1 h⟩
 ·rintro⟨u,a,h⟩;refine Classical.byContradiction λe=>h (Uh c (λv f g=>e ⟨v,f,(Pj b _ _).2 g⟩) u a)
def fm (I0:List X0) (F:List Bool) (j:Z1):Bool:=match I0.findIdx? λu=>u.id.same j with
 | some n=>F.getD n false
 | none=>false
def nH {I0:List X0} (a:W3 I0) {i:Nat} (hi:i<I0.length):I0.findIdx? (λu=>u.id.same (I0[i]'hi).id)=some i:=by
 rw [List.findIdx?_eq_some_iff_getElem];refine⟨hi,X3.2 rfl,λj d=>?_⟩
 rw [X3];intro b;have c:=a.uniq (Ah<|by omega) (Ah hi) b;have:=(List.getElem_inj a.nodup).1 c
 omega
def Oc {I0:List X0} (a:W3 I0) (F:List Bool) {i:Nat} (hi:i<I0.length):fm I0 F (I0[i]'hi).id=F.getD i false:=by unfold fm;rw [nH a hi]
def T7 (I0:List X0) (F:List Bool):Prop:=F.length=I0.length/\∀ (i:Nat) (a:i<I0.length),F.getD i false=true->Tg I0 (I0[i]'a).id
def T7.mark {I0:List X0} {F:List Bool} (h:T7 I0 F) {j:Z1} (a:fm I0 F j=true):Tg I0 j:=by
 unfold fm at a;split at a
 ·rename_i n b;obtain⟨c,d,_⟩:=List.findIdx?_eq_some_iff_getElem.1 b;rw [<- X3.1 d];exact h.2 n c a
 ·cases a
def T7.set {I0:List X0} {F:List Bool} (h:T7 I0 F) {i:Nat} (hi:i<I0.length) (c:(cq (I0[i]'hi)).all (fm I0 F)=true):T7 I0 (F.set i true):=by
 refine⟨by rw [A6];exact h.1,λj d a=>?_⟩
 by_cases b:i=j
 ·subst b;exact .mk _ (Ah hi) λk e=>h.mark<|List.all_eq_true.1 c k e
 ·refine h.2 j d ?_;rw [A4,B5 b] at a;exact a
def Mn (I0:List X0) (F:List Bool):Prop:=∀ (i:Nat) (a:i<I0.length),F.getD i false=false->(cq<|I0[i]'a).all (fm I0 F)=false
def Mn.der {I0:List X0} (b:W3 I0) {F:List Bool} (h:Mn I0 F) {j:Z1} (c:Tg I0 j):fm I0 F j=true:=by
 induction c with
 | mk u d _ ih =>
  obtain⟨i,a,rfl⟩:=List.mem_iff_getElem.1 d;rw [Oc b F a];cases e:F.getD i false with
  | true=>rfl
  | false =>
   have:=h i a e
   rw [List.all_eq_true.2 ih] at this;cases this
def kH {I0:List X0} (a:W3 I0) {F:List Bool} (h:T7 I0 F) (hc:Mn I0 F) {i:Nat} (hi:i<I0.length):F.getD i false=true↔Tg I0 (I0[i]'hi).id:=
 ⟨h.2 i hi,λb=>by rw [<- Oc a F hi];exact hc.der a b⟩
def rq (F:List Bool):Nat:=F.countP λb=>!b
def sO {F:List Bool} {i:Nat} (hi:i<F.length) (a:F.getD i false=false):rq (F.set i true)+1=rq F:=by
 have e:F=F.take i++F[i]::F.drop (i+1):=by rw [<- An hi,List.take_append_drop]
 have b:F[i]=false:=by rw [A4,Ad hi] at a;exact a
 have c:F.set i true=F.take i++true::F.drop (i+1):=by rw [List.set_eq_take_append_cons_drop,if_pos hi]
 unfold rq;rw [c];conv=>rhs;rw [e]
 rw [Ho,Ho,Ic,Ic,b];simp;omega
def tO {F:List Bool}:0<rq F↔∃ (i:Nat) (_:i<F.length),F.getD i false=false:=by
 unfold rq;rw [List.countP_pos_iff];constructor
 ·rintro⟨b,c,h⟩;obtain⟨i,a,rfl⟩:=List.mem_iff_getElem.1 c;exact⟨i,a,by rw [A4,Ad a];simpa using h⟩
 ·rintro⟨i,a,h⟩;rw [A4,Ad a] at h;exact⟨F[i],Ah a,by simpa using h⟩
def IS {I0:List X0} (c:W3 I0) {F:List Bool} (h:T7 I0 F) (hc:Mn I0 F):0<rq F↔∃ u∈I0,¬ Tg I0 u.id:=by
 rw [tO];constructor
 ·rintro⟨i,a,d⟩;have e:i<I0.length:=by rw [<- h.1];exact a
  exact⟨I0[i],Ah e,λb=>by rw [(kH c h hc e).2 b] at d;cases d⟩
 ·rintro⟨u,f,b⟩;obtain⟨i,a,rfl⟩:=List.mem_iff_getElem.1 f;refine⟨i,by rw [h.1];exact a,?_⟩
  cases g:F.getD i false with
  | false=>rfl
  | true=>exact absurd ((kH c h hc a).1 g) b
def HJ (I0:List X0) (F:List Bool) (j:Z1):(mv (λu=>u.id.same j) I0 = -1/\fm I0 F j=false)∨∃ (n:Nat) (_:n<I0.length),mv (λu=>u.id.same j) I0=n/\fm I0 F j=F.getD n false:=by
 unfold mv fm;cases h:I0.findIdx? λu=>u.id.same j with
 | none=>exact .inl ⟨rfl,rfl⟩
 | some n=>exact .inr ⟨n,(List.findIdx?_eq_some_iff_getElem.1 h).1,rfl,rfl⟩
def SJ (I0:List X0) (Z:I0.length<=100000) (P:W3 I0) (J:∀ u∈I0,u.P0.length+u.V0.length<=1000000):Fn 75 [.s 5 (I0.map ak)] (λr=>∃ b,r=.b b/\(b=true↔∃ u∈I0,¬ Tg I0 u.id)):=by
 refine J2 func75 ?_;intro O w0 E0 K1;have K:(I0.map ak).length=I0.length:=Aa _;refine zS ?_;refine KH ((Aq I0.length false).map cu) rfl rfl (by rw [K]) rfl rfl rfl rfl rfl rfl (by show 1*_<=_;omega) (by unfold maxLen;omega) (by rw [List.map_replicate];rfl) rfl rfl ?_;refine zS ?_;refine ae (ι:=List Bool×Bool) (λx=>⟨1,[(0,.s 5<|I0.map ak),(3,.row 0),(4,.i<|rq x.1),(5,.b x.2)],[(0,.row 4 1<|x.1.map cu)]⟩)
  (λx=>T7 I0 x.1/\(x.2=false->Mn I0 x.1)) (λx=>2*rq x.1+(match x.2 with|true=>1|false=>0)) (Aq I0.length false,true)
  ⟨⟨List.length_replicate,λi g h=>by rw [A4,List.getElem?_replicate] at h;split at h<;>cases h⟩,λh=>by cases h⟩ (er id ⟨rfl,rfl,?_,rfl,trivial⟩) ?_
 ·exact congrArg (λz:Int=>SV.d<|.int .i64 z)<|by unfold rq;rw [K,List.countP_replicate];simp
 rintro⟨F,Q⟩ ⟨t,v⟩;dsimp only at t v ⊢;cases Q with
 | false =>
  refine zR ?_;exact⟨.inl rfl,_,rfl,rfl,_,rfl,by rw [decide_eq_true_eq,<- IS P t (v rfl)];omega⟩
 | true =>
  clear v;refine zS ?_;refine ae (ι:=Nat×List Bool×Bool) (λx=>⟨1,[(0,.s 5<|I0.map ak),(3,.row 0),(4,.i<|rq x.2.1),(5,.b x.2.2),(6,.i x.1)],[(0,.row 4 1<|x.2.1.map cu)]⟩)
   (λx=>x.1<=I0.length/\T7 I0 x.2.1/\(x.2.2=false->x.2.1=F/\∀ (j:Nat) (e:j<I0.length),j<x.1->F.getD j false=false->(cq<|I0[j]'e).all (fm I0 F)=false)/\(x.2.2=true->rq x.2.1<rq F)) (λx=>I0.length-x.1) (0,F,false)
   ⟨Ai _,t,λ_=>⟨rfl,λj _ h=>absurd h<|A2 j⟩,λh=>by cases h⟩ (er id) ?_
  rintro⟨i,G,f⟩ ⟨f1,f2,f3,f4⟩;dsimp only at f1 f2 f3 f4 ⊢;have lg:(G.map cu).length=G.length:=Aa _;have a0:=f2.1;by_cases g:i<I0.length
  ·have w:=Ss I0[i]<|J _<|Ah g;have R:(cq I0[i]).length<=1000000:=by unfold cq;rw [Ag];exact J _ (Ah g)
   obtain⟨a,y⟩:∃ a,a=cq I0[i]:=⟨_,rfl⟩;rw [<- y] at w R;have li:(a.map ay).length=a.length:=Aa _;have L:i<G.length:=by omega
   repeat' (first|refine zs ?_|refine z21 ?_ w|(refine zm ?_ ?_<;>intro m)|omega)
   have M:G.getD i false=G[i]:=by rw [A4,Ad L];rfl
   refine ae (ι:=Nat) (λk=>⟨1,[(0,.s 5<|I0.map ak),(3,.row 0),(4,.i<|rq G),(5,.b f),(6,.i i),(7,.s 2<|a.map ay),(8,.b<|!G[i]&&(a.take k).all (fm I0 G)),(9,.i k)],[(0,.row 4 1<|G.map cu)]⟩)
    (λk=>k<=a.length) (λk=>a.length-k) 0 (Ai _) (er id ⟨rfl,rfl,rfl,rfl,rfl,rfl,by rw [List.take_zero,List.all_nil,Bool.and_true];rfl,rfl,trivial⟩) ?_
   clear w;intro k e1;have S:(!G[i]&&a.all (fm I0 G))=false->((i+1<=I0.length)/\T7 I0 G/\(f=false->G=F/\∀ (j:Nat) (e:j<I0.length),j<i+1->F.getD j false=false->(cq<|I0[j]'e).all (fm I0 F)=false)/\(f=true->rq G<rq F)):=λN=>⟨g,f2,λh=>by
     obtain⟨c,A⟩:=f3 h;refine⟨c,λj e a1 o=>?_⟩
     by_cases T:j=i
     ·subst T;subst c;rw [M] at o;rw [o,y] at N;simpa using N
     ·exact A j e (by omega) o,f4⟩
   cases l:(!G[i]&&(a.take k).all (fm I0 G)) with
   | true =>
    by_cases B:k<a.length
    ·have p:=Nf I0 a[k] (by omega);have q:(!G[i]&&(a.take<|k+1).all (fm I0 G))=fm I0 G a[k]:=by
      rw [Am B,List.all_append,<- Bool.and_assoc,l];simp
     rcases HJ I0 G a[k] with ⟨C,E⟩|⟨n,hn,C,E⟩
     ·rw [C] at p;rw [E] at q;repeat' (first|refine z0 ?_|refine z12 ?_|apply i7|(apply mh;exact rfl;exact rfl;(apply k0;(omega));exact rfl;exact rfl;(exact mc rfl);(iterate 6 exact rfl))|refine zs ?_|refine z21 ?_ p|(refine zm ?_ ?_<;>intro m)|omega)
      exact⟨k+1,B,er id ⟨rfl,rfl,rfl,rfl,rfl,rfl,by rw [q];rfl,rfl,trivial⟩,by omega⟩
     ·have U:n<G.length:=by omega
      have V:G.getD n false=G[n]:=by rw [A4,Ad U];rfl
      rw [C] at p;rw [E,V] at q;repeat' (first|refine z0 ?_|refine z12 ?_|apply i7|(apply mh;exact rfl;exact rfl;(apply k0;(omega));exact rfl;exact rfl;(exact mc rfl);(iterate 6 exact rfl))|refine zs ?_|refine z21 ?_ p|(refine zm ?_ ?_<;>intro m)|omega)
      exact⟨k+1,B,er id ⟨rfl,rfl,rfl,rfl,rfl,rfl,by rw [q];rfl,rfl,trivial⟩,by omega⟩
    ·rw [Aj<|by omega] at l;have H:=l;rw [Ae,Bool.not_eq_true'] at H;have a2:=sO L<|M.trans H.1;have a3:rq G<=G.length:=List.countP_le_length;repeat' (first|refine z0 ?_|refine z12 ?_|apply i7|(apply mh;exact rfl;exact rfl;(apply k0;(omega));exact rfl;exact rfl;(exact mc rfl);(iterate 6 exact rfl))|refine zs ?_|(refine zm ?_ ?_<;>intro m)|omega)
     refine⟨(i+1,G.set i true,true),⟨g,f2.set g (by rw [<- y];exact H.2),λh=>(by cases h),λ_=>?_⟩,er id ⟨rfl,rfl,?_,rfl,rfl,trivial⟩ ⟨by rw [List.map_set];rfl,trivial⟩,by show I0.length-(i+1)<I0.length-i;omega⟩
     ·dsimp only;cases f with
      | false=>obtain⟨c,_⟩:=f3 rfl;subst c;omega
      | true=>have:=f4 rfl;omega
     ·exact congrArg (λz:Int=>SV.d<|.int .i64 z)<|by dsimp only;omega
   | false =>
    have W:(!G[i]&&a.all (fm I0 G))=false:=by
     cases I:(!G[i]&&a.all (fm I0 G)) with
     | false=>rfl
     | true =>
      rw [Ae] at I;have:=List.all_eq_true.1 I.2
      rw [I.1,Do] at l;have X:(a.take k).all (fm I0 G)=true:=List.all_eq_true.2 λx Y=>this x<|List.mem_of_mem_take Y
      rw [X] at l;cases l
    repeat' (first|refine zs ?_|(refine zm ?_ ?_<;>intro m)|omega)
    all_goals exact⟨(i+1,G,f),S W,er id,by show I0.length-(i+1)<I0.length-i;omega⟩
  ·repeat' (first|refine zs ?_|(refine zm ?_ ?_<;>intro m)|omega)
   refine⟨(G,f),⟨f2,λh=>?_⟩,er id,?_⟩
   ·obtain⟨c,A⟩:=f3 h;dsimp only at c ⊢;subst c;exact λj e o=>A j e (by omega) o
   ·dsimp only;cases f with
    | false=>obtain⟨c,_⟩:=f3 rfl;subst c;dsimp only;omega
    | true=>have:=f4 rfl;dsimp only;omega
def GJ {I0:List X0} {F:List Bool} {n:Nat} {j:Z1} (h:fm I0 F j=true):fm I0 (F.set n true) j=true:=by
 unfold fm at h ⊢;split at h
 ·rename_i p d;by_cases a:n=p
  ·subst a;rw [A4,List.getElem?_set_self'];rw [A4] at h;cases c:F[n]? with
   | none=>rw [c] at h;cases h
   | some b=>rfl
  ·rw [A4,B5 a];rw [A4] at h;exact h
 ·cases h
structure Le (I0:List X0) (ids bs:List Z1) (F:List Bool):Prop where
 len:F.length=I0.length
 sound:∀ (i:Nat) (hi:i<I0.length),F.getD i false=true->Reach I0 ids (I0[i]'hi).id
 base:∀ j∈bs,R1 I0 j=true->fm I0 F j=true
def Le.set {I0:List X0} {a bs:List Z1} {F:List Bool} (h:Le I0 a bs F) {n:Nat} (d:n<I0.length) (e:Reach I0 a (I0[n]'d).id):Le I0 a bs (F.set n true):=by
 refine⟨by rw [A6];exact h.len,λi f b=>?_,λj g k=>GJ<|h.base j g k⟩
 by_cases c:n=i
 ·subst c;exact e
 ·rw [A4,B5 c] at b;exact h.sound i f b
def zX (I0:List X0) (F:List Bool) (i:Nat):Prop:=∀ (a:i<I0.length),F.getD i false=true->∀ j∈cq (I0[i]'a),R1 I0 j=true->fm I0 F j=true
def Le.iff {I0:List X0} (e:W3 I0) {a:List Z1} {F:List Bool} (h:Le I0 a a F) (hc:∀ i,zX I0 F i) {i:Nat} (hi:i<I0.length):F.getD i false=true↔Reach I0 a (I0[i]'hi).id:=by
 refine⟨h.sound i hi,λb=>?_⟩
 have g:∀ {j:Z1},Reach I0 a j->fm I0 F j=true:=by
  intro j b;induction b with
  | base k c d=>exact h.base k c d
  | step u l _ k c d ih =>
   obtain⟨p,f,rfl⟩:=List.mem_iff_getElem.1 l;rw [Oc e F f] at ih;exact hc p f ih k c d
 rw [<- Oc e F hi];exact g b
def Le.is {I0:List X0} (b:W3 I0) {a:List Z1} {F:List Bool} (h:Le I0 a a F) (hc:∀ i,zX I0 F i):F=I0.map λu=>Y4 (Jb I0 a) u.id:=by
 refine List.ext_getElem (by rw [Aa];exact h.len) λi c f=>?_
 rw [List.getElem_map];have d:i<I0.length:=by rw [<- h.len];exact c
 have e:F.getD i false=F[i]:=by rw [A4,Ad c];rfl
 rw [<- e,Bool.eq_iff_iff,h.iff b hc d,Pj b]
def Le.more {I0:List X0} {b bs:List Z1} {F:List Bool} (h:Le I0 b bs F) {i:Z1} (hi:R1 I0 i=true->fm I0 F i=true):Le I0 b (bs++[i]) F:=
 ⟨h.len,h.sound,λj a c=>by
  rcases List.mem_append.1 a with a|a
  ·exact h.base j a c
  ·rw [List.mem_singleton] at a;subst a;exact hi c⟩
def Cl {α:Type} {o:α->α->Int}:∀ {l:List α},dl o l=true↔∀ (i:Nat) (h:i+1<l.length),o (l[i]'(by omega)) l[i+1]<0
 | []=>⟨λ_ i h=>absurd h (A2 _),λ_=>rfl⟩
 | [x]=>⟨λ_ i h=>by simp at h,λ_=>rfl⟩
 | x::y::l=>by
  unfold dl
  rw [Ae,decide_eq_true_eq,Cl]
  constructor
  ·rintro⟨a,b⟩ i h
   cases i with
   | zero=>exact a
   | succ i=>exact b i (by simpa using h)
  ·intro h
   exact⟨h 0 (by simp),λi c=>h (i+1) (by simpa using c)⟩
def SN {α:Type} {o:α->α->Int} {a b:List α}:(dl o a=true/\dl o b=true)↔∀ (i:Nat) (h:i+1<(a++b).length),i+1≠a.length->o ((a++b)[i]'(by omega)) (a++b)[i+1]<0:=by
 rw [Cl,Cl];constructor
 ·rintro⟨d,e⟩ i h f;by_cases c:i+1<a.length
  ·rw [C9 (by omega),C9 c];exact d i c
  ·rw [Ag] at h;rw [C2 (by omega),C2<|by omega];have:=e (i-a.length) (by omega)
   simp only [show i+1-a.length=i-a.length+1 by omega];exact this
 ·intro h;refine⟨λi c=>?_,λi c=>?_⟩
  ·have:=h i (by rw [Ag];omega) (by omega)
   rw [C9 (by omega),C9 c] at this;exact this
  ·have:=h (i+a.length) (by rw [Ag];omega) (by omega)
   rw [C2 (by omega),C2<|by omega] at this;simp only [show i+a.length+1-a.length=i+1 by omega,Nat.add_sub_cancel] at this;exact this
def Uz {α:Type} {f:α->Bool} {l:List α} {i:Nat} (hi:i<l.length):(l.drop i).any f=(f l[i]||(l.drop (i+1)).any f):=by rw [An hi,List.any_cons]
def mJ (r:X2) (M:r.I0.length<=4398046511104) (N:r.K0.length<=4398046511104):Fn 27 [df r] (λF=>F=.i (bq r)):=by
 have P:(r.I0.map ak).length=r.I0.length:=Aa _;have Q:(r.K0.map ak).length=r.K0.length:=Aa _;refine J2 func27 ?_;intro O R S T;by_cases n:200<r.I0.length+r.K0.length
 ·have p:bq r=2:=if_pos n;rw [p];repeat' (first|refine zr ?_|(refine zm ?_ ?_<;>intro d)|omega)
  all_goals exact bh rfl rfl
 ·have p:bq r=if bp cp (r.I0++r.K0)≠0 then bp cp (r.I0++r.K0)
    else if dl (λa b:X0=>b9 a.id b.id) r.I0=false∨dl (λa b:X0=>b9 a.id b.id) r.K0=false∨(r.K0.any λu=>R1 r.I0 u.id)=true then 4
    else if (r.I0.any λu=>!I2 r.I0 u)=true then 5
    else if uu r.I0=true∨(r.K0.any λu=>I2 r.I0 u)=true then 4
    else 0:=if_neg n
  rw [p];clear p;repeat' (first|(apply Jy;(iterate 10 exact rfl))|(first|refine zs ?_|(refine zm ?_ ?_<;>intro d)|fail))
  all_goals try omega
  refine ag (ck 3 rfl rfl rfl) ?_;refine ag (bk (k':=1) (L':=[(1,.loc 0 0),(2,.i 0),(3,.s 5<|(r.I0++r.K0).map ak),(4,.i 0)]) (H':=[(0,jA r)]) id ⟨rfl,rfl,by rw [Au];rfl,rfl,trivial⟩ ⟨rfl,trivial⟩ rfl rfl rfl rfl rfl rfl) ?_;obtain⟨all,g⟩:∃ all,all=r.I0++r.K0:=⟨_,rfl⟩;have U:all.length=r.I0.length+r.K0.length:=by rw [g,Ag]
  have V:(all.map ak).length=all.length:=Aa _;have q:=SN (o:=λa b:X0=>b9 a.id b.id) (a:=r.I0) (b:=r.K0);rw [<- g];simp only [<- g] at q;repeat' fail
  refine ae (ι:=Nat) (λi=>⟨1,[(1,.loc 0 0),(2,.i 0),(3,.s 5<|all.map ak),(4,.i i)],[(0,jA r)]⟩)
   (λi=>i<=all.length/\bp cp all=bp cp (all.drop i)) (λi=>all.length-i) 0 ⟨Ai _,rfl⟩ (er id) ?_
  rintro i ⟨g1,g2⟩;dsimp only at g1 g2 ⊢;by_cases c:i<all.length
  ·rw [gg c] at g2;have e:=Wy all[i];by_cases v:cp all[i]≠0
   ·rw [if_pos v] at g2;rw [g2,if_pos v];repeat' (first|refine zr ?_|refine z21 ?_ e|(refine zm ?_ ?_<;>intro d)|omega)
    all_goals exact bh rfl rfl
   ·rw [if_neg v] at g2;repeat' (first|refine zr ?_|refine z21 ?_ e|(refine zm ?_ ?_<;>intro d)|omega)
    exact⟨i+1,⟨c,g2⟩,er id,by omega⟩
  ·rw [iu<|by omega] at g2;rw [g2,if_neg<|by simp];have G:=oq g2;have w:∀ u∈all,u.P0.length+u.V0.length<=1000000:=λu m=>by have:=ii<|G u m;omega
   clear g1 g2;repeat' (first|refine zs ?_|(refine zm ?_ ?_<;>intro d)|omega)
   clear c;refine ae (ι:=Nat) (λi=>⟨1,[(1,.loc 0 0),(2,.i 0),(3,.s 5<|all.map ak),(6,.i<|(i:Int)+1)],[(0,jA r)]⟩)
    (λi=>i<=all.length/\∀ (j:Nat) (h:j+1<all.length),j<i->j+1≠r.I0.length->b9 (all[j]'(by omega)).id all[j+1].id<0) (λi=>all.length-i) 0 ⟨Ai _,λj _ h=>absurd h<|A2 j⟩ (er id) ?_
   rintro i ⟨g1,g2⟩;dsimp only at g1 g2 ⊢;by_cases c:i+1<all.length
   ·have step:(i+1≠r.I0.length->b9 (all[i]'(by omega)).id all[i+1].id<0)->(i+1<=all.length/\∀ (j:Nat) (h:j+1<all.length),j<i+1->j+1≠r.I0.length->b9 (all[j]'(by omega)).id all[j+1].id<0):=λh=>⟨by omega,λj y W t=>by
     by_cases H:j=i
     ·subst H;exact h t
     ·exact g2 j y (by omega) t⟩
    by_cases z:i+1=r.I0.length
    ·repeat' (first|refine zs ?_|(refine zm ?_ ?_<;>intro d)|omega)
     exact⟨i+1,step λh=>absurd z h,er id,by omega⟩
    ·have e:=Ww (all[i]'(by omega)).id all[i+1].id;by_cases A:b9 (all[i]'(by omega)).id all[i+1].id<0
     ·repeat' (first|refine zs ?_|refine z22 ?_ e|(refine zm ?_ ?_<;>intro d)|omega)
      exact⟨i+1,step λ_=>A,er id,by omega⟩
     ·have f:¬ (dl (λa b:X0=>b9 a.id b.id) r.I0=true/\dl (λa b:X0=>b9 a.id b.id) r.K0=true):=λh=>A (q.1 h i c z)
      rw [if_pos (by
       cases n:dl (λa b:X0=>b9 a.id b.id) r.I0 with
       | false=>exact .inl rfl
       | true =>
        cases I:dl (λa b:X0=>b9 a.id b.id) r.K0 with
        | false=>exact .inr<|.inl rfl
        | true=>exact absurd ⟨n,I⟩ f)]
      repeat' (first|refine zr ?_|refine z22 ?_ e|(refine zm ?_ ?_<;>intro d)|omega)
      exact bh rfl rfl
   ·obtain⟨B,J⟩:=q.2 λj y t=>g2 j y (by omega) t
    have C:=vf B;clear g2 q;rw [B,J];repeat' (first|refine zs ?_|(refine zm ?_ ?_<;>intro d)|omega)
    clear c g1;refine ae (ι:=Nat) (λi=>⟨1,[(1,.loc 0 0),(2,.i 0),(7,.i i)],[(0,jA r)]⟩)
     (λi=>i<=r.K0.length/\(r.K0.any λu=>R1 r.I0 u.id)=(r.K0.drop i).any λu=>R1 r.I0 u.id) (λi=>r.K0.length-i) 0 ⟨Ai _,rfl⟩ (er id) ?_
    rintro i ⟨g1,g2⟩;dsimp only at g1 g2 ⊢;by_cases c:i<r.K0.length
    ·rw [Uz c] at g2;have e:=Nf r.I0 (r.K0[i]'c).id (by omega);have k:=XG r.I0 (r.K0[i]'c).id;cases f:R1 r.I0 (r.K0[i]'c).id with
     | true =>
      rw [f] at g2 k;have k:=of_decide_eq_false k;rw [if_pos<|.inr<|.inr<|by rw [g2];rfl];repeat' (first|refine zr ?_|refine z22 ?_ e|(refine zm ?_ ?_<;>intro d)|omega)
      exact bh rfl rfl
     | false =>
      rw [f,Ci] at g2;rw [f] at k;have k:=of_decide_eq_true k;repeat' (first|refine zs ?_|refine z22 ?_ e|(refine zm ?_ ?_<;>intro d)|omega)
      exact⟨i+1,⟨c,g2⟩,er id,by omega⟩
    ·rw [Ar<|by omega] at g2;rw [g2,if_neg<|by simp];repeat' (first|refine zs ?_|(refine zm ?_ ?_<;>intro d)|omega)
     clear c g1 g2;refine ae (ι:=Nat) (λi=>⟨1,[(1,.loc 0 0),(2,.i 0),(8,.i i)],[(0,jA r)]⟩)
      (λi=>i<=r.I0.length/\(r.I0.any λu=>!I2 r.I0 u)=(r.I0.drop i).any λu=>!I2 r.I0 u) (λi=>r.I0.length-i) 0 ⟨Ai _,rfl⟩ (er id) ?_
     rintro i ⟨g1,g2⟩;dsimp only at g1 g2 ⊢;by_cases c:i<r.I0.length
     ·rw [Uz c] at g2;have e:=Uo r.I0 (r.I0[i]'c) (by omega) (w _<|by rw [g];exact Ax _<|Ah c);cases f:I2 r.I0 (r.I0[i]'c) with
      | false =>
       rw [f] at g2 e;rw [if_pos<|by rw [g2];rfl];repeat' (first|refine zr ?_|refine z22 ?_ e|(refine zm ?_ ?_<;>intro d)|omega)
       exact bh rfl rfl
      | true =>
       rw [f,Bool.not_true,Ci] at g2;rw [f] at e;repeat' (first|refine zs ?_|refine z22 ?_ e|(refine zm ?_ ?_<;>intro d)|omega)
       exact⟨i+1,⟨c,g2⟩,er id,by omega⟩
     ·rw [Ar<|by omega] at g2;rw [g2,if_neg<|by simp];have K:∀ u∈r.I0,I2 r.I0 u=true:=λu m=>by
       have:=List.any_eq_false.1 g2 u m
       simpa using this
      clear g1 g2;have l:=SJ r.I0 (by omega) C (λu m=>w u<|by rw [g];exact Ax _ m);have L:=Ju C K;have l:Fn 75 [.s 5<|r.I0.map ak] (λx=>x=.b (uu r.I0)):=I3.imp l (by
       rintro x ⟨b,rfl,f⟩;rw [Bool.eq_iff_iff.2<|f.trans L.symm])
      cases E:uu r.I0 with
      | true =>
       rw [E] at l;rw [if_pos<|.inl rfl];repeat' (first|refine zr ?_|refine z21 ?_ l|(refine zm ?_ ?_<;>intro d)|omega)
       exact bh rfl rfl
      | false =>
       rw [E] at l;repeat' (first|refine zs ?_|refine z21 ?_ l|(refine zm ?_ ?_<;>intro d)|omega)
       refine ae (ι:=Nat) (λi=>⟨1,[(1,.loc 0 0),(2,.i 0),(9,.i i)],[(0,jA r)]⟩)
        (λi=>i<=r.K0.length/\(r.K0.any λu=>I2 r.I0 u)=(r.K0.drop i).any λu=>I2 r.I0 u) (λi=>r.K0.length-i) 0 ⟨Ai _,rfl⟩ (er id) ?_
       rintro i ⟨g1,g2⟩;dsimp only at g1 g2 ⊢;by_cases c:i<r.K0.length
       ·rw [Uz c] at g2;have e:=Uo r.I0 (r.K0[i]'c) (by omega) (w _<|by rw [g];exact List.mem_append_right _<|Ah c);cases f:I2 r.I0 (r.K0[i]'c) with
        | true =>
         rw [f] at g2 e;rw [if_pos<|.inr<|by rw [g2];rfl];repeat' (first|refine zr ?_|refine z22 ?_ e|(refine zm ?_ ?_<;>intro d)|omega)
         exact bh rfl rfl
        | false =>
         rw [f,Ci] at g2;rw [f] at e;repeat' (first|refine zs ?_|refine z22 ?_ e|(refine zm ?_ ?_<;>intro d)|omega)
         exact⟨i+1,⟨c,g2⟩,er id,by omega⟩
       ·rw [Ar<|by omega] at g2;rw [g2,if_neg<|by simp];repeat' (first|refine zr ?_|(refine zm ?_ ?_<;>intro d)|omega)
        exact bh rfl rfl
def AH {α:Type} (a b:List α) (x:α):(a++x::b).eraseIdx a.length=a++b:=by rw [List.eraseIdx_append_of_length_le (Af _),Nat.sub_self,List.eraseIdx_cons_zero]
def J6.iS {A:List X0} {h a b:List X0} {x:X0} (d:J6 A ⟨h,a++x::b⟩) (e:I2 h x=true):J6 A ⟨vt h x,a++b⟩:=by
 have c:=d.move (u:=x) (by simp) e;have f:a.length<(a++x::b).length:=by rw [Ag,Ba];omega
 have g:(a++x::b)[a.length]=x:=by rw [C2<|Af _];simp
 have:=yn d.sw f
 dsimp only at c this;rw [g] at this;rw [<- this,AH] at c;exact c
def R2.nodup {A:List X0} {r:X2} (h:R2 A r):r.both.Nodup:=
 List.nodup_append.2 ⟨h.sh.nodup,h.sw.nodup,λu a v b c=>h.apart u a v b<|by rw [c]⟩
structure P5 (A:List X0) (r:X2):Prop where
 ok:R2 A r
 nodup:A.Nodup
def P5.len {A:List X0} {r:X2} (h:P5 A r):A.length=r.both.length:=
 ((List.perm_ext_iff_of_nodup h.nodup h.ok.nodup).2 λu=>(h.ok.all u).trans List.mem_append.symm).length_eq
def P5.I0 {A:List X0} {r:X2} (h:P5 A r) (i:Z1):R1 A i=R1 r.both i:=Zw (λu=>(h.ok.all u).trans List.mem_append.symm) i
def P5.self {r:X2} (h:R2 r.both r):P5 r.both r:=⟨h,h.nodup⟩
def P5.step {A:List X0} {r o:X2} (h:P5 A r) {u:X0} (a:R1 r.both u.id=false) (b:R2 (u::r.both) o):P5 (u::A) o:=by
 refine⟨b.congr λv=>?_,List.nodup_cons.2 ⟨λc=>?_,h.nodup⟩⟩
 ·rw [Bl,Bl,h.ok.all,List.mem_append]
 ·rw [<- h.I0,<- C5,Y2] at a;exact a ⟨u,c,rfl⟩
def Y5 (r:X2) (l:List X0) (o:Option X2):Prop:=
 match ub r.both l,o with
 | none,none=>True
 | some A,some o=>P5 A o
 | _,_=>False
def Y5.unique {r:X2} {l:List X0} {o p:Option X2} (h:Y5 r l o) (g:Y5 r l p):o=p:=by
 unfold Y5 at h g;revert h g;cases ub r.both l with
 | none=>cases o with
  | none=>cases p with
   | none=>exact λ_ _=>rfl
   | some p=>exact λ_ g=>g.elim
  | some o=>exact λh=>h.elim
 | some A=>cases o with
  | none=>exact λh=>h.elim
  | some o=>cases p with
   | none=>exact λ_ g=>g.elim
   | some p=>exact λh g=>by rw [h.ok.unique g.ok]
def Px {α:Type} {f:α->Int}:∀ {l:List α},(∀ x∈l,f x=0)->bp f l=0
 | [],_=>rfl
 | x::l,h=>by
  unfold bp
  rw [if_neg (by rw [h x (List.mem_cons_self ..)];simp)]
  exact Px λy a=>h y (List.mem_cons_of_mem _ a)
def gI {r:X2} (h:R2 r.both r) (m:r.I0.length+r.K0.length<=200) (hc:∀ u∈r.both,cp u=0):bq r=0:=by
 have c:bp cp (r.I0++r.K0)=0:=Px hc;have b:∀ u∈r.I0,I2 r.I0 u=true:=λu a=>h.ready a
 have d:uu r.I0=false:=by
  rw [<- C5,Ju h.sh b];rintro⟨u,a,e⟩;exact e<|h.der<|h.dH u a
 unfold bq;rw [if_neg (by omega),if_neg (by simp [c]),Nk h.sh,Nk h.sw,d];have f:(r.K0.any λu=>R1 r.I0 u.id)=false:=List.any_eq_false.2 λu a g=>by
  obtain⟨v,i,j⟩:=Y2.1 g;exact h.apart v i u a j
 have k:(r.I0.any λu=>!I2 r.I0 u)=false:=List.any_eq_false.2 λu a=>by rw [b u a];simp
 have l:(r.K0.any λu=>I2 r.I0 u)=false:=List.any_eq_false.2 λu a=>by rw [h.bO a];simp
 rw [f,k,l];simp
def xC {r:X2} {u:X0} {o:X2} {e:Int} (h:FU r u o e) (b:FE r u=0) (c:R1 r.both u.id=false) (g:r.both.length<200) {s:X2} (d:R2 (u::r.both) s):o=s/\e=0:=by
 rcases h with ⟨a,_⟩|⟨_,a,_⟩|⟨_,_,a,_⟩|⟨_,_,_,a,f⟩
 ·exact absurd b a
 ·rw [c] at a;cases a
 ·omega
 ·exact⟨a.unique d,f⟩
def tV:R2 [] ⟨[],[]⟩:=⟨.nil,.nil,λu=>by simp,λu a=>by simp at a,λu a=>by simp at a,λu a=>by simp at a⟩
def aD:I2 [] I1=false:=by kernel_rfl
def jD:R2 [I1] ⟨[],[I1]⟩:=by have g:J6 [I1] ⟨[],[I1]⟩:=tV.more (u:=I1) rfl rfl;exact g.done λu a=>by rw [List.mem_singleton.1 a];exact aD
def Yq:R2 [P2,I1] ⟨[P2,I1],[]⟩:=by have c:J6 [P2,I1] ⟨[],[P2,I1]⟩:=jD.more (u:=P2) (by kernel_rfl) (by kernel_rfl);have d:J6 [P2,I1] ⟨[P2],[I1]⟩:=c.iS (a:=[]) (b:=[I1]) (by kernel_rfl);have e:J6 [P2,I1] ⟨[P2,I1],[]⟩:=d.iS (a:=[]) (b:=[]) (by kernel_rfl);exact e.done λu f=>by simp at f
def WW:FE ⟨[],[]⟩ I1=0:=by kernel_rfl
def VW:FE ⟨[],[I1]⟩ P2=0:=by kernel_rfl
def wv:bq ⟨[P2,I1],[]⟩=0:=by kernel_rfl
def BQ:(Ts [P2,I1]).map X0.id=[⟨1,1⟩]:=by kernel_rfl
def gP:bg ((Ga [P2,I1]).flatMap X0.F1)=[⟨0,[4,5]⟩]:=by kernel_rfl
def oo (I0:List X0) (a:List Z1):List X0:=I0.filter λu=>!Y4 (Jb I0 a) u.id
def CB (I0:List X0) (a:List Z1) (l:List X0):List X0:=l.filter λu=>!Y4 (Jb I0 a) u.id
def CJ (I0 l:List X0) (a:List Z1) (x:X0):CB I0 a (l++[x])=CB I0 a l++(match Y4 (Jb I0 a) x.id with|true=>[]|false=>[x]):=by unfold CB;rw [Cf,B7];cases Y4 (Jb I0 a) x.id<;>rfl
def iO (I0:List X0) (a:List Z1) (l:List X0):(CB I0 a l).length<=l.length:=Cd _ _
def DI {A:List X0} {l:List X0} {i:Nat} (hi:i<l.length):ub A (l.drop i)=if R1 A l[i].id then ub A (l.drop (i+1)) else if 200<=A.length then none else ub (l[i]::A) (l.drop (i+1)):=by rw [An hi,ub]
def Kn (m:List (MK×Int)):Prop:=∀ i:Z1,(K2 m<|kf i).getD 0=0∨(K2 m<|kf i).getD 0=1
def Kn.set {m:List (MK×Int)} (h:Kn m) (i:Z1):Kn (bw m (kf i) 1):=λj=>by
 rw [s6]
 split
 ·exact .inr rfl
 ·exact h j
def Kn.walk {I0:List X0}:∀ (n:Nat) {m:List (MK×Int)} (i:Z1),Kn m->Kn (fe I0 n m i)
 | 0,_,_,h=>h
 | n+1,m,i,h=>by
  unfold fe;split
  ·exact h
  ·have a:∀ (l:List Z1) (m:List (MK×Int)),Kn m->Kn (l.foldl (fe I0 n) m):=by
    intro l;induction l with
    | nil=>exact λ_ h=>h
    | cons j l ih=>exact λm h=>ih _<|Kn.walk n j h
   exact a _ _<|h.set i
def jU (I0:List X0) (l:List Z1):Kn (Jb I0 l):=by
 have a:∀ (l:List Z1) (m:List (MK×Int)),Kn m->Kn (l.foldl (fe I0<|I0.length+1) m):=by
  intro l;induction l with
  | nil=>exact λ_ h=>h
  | cons j l ih=>exact λm h=>ih _<|Kn.walk _ j h
 exact a l [] λ_=>.inl rfl
def fQ (I0:List X0) (l:List Z1) (i:Z1):decide ((K2 (Jb I0 l) (kf i)).getD 0=0) = !Y4 (Jb I0 l) i:=by unfold Y4;rcases jU I0 l i with h|h<;>rw [h]<;>rfl
def No (r:X2) (a:List Z1) (w:r.I0.length<=100000) (m:a.length<=1000000) (n:W3 r.I0) (g:∀ u∈r.I0,I5 u):Fn 59 [df r,.s 2 (a.map ay)] (λo=>o=.d (.own Y0.B (.slice 5 ((oo r.I0 a).map ak)))):=by
 refine J2 func59 ?_;intro O x y z;have p:(r.I0.map ak).length=r.I0.length:=Aa _;have k:=rC r.I0 a (by omega) m n (λu e=>by have:=g u e;have:=this.P0;have:=(g u e).V0;omega);repeat' (first|refine zs ?_|refine z21 ?_ k|fail)
 refine ag (ce (t:=6) 35 5 rfl) ?_;repeat' fail
 clear k;refine ae (ι:=Nat) (λi=>⟨1,[(5,.md false<|Jb r.I0 a),(6,.row 0),(14,.s 5<|r.I0.map ak),(15,.i r.I0.length),(16,.i i)],[(0,.row 35 5<|(CB r.I0 a<|r.I0.take i).map au)]⟩)
  (λi=>i<=r.I0.length) (λi=>r.I0.length-i) 0 (Ai _) (er (λj=>match j with|0=>1|j=>j) ⟨rfl,rfl,rfl,by rw [<- p];rfl,rfl,trivial⟩) ?_
 intro i q;dsimp only at q ⊢;have lo:((CB r.I0 a<|r.I0.take i).map au).length<=i:=by
  rw [Aa];have:=iO r.I0 a<|r.I0.take i
  rw [List.length_take] at this;omega
 by_cases f:i<r.I0.length
 ·have b:=CJ r.I0 (r.I0.take i) a r.I0[i];rw [<- Am f] at b;have c:=fQ r.I0 a r.I0[i].id;have e:=g _<|Ah f;have v:=Ug r.I0[i] (Aw e.P0<|by decide) (Aw e.V0<|by decide) e.F1 e.args;repeat' (first|refine zs ?_|(refine zm ?_ ?_<;>intro h)|omega)
  refine wg (kd:=false) (kvs:=Jb r.I0 a) (key:=kf r.I0[i].id) ul ⟨rfl,rfl⟩ rfl rfl rfl rfl rfl ?_;cases l:Y4 (Jb r.I0 a) r.I0[i].id with
  | true =>
   rw [l] at c b;have c:=of_decide_eq_false c;dsimp only at b;rw [Bn] at b;repeat' (first|refine zs ?_|(refine zm ?_ ?_<;>intro h)|fail)
   all_goals try (exfalso;first|omega|exact c<|by assumption)
   exact⟨i+1,f,er id (hH:=⟨by rw [b];rfl,trivial⟩),by omega⟩
  | false =>
   rw [l] at c b;have c:=of_decide_eq_true c;dsimp only at b;repeat' (first|refine zs ?_|refine z21 ?_ v|(refine zm ?_ ?_<;>intro h)|fail)
   all_goals try (exfalso;first|omega|exact absurd c<|by assumption)
   refine v8 rfl ⟨by rw [A0];omega,by unfold maxLen;rw [A0];omega⟩ rfl rfl rfl rfl ?_;refine zS ?_;exact⟨i+1,f,er (λj=>match j with|0=>2|j=>j) (hH:=⟨by rw [b,Au];rfl,trivial⟩),by omega⟩
 ·rw [Aj (by omega:r.I0.length<=i)];repeat' (first|refine zs ?_|(refine zm ?_ ?_<;>intro h)|omega)
  refine ag (ka 4 (bm dx _) rfl rfl rfl) ?_;repeat' (apply cr)
  exact⟨.inl rfl,_,rfl,rfl,rfl⟩
def Wv (r:X2) (a:List Z1) (b:r.I0.length<=100000) (c:a.length<=1000000) (d:W3 r.I0) (e:∀ u∈r.I0,I5 u):Fn 59 [df r,.s 2 (a.map ay)] (λf=>f=.s 5 ((oo r.I0 a).map ak)):=(No r a b c d e).Z5
def Pe (o:Option X2):SV:=match o with
 | some o=>.M2 [qo o,.b true]
 | none=>.M2 [qo ⟨[],[]⟩,.b false]
def aF (r:X2) (l:List X0) (u:R2 r.both r) (h1:r.I0.length+r.K0.length<=200) (d:∀ v,v∈r.I0∨v∈r.K0∨v∈l->I5 v) :
  Fn 58 [df r,.s 5 (l.map ak)] (λe=>∃ o,Y5 r l o/\e=Pe o):=by
 refine J2 func58 ?_;intro O E F G;have w:(l.map ak).length=l.length:=Aa _;have n:∀ x:X2,x.both.length=x.I0.length+x.K0.length:=λx=>Ag
 refine cm (t:=1) rfl λH=>?_
 have p:=uE r (by omega) (by omega) (λv a=>d v<|.inl a)<|λv a=>d v<|.inr<|.inl a;refine zS ?_;refine tj id p rfl rfl rfl rfl trivial rfl rfl rfl rfl rfl rfl ?_ ?_
 ·rintro k2 e H2 ⟨rfl,rfl,rfl⟩;exact⟨rfl,rfl⟩
 rintro k2 e H2 ⟨rfl,rfl,rfl⟩;change DS _ _ _ _ _ _ _ _;refine zS ?_;refine ae (ι:=Nat×List X0×X2) (λx=>⟨4,[(4,.loc 3 0),(6,.loc 0 0),(11,.s 5<|l.map ak),(12,.i l.length),(13,.i x.1)],[(0,.M1 29 [.row 1,.row 2]),(1,.row 35 5<|x.2.2.I0.map au),(2,.row 35 5<|x.2.2.K0.map au),(3,.M1 29 [.Q1,.Q1])]⟩)
  (λx=>x.1<=l.length/\P5 x.2.1 x.2.2/\ub x.2.1 (l.drop x.1)=ub r.both l/\x.2.1.length<=200/\∀ v∈x.2.1,I5 v) (λx=>l.length-x.1) (0,r.both,r)
  ⟨Ai _,P5.self u,rfl,by rw [n];exact h1,λv a=>d v<|(List.mem_append.1 a).elim .inl λh=>.inr<|.inl h⟩ (er (λj=>match j with|0=>4|1=>2|2=>3|3=>1|j=>j) ⟨rfl,rfl,rfl,by rw [<- w];rfl,rfl,trivial⟩) ?_
 clear p;rintro⟨i,A,x⟩ ⟨y,c,b,q,f⟩;dsimp only at y c b q f ⊢;have I:=c.len;have J:=n x;by_cases g:i<l.length
 ·rw [DI g] at b;have k:=c.I0 l[i].id;have m:=vw x.I0 x.K0 l[i].id;have z:=GL x l[i] c.ok.self (by omega) (by omega) (d _<|.inr<|.inr<|Ah g) (λv a=>f v<|(c.ok.all v).2<|.inl a)<|λv a=>f v<|(c.ok.all v).2<|.inr a;repeat' (first|refine zs ?_|(refine zm ?_ ?_<;>intro B)|omega)
  refine tj id z rfl rfl rfl rfl ⟨rfl,rfl,rfl,trivial⟩ rfl rfl rfl rfl rfl rfl ?_ ?_
  ·rintro k2 e H2 ⟨rfl,⟨_,rfl,rfl⟩|⟨_,_,_,rfl,rfl⟩|⟨_,_,_,o,_,rfl,rfl⟩⟩<;>exact⟨rfl,rfl⟩
  rintro k2 e H2 ⟨rfl,⟨f1,rfl,rfl⟩|⟨f1,f2,f3,rfl,rfl⟩|⟨f1,f2,f3,o,f4,rfl,rfl⟩⟩;all_goals change DS _ _ _ _ _ _ _ _
  ·rw [k,m,if_pos<|by simpa using f1] at b;refine zS ?_;exact⟨(i+1,A,x),⟨g,c,b,q,f⟩,er (λj=>match j with|1=>6|2=>7|j=>j),by show l.length-(i+1)<l.length-i;omega⟩
  ·rw [k,m,f1,f2,if_neg (by simp),if_pos<|by omega] at b;refine zS ?_;refine ag (av 3 0 5 rfl rfl rfl) ?_;refine ag (av 3 1 5 rfl rfl rfl) ?_;refine zR ?_;exact⟨.inl rfl,_,rfl,rfl,none,by unfold Y5;rw [<- b];trivial,rfl⟩
  ·have f5:R1 x.both l[i].id=false:=by rw [m,f1,f2];rfl
   rw [k,f5,if_neg (by simp),if_neg<|by omega] at b;have C:=c.step f5 f4;refine zS ?_;exact⟨(i+1,l[i]::A,o),⟨g,C,b,by rw [Ba];omega,λv a=>by
    rcases List.mem_cons.1 a with rfl|a
    ·exact d _<|.inr<|.inr<|Ah g
    ·exact f v a⟩,er (λj=>match j with|1=>6|2=>7|j=>j),by show l.length-(i+1)<l.length-i;omega⟩
 ·rw [Ar<|by omega] at b;repeat' (first|refine zs ?_|(refine zm ?_ ?_<;>intro B)|omega)
  refine ag (fv 3 0 1 (bm dx _) rfl rfl rfl rfl rfl) ?_;refine ag (fv 3 1 2 (bm dx _) rfl rfl rfl rfl rfl) ?_;repeat' (apply cr)
  exact⟨.inl rfl,_,rfl,rfl,some x,by unfold Y5;rw [<- b];exact c,rfl⟩
def sk (r:X2):List Z1:=(Ts r.I0).map X0.id
def ZE (r:X2):(sk r).length<=r.I0.length:=by unfold sk Ts u5;rw [Aa];exact Cd _ _
def Vs:∀ (l A:List X0) (r:X2),P5 A r->∃ o:Option X2,match ub A l,o with
  | none,none=>True
  | some A,some o=>P5 A o
  | _,_=>False
 | [],A,r,h=>⟨some r,by unfold ub;exact h⟩
 | u::l,A,r,h=>by
  unfold ub;by_cases a:R1 A u.id=true
  ·rw [if_pos a];exact Vs l A r h
  ·rw [if_neg a];by_cases b:200<=A.length
   ·rw [if_pos b];exact⟨none,trivial⟩
   ·rw [if_neg b];have c:R1 r.both u.id=false:=by rw [<- h.I0];simpa using a
    obtain⟨_,s,d⟩:=h.ok.self.add c;exact Vs l (u::A) s<|h.step c d
def iL {r:X2} (h:R2 r.both r) (l:List X0):∃ o,Y5 r l o:=Vs l r.both r<|P5.self h
def Ye (a b:X2):Int:=bp bq [a,b]
def BL {a b:X2} (h:Ye a b=0):bq a=0/\bq b=0:=⟨oq h a (by simp),oq h b<|by simp⟩
abbrev BT (r:X2):List D:=[.slice 5 (r.I0.map ak),.slice 5 (r.K0.map ak)]
def qR (o p:Option X2):SV:=match o,p with
 | some x,some y=>.M2 [df x,df y,.i 0]
 | _,_=>.M2 [df ⟨[],[]⟩,df ⟨[],[]⟩,.i 2]
def uV (o p:Option X2):SV:=match o,p with
 | some x,some y=>.M2 [qo x,qo y,.i 0]
 | _,_=>.M2 [qo ⟨[],[]⟩,qo ⟨[],[]⟩,.i 2]
def Ji (r:X2) (a:List Z1) (h1:r.I0.length<=4398046511104) (g:r.K0.length<=4398046511104) :
  Fn 16 [df r,.s 2 (a.map ay)] (λj=>j=.M2 [.d (.own Y0.B (.slice 5 ((if bq r=0/\a.length<=200 then oo r.I0 a else []).map ak))),.i (if bq r=0 then (if a.length<=200 then 0 else 2) else bq r)]):=by
 refine J2 func16 ?_;intro O o p q;have v:(a.map ay).length=a.length:=Aa _;have c:=qr r h1 g;refine cm (t:=1) rfl λw=>?_
 by_cases b:bq r=0
 ·obtain⟨x,k,l⟩:=m7 b;rw [if_pos b];rw [b] at c;by_cases e:a.length<=200
  ·rw [if_pos ⟨b,e⟩,if_pos e];have m:=No r a (by omega) (by omega) l.sh<|λu n=>im<|k u<|Ax _ n;repeat' (first|refine zr ?_|refine z21 ?_ c|refine z21 ?_ m|(refine zm ?_ ?_<;>intro f)|omega)
   exact⟨.inl rfl,_,rfl,rfl,rfl⟩
  ·rw [if_neg (λh=>e h.2),if_neg e];repeat' (first|refine zs ?_|refine z21 ?_ c|(refine zm ?_ ?_<;>intro f)|omega)
   refine ag (ea 4 5 rfl) ?_;refine zR ?_;exact⟨.inl rfl,_,rfl,rfl,rfl⟩
 ·rw [if_neg (λh=>b h.1),if_neg b];repeat' (first|refine zs ?_|refine z21 ?_ c|(refine zm ?_ ?_<;>intro f)|omega)
  refine ag (ea 4 5 rfl) ?_;refine zR ?_;exact⟨.inl rfl,_,rfl,rfl,rfl⟩
def We (a b:X2) (o p:Option X2) (h1:a.I0.length<=4398046511104) (P:a.K0.length<=4398046511104) (Q:b.I0.length<=4398046511104) (R:b.K0.length<=4398046511104)
  (E:Ye a b=0->Y5 a (oo b.I0 (sk a)) o) (F:Ye a b=0->Y5 b (oo a.I0 (sk b)) p) :
  Fn 15 [df a,df b] (λf=>f=if Ye a b=0 then uV o p else .M2 [qo ⟨[],[]⟩,qo ⟨[],[]⟩,.i (Ye a b)]):=by
 refine J2 func15 ?_;intro a1 w0 E0 K1;refine zS ?_;obtain⟨c,q⟩:∃ c,c=[a,b]:=⟨_,rfl⟩;have a2:c.length=2:=by rw [q];rfl
 have G:∀ r∈c,r.I0.length<=4398046511104/\r.K0.length<=4398046511104:=by
  rw [q];intro r S;rcases List.mem_cons.1 S with e|e
  ·rw [e];exact⟨h1,P⟩
  ·rw [List.mem_singleton.1 e];exact⟨Q,R⟩
 have T:Ye a b=bp bq c:=by rw [q];rfl
 refine ae (ι:=Nat) (λi=>⟨4,[(2,.loc 0 0),(3,.loc 1 0),(4,.loc 2 0),(5,.loc 3 0),(16,.s 2<|c.map BT),(17,.i c.length),(18,.i i)],[(0,jA a),(1,jA b),(2,.M1 29 [.Q1,.Q1]),(3,.M1 29 [.Q1,.Q1])]⟩)
  (λi=>i<=c.length/\Ye a b=bp bq (c.drop i)) (λi=>c.length-i) 0 ⟨Ai _,T⟩ (er id ⟨rfl,rfl,rfl,rfl,by rw [q];rfl,by rw [q];rfl,rfl,trivial⟩) ?_
 rintro i ⟨g1,g2⟩;dsimp only at g1 g2 ⊢;have lr:(c.map BT).length=c.length:=Aa _;by_cases B:i<c.length
 ·rw [gg B] at g2;obtain⟨U,V⟩:=G _<|Ah B;have w:=qr c[i] U V;by_cases t:bq c[i]≠0
  ·rw [if_pos t] at g2;rw [if_neg<|by rw [g2];exact t];rw [<- g2] at w t;repeat' (first|refine zs ?_|refine z21 ?_ w|(refine zm ?_ ?_<;>intro y)|omega)
   refine ag (av 2 0 5 rfl rfl rfl) ?_;refine ag (av 2 1 5 rfl rfl rfl) ?_;refine ag (av 3 0 5 rfl rfl rfl) ?_;refine ag (av 3 1 5 rfl rfl rfl) ?_;refine zR ?_;exact⟨.inl rfl,_,rfl,rfl,rfl⟩
  ·rw [if_neg t] at g2;have W:bq c[i]=0:=Decidable.not_not.1 t;rw [W] at w;repeat' (first|refine zs ?_|refine z21 ?_ w|(refine zm ?_ ?_<;>intro y)|omega)
   exact⟨i+1,⟨B,g2⟩,er id,by omega⟩
 ·rw [iu<|by omega] at g2;obtain⟨X,Y⟩:=BL g2;rw [if_pos g2];obtain⟨Z,H,I⟩:=m7 X;obtain⟨lb,J,K⟩:=m7 Y;have z:∀ u,u∈a.I0∨u∈a.K0->I5 u:=λu d=>im (H u<|List.mem_append.2 d)
  have A:∀ u,u∈b.I0∨u∈b.K0->I5 u:=λu d=>im<|J u<|List.mem_append.2 d
  have fa:=rc X0.P0 6 a.I0 λu d=>(ii<|H u<|Ax _ d).1
  have fb:=rc X0.P0 6 b.I0 λu d=>(ii<|J u<|Ax _ d).1
  have ta:=ZE a;have tb:=ZE b;have k:=gL a (by omega) (by omega);have l:=gL b (by omega) (by omega);change Fn _ _ (λf=>f=.s 2 ((sk a).map ay)) at k;change Fn _ _ (λf=>f=.s 2 ((sk b).map ay)) at l;have m:=Wv b (sk a) (by omega) (by omega) K.sh<|λu d=>A u<|.inl d;have n:=Wv a (sk b) (by omega) (by omega) I.sh<|λu d=>z u<|.inl d;have g:Fn 58 [df a,.s 5<|(oo b.I0<|sk a).map ak] (λf=>f=Pe o):=
   I3.imp (aF a (oo b.I0<|sk a) I Z λv C=>by
    rcases C with h|h|h
    ·exact z v<|.inl h
    ·exact z v<|.inr h
    ·exact A v<|.inl (List.mem_filter.1 h).1) (by
    rintro _ ⟨o',h,rfl⟩;rw [h.unique<|E g2])
  have j:Fn 58 [df b,.s 5<|(oo a.I0<|sk b).map ak] (λf=>f=Pe p):=
   I3.imp (aF b (oo a.I0<|sk b) K lb λv C=>by
    rcases C with h|h|h
    ·exact A v<|.inl h
    ·exact A v<|.inr h
    ·exact z v<|.inl (List.mem_filter.1 h).1) (by
    rintro _ ⟨o',h,rfl⟩;rw [h.unique<|F g2])
  clear E F G;obtain⟨ia,L⟩:∃ x,x=sk a:=⟨_,rfl⟩;obtain⟨ib,M⟩:∃ x,x=sk b:=⟨_,rfl⟩;obtain⟨ma,N⟩:∃ x,x=oo b.I0 (sk a):=⟨_,rfl⟩;obtain⟨mb,O⟩:∃ x,x=oo a.I0 (sk b):=⟨_,rfl⟩;rw [<- N] at m g;rw [<- O] at n j;rw [<- L] at k m;rw [<- M] at l n;clear N O L M;cases o with
  | none =>
   cases p with
   | none =>
    dsimp only [Pe] at g j;repeat' (first|refine zs ?_|refine z22 ?_ k|refine z22 ?_ l|refine z22 ?_ m|refine z22 ?_ n|refine z22 ?_ g|refine z22 ?_ j|(refine zm ?_ ?_<;>intro y)|omega)
    refine ag (av 2 0 5 rfl rfl rfl) ?_;refine ag (av 2 1 5 rfl rfl rfl) ?_;refine ag (av 3 0 5 rfl rfl rfl) ?_;refine ag (av 3 1 5 rfl rfl rfl) ?_;refine zR ?_;exact⟨.inl rfl,_,rfl,rfl,rfl⟩
   | some a0 =>
    dsimp only [Pe] at g j;repeat' (first|refine zs ?_|refine z22 ?_ k|refine z22 ?_ l|refine z22 ?_ m|refine z22 ?_ n|refine z22 ?_ g|refine z22 ?_ j|(refine zm ?_ ?_<;>intro y)|omega)
    refine ag (av 2 0 5 rfl rfl rfl) ?_;refine ag (av 2 1 5 rfl rfl rfl) ?_;refine ag (av 3 0 5 rfl rfl rfl) ?_;refine ag (av 3 1 5 rfl rfl rfl) ?_;refine zR ?_;exact⟨.inl rfl,_,rfl,rfl,rfl⟩
  | some x =>
   cases p with
   | none =>
    dsimp only [Pe] at g j;repeat' (first|refine zs ?_|refine z22 ?_ k|refine z22 ?_ l|refine z22 ?_ m|refine z22 ?_ n|refine z22 ?_ g|refine z22 ?_ j|(refine zm ?_ ?_<;>intro y)|omega)
    refine ag (av 2 0 5 rfl rfl rfl) ?_;refine ag (av 2 1 5 rfl rfl rfl) ?_;refine ag (av 3 0 5 rfl rfl rfl) ?_;refine ag (av 3 1 5 rfl rfl rfl) ?_;refine zR ?_;exact⟨.inl rfl,_,rfl,rfl,rfl⟩
   | some a0 =>
    dsimp only [Pe] at g j;repeat' (first|refine zs ?_|refine z22 ?_ k|refine z22 ?_ l|refine z22 ?_ m|refine z22 ?_ n|refine z22 ?_ g|refine z22 ?_ j|(refine zm ?_ ?_<;>intro y)|omega)
    repeat' (apply cr)
    exact⟨.inl rfl,_,rfl,rfl,rfl⟩
def iH (r:X2) (a:List Z1) (h1:r.I0.length<=4398046511104) (b:r.K0.length<=4398046511104) :
  Fn 16 [df r,.s 2 (a.map ay)] (λc=>c=.M2 [.s 5 ((if bq r=0/\a.length<=200 then oo r.I0 a else []).map ak),.i (if bq r=0 then (if a.length<=200 then 0 else 2) else bq r)]):=(Ji r a h1 b).Z5
def BN (a b:X2) (o p:Option X2) (h1:a.I0.length<=4398046511104) (d:a.K0.length<=4398046511104) (e:b.I0.length<=4398046511104) (f:b.K0.length<=4398046511104)
  (g:Ye a b=0->Y5 a (oo b.I0 (sk a)) o) (j:Ye a b=0->Y5 b (oo a.I0 (sk b)) p) :
  Fn 15 [df a,df b] (λk=>k=if Ye a b=0 then qR o p else .M2 [df ⟨[],[]⟩,df ⟨[],[]⟩,.i (Ye a b)]):=by
 have h:=We a b o p h1 d e f g j;by_cases c:Ye a b=0
 ·rw [if_pos c] at h ⊢;have h:=h.Z5;cases o<;>cases p<;>exact h
 ·rw [if_neg c] at h ⊢;exact h.Z5
def GF (a b:List Z1):Fn 34 [.s 2 (a.map ay),.s 2 (b.map ay)] (λr=>r=.b (e8 Z1.same a b)):=by
 refine J2 func34 ?_;intro O c d e;have w:=Ue a b;repeat' (first|refine zr ?_|refine z21 ?_ w|fail)
 exact bi rfl rfl
def VH:Fn 7 [] (λr=>r=.b true):=by
 refine J2 func7 ?_;intro O q s t;have a:Fn 14 [df ⟨[],[]⟩,fg I1] (λc=>c=.M2 [df ⟨[],[I1]⟩,.i 0]):=I3.imp (JM ⟨[],[]⟩ I1 (by decide)<|by decide) (by
  rintro _ ⟨o,e,h,rfl⟩;obtain⟨rfl,rfl⟩:=xC h WW rfl (by decide) jD;rfl)
 have a:=I3.agg2 a;have m:Fn 14 [df ⟨[],[I1]⟩,fg P2] (λc=>c=.M2 [df ⟨[P2,I1],[]⟩,.i 0]):=I3.imp (JM ⟨[],[I1]⟩ P2 (by decide)<|by decide) (by
  rintro _ ⟨o,e,h,rfl⟩;obtain⟨rfl,rfl⟩:=xC h VW (by kernel_rfl) (by decide) Yq;rfl)
 have d:=MP ⟨[P2,I1],[]⟩ (by decide) (by decide);have f:=NP ⟨[P2,I1],[]⟩ (by decide) (by decide);have g:=qr ⟨[P2,I1],[]⟩ (by decide) (by decide);rw [wv,if_pos rfl,BQ] at d;rw [wv,if_pos rfl,gP] at f;rw [wv] at g;have j:=l7 [P2,I1] [P2,I1];rw [eo X0.T3] at j;have k:=GF [⟨1,1⟩] [⟨1,1⟩];rw [eo Z1.T3] at k;have l:=mn [⟨0,[4,5]⟩] [⟨0,[4,5]⟩];rw [eo (p:=U0.same)<|λx=>(SO x x).2 rfl] at l;have n:=Pc 0 [4,5];repeat' (first|refine zr ?_|refine z22 ?_ Oi|refine z21 ?_ p9|refine z22 ?_ p9|refine z21 ?_ a|refine z22 ?_ m|refine z21 ?_ d|refine z21 ?_ f|refine z22 ?_ g|refine z22 ?_ j|refine z22 ?_ k|refine z22 ?_ l|refine z22 ?_ n|fail)
 exact bi rfl rfl

end
section
open Go Go.RowKit
variable [Y0]
abbrev R7:X2:=⟨[P2,I1],[]⟩
def dQ:oo R7.I0 [⟨0,1⟩]=[I1]:=by kernel_rfl
def QK:Ye R7 ⟨[],[]⟩=0:=by kernel_rfl
def cQ:Y5 R7 (oo [] (sk R7)) (some R7):=P5.self<|Yq.self
def cO:Y5 ⟨[],[]⟩ (oo R7.I0 (sk ⟨[],[]⟩)) (some R7):=by
 have h:ub (X2.both ⟨[],[]⟩) (oo R7.I0 (sk ⟨[],[]⟩))=some [I1,P2]:=by kernel_rfl
 unfold Y5;rw [h];refine⟨Yq.congr λu=>?_,?_⟩
 ·simp only [Bl,List.not_mem_nil,or_false];exact or_comm
 ·exact List.nodup_cons.2 ⟨λh=>absurd (congrArg (λu:X0=>u.id.J1)<|List.mem_singleton.1 h) (by decide),List.pairwise_singleton _ _⟩
def I3.JZ {a:Bool} {P:Program} {τ:List (Nat×TI)} {τok:c8 P τ} {f:FuncId} {p q:Nat} {s:SV} {R:SV->Prop} (hc:I3 a P τ τok f [s,.agg [.s p [],.s q []]] R):I3 a P τ τok f [s,.agg [.Q1,.Q1]] R:=
 hc.args λ_ _ _ b h=>match b,h with
  | _::_::_,⟨c,d,e⟩=>⟨c,Wz d,e⟩
  | [_],⟨_,h⟩=>h.elim
  | [],h=>h.elim
attribute [local irreducible] DW DS DL DQ Ev X1 I3 du bl DT
def ax:Fn 8 [] (λr=>r=.b true):=by
 refine J2 func8 ?_;intro O f g h;have c:=iH R7 [⟨0,1⟩] (by decide) (by decide);rw [if_pos ⟨wv,by decide⟩,if_pos wv,if_pos (by decide),dQ] at c;have a:=BN R7 ⟨[],[]⟩ (some R7) (some R7) (by decide) (by decide) (by decide) (by decide) (λ_=>cQ)<|λ_=>cO;rw [if_pos QK] at a;have a:=I3.JZ a;have d:=l7 [I1] [I1];rw [eo X0.T3] at d;have e:=W8 R7 R7;rw [eo X0.T3,eo X0.T3] at e;dsimp only [qR] at a;repeat' ((fail_if_success (apply fh 2));(first|refine zs ?_|refine z21 ?_ Oi|refine z21 ?_ p9|fail))
 refine ag (d9 0 1 5 rfl rfl rfl) ?_;repeat' (first|refine zr ?_|refine z21 ?_ p9|refine z21 ?_ c|refine z21 ?_ a|refine z21 ?_ d|refine z21 ?_ e|fail)
 exact bi rfl rfl
abbrev PZ (p:R3) (a:List U0):HB:=.M1 107 [.row 1,.row 2,.s 1 (p.F0.map aq),.s 1 (p.Z0.map qn),.s 5 (p.M0.map dq),.d (.own Y0.B (.slice 2 (a.map aa)))]
abbrev vwD (p:R3) (a:List U0) (r:X2):List D:=[.slice 5 (r.I0.map au),.slice 5 (r.K0.map au),.slice 1 (p.F0.map aq),.slice 1 (p.Z0.map qn),.slice 5 (p.M0.map dq),.own Y0.B (.slice 2 (a.map aa))]
abbrev dA (p:R3) (a:List U0) (r:X2):Hp:=[(0,PZ p a),(1,.row 35 5 (r.I0.map au)),(2,.row 35 5 (r.K0.map au))]
def ER (p:R3) (a:List U0) (r:X2) (u:X0) (c:r.I0.length<=1000000) (d:W3 r.I0) (h:u.P0.length+u.V0.length<=1000000):Fn 127 ([fg u]++[.pd [.ptr (vwD p a r)]]) (λe=>e=.b (I2 r.I0 u)):=by
 refine J2 func127 ?_;intro O f g i;have w:=(Tc r.I0 u c d h).Xa<|bm dx r.I0;repeat' (first|refine zr ?_|refine z22 ?_ w|fail)
 exact bi rfl rfl
def AV (p:R3) (a:List U0) (r:X2) (u:X0) (l:R2 r.both r) (h1:r.I0.length<=100000) (B:r.K0.length<=100000) (e:I5 u) (C:∀ u∈r.I0,I5 u) (E:∀ u∈r.K0,I5 u) :
  X1 false prog U5 bt 57 [.loc 0 0,fg u] 1 3 (dA p a r) (λk d H=>k=3/\(
   ((R1 r.I0 u.id=true∨R1 r.K0 u.id=true)/\d=.b true/\H=dA p a r) ∨
   (R1 r.I0 u.id=false/\R1 r.K0 u.id=false/\200<=r.I0.length+r.K0.length/\d=.b false/\H=dA p a r) ∨
   (R1 r.I0 u.id=false/\R1 r.K0 u.id=false/\r.I0.length+r.K0.length<200/\∃ o:X2,R2 (u::r.both) o/\d=.b true/\H=dA p a o))):=by
 have F:=l.sh;have q:=l.sw;refine T8 func57 ?_;intro O S T U;have s:X1 false prog U5 bt 90 [.row 0,o5 u.id] 1 1 [(0,.row 35 5<|r.I0.map au)] (λ_ d m=>d=.b (R1 r.I0 u.id)/\m=[(0,.row 35 5<|r.I0.map au)]):=
  I3.Rk ((uq r.I0 u.id (by omega) F).Xa<|bm dx r.I0) rfl rfl (by rintro _ rfl;rfl)
 refine zS ?_;refine rh (λj=>match j with|0=>1|j=>j) s (by rintro _ rfl;exact⟨rfl,rfl⟩) ⟨_,rfl⟩ rfl rfl rfl rfl ⟨rfl,trivial⟩ rfl rfl rfl rfl rfl rfl rfl rfl rfl ?_;rintro _ rfl;have t:X1 false prog U5 bt 90 [.row 0,o5 u.id] 1 1 [(0,.row 35 5<|r.K0.map au)] (λ_ d m=>d=.b (R1 r.K0 u.id)/\m=[(0,.row 35 5<|r.K0.map au)]):=
  I3.Rk ((uq r.K0 u.id (by omega) q).Xa<|bm dx r.K0) rfl rfl (by rintro _ rfl;rfl)
 have V:=vw r.I0 r.K0 u.id;cases G:R1 r.I0 u.id with
 | true =>
  refine zR ?_;exact⟨.inl rfl,_,rfl,kp id 3 (.b true) (dA p a r) ⟨rfl,.inl ⟨Or.inl rfl,rfl,rfl⟩⟩⟩
 | false =>
  repeat' refine z5 ?_
  refine rh (λj=>match j with|0=>2|j=>j) t (by rintro _ rfl;exact⟨rfl,rfl⟩) ⟨_,rfl⟩ rfl rfl rfl rfl ⟨rfl,trivial⟩ rfl rfl rfl rfl rfl rfl rfl rfl rfl ?_;rintro _ rfl;cases w:R1 r.K0 u.id with
  | true =>
   refine zR ?_;exact⟨.inl rfl,_,rfl,kp id 3 (.b true) (dA p a r) ⟨rfl,.inl ⟨Or.inr rfl,rfl,rfl⟩⟩⟩
  | false =>
   have W:(r.I0.map au).length=r.I0.length:=Aa _;have X:(r.K0.map au).length=r.K0.length:=Aa _;by_cases I:200<=r.I0.length+r.K0.length
   ·repeat' (first|refine zr ?_|(refine zm ?_ ?_<;>intro J)|omega)
    exact⟨.inl rfl,_,rfl,kp id 3 (.b false) (dA p a r) ⟨rfl,.inr<|.inl ⟨rfl,rfl,I,rfl,rfl⟩⟩⟩
   ·have y:=Ug u (Aw e.P0<|by decide) (Aw e.V0<|by decide) e.F1 e.args;repeat' (first|refine zs ?_|refine z22 ?_ y|(refine zm ?_ ?_<;>intro J)|omega)
    have g:=Ln.of<|Ur r.K0 u B q w;refine v7 2 g rfl rfl rfl rfl rfl rfl rfl ⟨_,rfl⟩ rfl rfl ?_;rintro _ rfl;refine zS ?_;refine ae (ι:=X2) (λx=>⟨4,[(2,.loc 3 0)],[(0,PZ p a),(1,.row 35 5<|x.I0.map au),(2,.row 35 5<|x.K0.map au),(3,.M1 110 [.loc 0 0])]⟩)
     (λx=>J6 (u::r.both) x/\x.I0.length+x.K0.length=r.I0.length+r.K0.length+1) (λx=>x.K0.length) ⟨r.I0,vt r.K0 u⟩ ⟨l.more G w,by dsimp only;rw [Ja];omega⟩ (er<|λj=>match j with|2=>12|j=>j) ?_
    clear s t y g;rintro x ⟨hx,hcnt⟩;have K:∀ v,v∈x.I0∨v∈x.K0->I5 v:=λv f=>by
     rcases List.mem_cons.1 ((hx.all v).2 f) with rfl|h
     ·exact e
     ·rcases List.mem_append.1 h with h|h
      ·exact C _ h
      ·exact E _ h
    have Y:(x.I0.map au).length=x.I0.length:=Aa _;have Z:(x.K0.map au).length=x.K0.length:=Aa _;have z:=(Xl (caps:=[.pd [.ptr<|vwD p a x]]) (λv=>I2 x.I0 v) x.K0 rfl<|λv f=>ER p a x v (by omega) hx.sh<|by have h:=K v<|.inr f;have:=h.P0;have:=h.V0;omega).Xa<|bm dx x.K0;refine zS ?_;refine My z rfl (by rintro _ rfl;rfl) rfl rfl rfl rfl ?_;rintro _ rfl;rcases mM (λv=>I2 x.I0 v) x.K0 with ⟨n,L⟩|⟨i,c,n,M⟩
    ·rw [n];refine zR ?_;all_goals try omega
     exact⟨.inl rfl,_,rfl,kp id 3 (.b true) (dA p a x) ⟨rfl,.inr<|.inr ⟨rfl,rfl,by omega,x,hx.done L,rfl,rfl⟩⟩⟩
    ·rw [n];have N:R1 x.I0 (x.K0[i]'c).id=false:=by
      cases P:R1 x.I0 (x.K0[i]'c).id with
      | false=>rfl
      | true =>
       obtain⟨v,f,Q⟩:=Y2.1 P;exact absurd Q<|hx.apart v f _<|Ah c
     have R:=Ln.of (Ry x.K0 i c<|by omega);have g:=Ln.of (Ur x.I0 (x.K0[i]'c) (by omega) hx.sh N);clear z;refine zS ?_;all_goals try omega
     refine v7 2 R rfl rfl rfl rfl rfl rfl rfl ⟨_,rfl⟩ rfl rfl ?_;rintro _ rfl;refine zS ?_;all_goals try omega
     refine v7 1 g rfl rfl rfl rfl rfl rfl rfl ⟨_,rfl⟩ rfl rfl ?_;rintro _ rfl;refine zS ?_;all_goals try omega
     have A:=hx.move (Ah c) M;rw [<- yn hx.sw c] at A;exact⟨⟨vt x.I0 (x.K0[i]'c),x.K0.eraseIdx i⟩,⟨A,by dsimp only;rw [Ja,D4 c];omega⟩,er (λj=>match j with|1=>23|2=>13|j=>j),by dsimp only;rw [D4 c];omega⟩
end
section
open Go Go.RowKit
variable [iB : Y0]
def I3.IX {g:Bool} {P:Program} {τ:List (Nat×TI)} {τok:c8 P τ} {f:FuncId} {args j i:List SV} {J k:Nat} {H:Hp} {x:D} (hc:∀ B,@I3 (ke iB B) g P τ τok f i (λr=>r=.d (.own B x))) (n:aZ H args=j) (o:∀ X e w vs,O0 X e w j vs->O0 X e w i vs) (p:SV.U1 0 i=true) :
  X1 g P τ τok f args J k H (λq r s=>q=k/\r=.d (.own Y0.B x)/\s=H):=by
 refine⟨(hc 0).1,λO e w vs t u=>?_⟩
 have m:J0 ⟨P,τ,τok,O,w,λb=>b∈ah e H,0,J,e.an,none,da,true,g⟩ (lo k) [] H e { tmps:=#[],defers:=[] } w:=⟨t,.nil,rfl,λ_=>trivial⟩
 have l:S7 P (λb=>b∈ah e H) w:=m.S4;have y:@S7 (ke iB w.heap.size) P (λ_=>False) w:=⟨Af _,l.2.1,λb c=>c.elim⟩
 refine (@I3.NC (ke iB w.heap.size) g P τ τok f i _ (hc w.heap.size) e w O (λb c=>As (m.T1 b c).1 m.size) y p _<|O0.inst (i1:=iB) (i2:=ke iB w.heap.size) rfl _ _<|o _ _ _ _<|n▸Xq m u).mono ?_;rintro en w' ⟨r,v,rfl,rfl,c,hlr,hrel⟩;have h:=Rel.inst (i1:=ke iB w.heap.size) (i2:=iB) rfl _ _ hrel;refine⟨k,_,H,e,v,⟨rfl,rfl,rfl⟩,rfl,(m.below c).toHeap,?_⟩
 have h:Q0 O w' v (.own w.heap.size x):=h;refine Q0.own<|Q0.Rg (λb _ a=>?_) h.Z5;rcases a with (a|a)|a
 ·exact .inl a
 ·exact .inr<|m.lt b a
 ·exact .inr<|As a l.1
def O0.FZ {X:Nat->Prop} {e:Env} {w:World} {p q:Nat} {a xs b ys:List (List D)} {vs:List Value} (h1:tt a xs) (c:tt b ys) (h:O0 X e w [.d (.slice p a),.d (.slice q b)] vs):O0 X e w [.d (.slice p xs),.d (.slice q ys)] vs:=
 match vs,h with
 | [_,_],h=>⟨Q0.deep h1 h.1,Q0.deep c h.2.1,trivial⟩
def O0.EZ {X:Nat->Prop} {e:Env} {w:World} {p q:Nat} {a xs b ys:List (List D)} {r:List SV} {vs:List Value} (h1:tt a xs) (c:tt b ys) (h:O0 X e w (.agg [.d (.slice p a),.d (.slice q b)]::r) vs):O0 X e w (.agg [.d (.slice p xs),.d (.slice q ys)]::r) vs:=
 match vs,h with
 | _::_,⟨⟨f,g,i⟩,j⟩=>⟨⟨f,g,O0.FZ h1 c i⟩,j⟩
 | [],k=>k.elim
end
section
open Go Go.RowKit
variable [iB : Y0]
attribute [local irreducible] DW DS DL DQ Ev X1 I3 du bl DT
def gR (r:X2) (a:r.I0.length<=100000) (b:(r.I0.flatMap X0.V0).length<=100000) (c:(r.I0.flatMap X0.F1).length<=100000) (e:∀ u∈r.I0,∀ f∈u.F1,f.args.length<=1000000):X1 false prog U5 bt 62 [.agg [.row 0,.row 1]] 2 2 [(0,.row 35 5 (r.I0.map au)),(1,.row 35 5 (r.K0.map au))] (λk g H=>k=2/\g=.d (.own Y0.B (.slice 2 ((bg ((Ga r.I0).flatMap X0.F1)).map aa)))/\H=[(0,.row 35 5 (r.I0.map au)),(1,.row 35 5 (r.K0.map au))]):=
 I3.IX (λB=>@HF (ke iB B) r a b c e) rfl (λ_ _ _ _ h=>O0.EZ (bm dx r.I0) (bm dx r.K0) h) rfl
end
section
open Go Go.RowKit
variable [Y0]
def mS (p:R3) (l:List U0):∃ x:Int×List U0,Z3 p l x.1 x.2:=by obtain⟨e,m,h⟩:=Z3.total p l;exact⟨(e,m),h⟩
noncomputable def U7 (p:R3) (l:List U0):Int×List U0:=Ie (mS p l)
def Xv (p:R3) (l:List U0):Z3 p l (U7 p l).1 (U7 p l).2:=Gy<|mS p l
def vG {p:R3} {l:List U0} (h:(U7 p l).1≠0):(U7 p l).2=[]:=by
 have a:=Xv p l;generalize U7 p l=x at h a;obtain⟨e,m⟩:=x;dsimp only at h a ⊢;cases a with
 | bad _=>rfl
 | ok _ _ _=>exact absurd rfl h
 | Vv _ _=>rfl
def Jh (r:X2):List U0:=bg<|(Ga r.I0).flatMap X0.F1
def dt (p:R3) (r:X2):List U0:=(Jh r).filter λf=>decide (gm p.F0 f=0)
noncomputable def J8 (r:X2) (u:X0):X2:=open Classical in if h:∃ a,R2 (u::r.both) a then Ie h else r
def Cr {r a:X2} {u:X0} (h:R2 (u::r.both) a):J8 r u=a:=by unfold J8;rw [dif_pos ⟨a,h⟩];exact R2.unique (Gy (⟨a,h⟩:∃ a,R2 (u::r.both) a)) h
noncomputable def J4 (p:R3) (r:X2):List U0×Int:=if dn db p≠0 then ([],dn db p) else if bq r≠0 then ([],bq r) else ((U7 p (dt p r)).2,(U7 p (dt p r)).1)
def Jv {p:R3} {r:X2} (h:(J4 p r).2≠0):(J4 p r).1=[]:=by
 unfold J4 at h ⊢;split
 ·rfl
 ·rename_i a;rw [if_neg a] at h;split
  ·rfl
  ·rename_i b;rw [if_neg b] at h;exact vG h
abbrev YW:=List U0×List U0
noncomputable def N5 (p:R3) (r:X2) (m:List U0) (u:X0):X2×List U0×YW×Int:=
 if cp u≠0 then (r,m,([],[]),cp u)
 else if R1 r.both u.id=true then (r,m,([],[]),0)
 else if 200<=r.both.length then (r,m,([],[]),2)
 else if (U7 p (dt p (J8 r u))).1≠0 then (J8 r u,(U7 p (dt p (J8 r u))).2,([],[]),(U7 p (dt p (J8 r u))).1)
 else (J8 r u,(U7 p (dt p (J8 r u))).2,(bg (fk (U7 p (dt p (J8 r u))).2 m),bg (fk m (U7 p (dt p (J8 r u))).2)),0)
noncomputable def Ve (p:R3):List X0->X2->List U0->List YW->X2×List U0×List YW×Int
 | [],r,m,a=>(r,m,a,0)
 | u::l,r,m,a=>if (N5 p r m u).2.2.2≠0 then ((N5 p r m u).1,(N5 p r m u).2.1,a++[(N5 p r m u).2.2.1],(N5 p r m u).2.2.2)
  else Ve p l (N5 p r m u).1 (N5 p r m u).2.1 (a++[(N5 p r m u).2.2.1])
abbrev Xk:X2:=⟨[],[]⟩
noncomputable def R6 (p:R3) (r:X2) (l:List X0):X2×List YW×Int:=
 if (J4 p r).2≠0 then (Xk,[],(J4 p r).2)
 else if 200<l.length then (Xk,[],2)
 else if (Ve p l r (J4 p r).1 []).2.2.2≠0 then (Xk,[],(Ve p l r (J4 p r).1 []).2.2.2)
 else ((Ve p l r (J4 p r).1 []).1,(Ve p l r (J4 p r).1 []).2.2.1,0)
structure Q4 (r:X2):Prop where
 ok:R2 r.both r
 len:r.I0.length+r.K0.length<=200
 each:∀ u∈r.both,cp u=0
def Q4.of {r:X2} (h:bq r=0):Q4 r:=by obtain⟨a,b,c⟩:=m7 h;exact⟨c,a,b⟩
def Q4.check {r:X2} (h:Q4 r):bq r=0:=gI h.ok h.len h.each
def dY {c S:List U0} {a:List Ym} (h:HA c S a):a.length<=S.length:=by
 have:=om h.nodup (b:=S) λx d=>by
  obtain⟨g,e,rfl⟩:=List.mem_map.1 d;exact (h.all _).2<|.inr ⟨g,e,rfl⟩
 rw [Aa] at this;exact this
def UD {p:R3} (a:Jn p) {x:U0} (h:K5 p.F0 x):x.args.length<=3:=by
 have:=h.len
 have:=(a.ar x.N0.toNat).2
 omega
def yC (p:R3) (lv:List Int) (n:Nat) (b S:List U0) (i:Nat):Prop:=
 ∀ j (c:j<p.M0.length),j<i->lv.getD (p.M0[j]).N0.toNat 0=n->∃ a,N2 a/\(∀ x∈b,x∈a)/\(∀ x∈a,x∈S)/\J3 a p.M0[j]=true/\∀ x∈L7 a p.M0[j],x∈S
def yC.more {p:R3} {lv:List Int} {n:Nat} {k S g:List U0} {i:Nat} (h:yC p lv n k S i) (m:∀ x∈S,x∈g) (hi:i<p.M0.length)
  (q:lv.getD (p.M0[i]).N0.toNat 0=n->∃ f,N2 f/\(∀ x∈k,x∈f)/\(∀ x∈f,x∈g)/\J3 f p.M0[i]=true/\∀ x∈L7 f p.M0[i],x∈g):yC p lv n k g (i+1):=by
 intro j r t o;by_cases s:j=i
 ·subst s;exact q o
 ·obtain⟨f,a,b,c,d,e⟩:=h j r (by omega) o;exact⟨f,a,b,λx l=>m x (c x l),d,λx l=>m x<|e x l⟩
def CN {p:R3} {lv:List Int} {n:Nat} {m h f S:List U0} {o:List Ym} (hb:Ke p lv n m h S o) (h1:N2 f) (q:∀ x∈f,x∈S) (g:yC p lv n f S p.M0.length) (s:S.length<=f.length):Fit (V7 p lv n h) h S:=by
 have t:=DF h1 hb.inv.strict q s;subst t;have k:∀ r∈(V7 p lv n h).rs,J3 f r=true/\∀ x∈L7 f r,x∈f:=by
  intro r u;obtain⟨v,i⟩:=List.mem_filter.1 u;have i:=of_decide_eq_true i;obtain⟨j,l,rfl⟩:=List.mem_iff_getElem.1 v;obtain⟨w,a,b,c,d,e⟩:=g j l l i;have:w=f:=l5 a h1 λx=>⟨c x,b x⟩
  subst this;exact⟨d,e⟩
 exact vx hb.inv (λr g=>(k r g).1) λr g=>(k r g).2
attribute [local irreducible] DW DS DL DQ Ev X1 I3 du bl DT
def ES (p:R3) (lv:List Int) (n:Nat) (E g:List U0) (q:List Ym) (l:Jn p) (I:Pb p lv) (hb:Ke p lv n E g g q) :
  X1 false prog U5 bt 259 [.loc 0 0,.s 1 (lv.map aq),.i n] 1 2 (Xm p g q)
   (λJ r K=>J=2/\∃ L V,K=Xm p L V/\((r=.b true/\Fit (V7 p lv n g) g L/\Ke p lv n E g L V)∨(r=.b false/\¬ ∃ M,Fit (V7 p lv n g) g M))):=by
 refine T8 func259 ?_;intro b2 w0 E0 K1;have X:(p.M0.map dq).length=p.M0.length:=Aa _;have b3:(lv.map aq).length=lv.length:=Aa _;have b4:=l.lZ;refine zS ?_;refine ae (ι:=Int×List U0×List Ym) (λc=>⟨2,[(0,.loc 0 0),(1,.s 1<|lv.map aq),(2,.i n),(6,.b false),(7,.i c.1)],Xm p c.2.1 c.2.2⟩)
  (λc=>Ke p lv n E g c.2.1 c.2.2/\(c.1 = -1∨∃ z,c.1=(z.length:Int)/\N2 z/\(∀ x∈z,x∈c.2.1)/\yC p lv n z c.2.1 p.M0.length)) (λc=>2*(61-c.2.1.length)+if c.1<c.2.1.length then 1 else 0) (-1,g,q) ⟨hb,.inl rfl⟩
  (er id) ?_
 rintro⟨Y,S,N⟩ ⟨m,O⟩;dsimp only at m O ⊢;have Z:(S.map aa).length=S.length:=Aa _;have b5:=m.inv.len;repeat' (first|refine zr ?_|(refine zm ?_ ?_<;>intro F)|fail)
 ·refine ae (ι:=Nat×List U0×List Ym) (λc=>⟨2,[(0,.loc 0 0),(1,.s 1<|lv.map aq),(2,.i n),(6,.b false),(7,.i S.length),(28,.s 5<|p.M0.map dq),(29,.i p.M0.length),(30,.i c.1)],Xm p c.2.1 c.2.2⟩)
   (λc=>c.1<=p.M0.length/\Ke p lv n E g c.2.1 c.2.2/\(∀ x∈S,x∈c.2.1)/\yC p lv n S c.2.1 c.1) (λc=>p.M0.length-c.1) (0,S,N) ⟨Ai _,m,λ_ h=>h,λj _ h=>absurd h<|A2 j⟩
   (er id ⟨rfl,rfl,rfl,rfl,by rw [<- Z];rfl,rfl,by rw [<- X];rfl,rfl,trivial⟩) ?_
  rintro⟨i,d,o⟩ ⟨q1,e,t,G⟩;dsimp only at q1 e t G ⊢;by_cases k:i<p.M0.length
  ·have u:=l.gA _<|Ah k;have b6:=u.N0;have b7:=I.len;have A:lv.getD (p.M0[i]).N0.toNat 0=lv[(p.M0[i]).N0.toNat]'(by omega):=by rw [A4,Ad<|by omega];rfl
   have W:=e.inv.len;have B:=nJ u l.ar e.inv.a.1 e.inv.strict.nodup;have v:=(MX d p.M0[i] e.inv.strict (by omega)<|ud u l.ar e.inv.a.1).own2 rfl rfl;have H:=WV p.F0 p.M0[i] (gw d p.M0[i]) B;by_cases y:lv.getD (p.M0[i]).N0.toNat 0=n
   ·have a0:p.M0[i]∈(V7 p lv n g).rs:=List.mem_filter.2 ⟨Ah k,decide_eq_true y⟩;cases C:J3 d p.M0[i] with
    | false =>
     rw [C] at v;clear H;rw [A] at y;repeat' (first|refine zr ?_|refine z22 ?_ v|(refine zm ?_ ?_<;>intro F)|omega)
     exact⟨.inl rfl,_,rfl,kp id 2 _ (Xm p d o) ⟨rfl,d,o,rfl,.inr ⟨rfl,SL (Tl l I n g) e.inv a0 C⟩⟩⟩
    | true =>
     rw [C] at v;rw [A] at y;repeat' (first|refine zs ?_|refine z22 ?_ v|refine z21 ?_ H|(refine zm ?_ ?_<;>intro F)|omega)
     clear v H;have a5:∀ f∈L7 d p.M0[i],f.args.length=p.M0[i].D0.length/\∃ w∈gw d p.M0[i],QJ p.M0[i] f w=true:=λf P=>WG (((bu _).2 f).1 P) λP=>(u.Km P).1
     have a9:(L7 d p.M0[i]).length<=2000:=by
      refine Aw (l6 _) ?_;rw [sf];exact Aw (List.length_filterMap_le _ _) B.many
     have wt:=gS p i k (gw d p.M0[i]) (L7 d p.M0[i]) d o u B.Jd (λw q=>⟨B.D0 q,by rw [B.len w q];have:=u.vars;omega⟩) a5 e.inv.strict W a9 (by have:=dY e.WZ;omega)<|λx Q=>UD l<|e.inv.a.1 x Q;obtain⟨t1,t2⟩:=Lk l I k (A.trans y) e C (L7 d p.M0[i]) d o (λ_ h=>h) e (λ_ h=>h) (λ_ h=>h)<|Af _;generalize od p.M0[i] i (gw d p.M0[i]) (L7 d p.M0[i]) d o=b0 at wt t1 t2;obtain⟨ok,R,T⟩:=b0;dsimp only at wt t1 t2;(refine aw id (wt) rfl rfl rfl rfl ⟨rfl,rfl,trivial⟩ rfl rfl rfl rfl rfl rfl ?_ ?_)
     ·rintro J r K ⟨rfl,rfl,rfl⟩;exact⟨rfl,rfl⟩
     rintro J r K ⟨rfl,rfl,rfl⟩;change DS _ _ _ _ _ _ _ _;cases ok with
     | false =>
      refine zR ?_;all_goals try omega
      exact⟨.inl rfl,_,rfl,kp (λj=>match j with|1=>4|j=>j) 2 _ (Xm p R T) ⟨rfl,R,T,rfl,.inr ⟨rfl,t2 rfl⟩⟩⟩
     | true =>
      obtain⟨a1,U,a3,a4⟩:=t1 rfl;refine zS ?_;all_goals try omega
      exact⟨(i+1,R,T),⟨k,a1,λx Q=>U x (t x Q),G.more U k λ_=>⟨d,e.inv.strict,t,U,C,a3⟩⟩,er (λj=>match j with|1=>4|j=>j),by dsimp only;omega⟩
   ·rw [A] at y;clear v H;repeat' (first|refine zs ?_|(refine zm ?_ ?_<;>intro F)|omega)
    exact⟨(i+1,d,o),⟨k,e,t,G.more (λ_ h=>h) k λh=>absurd (A.symm.trans h) y⟩,er id,by dsimp only;omega⟩
  ·have b1:i=p.M0.length:=by omega
   subst b1;repeat' (first|refine zs ?_|(refine zm ?_ ?_<;>intro F)|omega)
   have c0:S.length<=d.length:=om m.inv.strict.nodup t;have W:=e.inv.len;refine⟨((S.length:Int),d,o),⟨e,.inr ⟨S,rfl,m.inv.strict,t,G⟩⟩,er id,?_⟩
   dsimp only;rw [if_pos (by omega:Y<(S.length:Int))];split<;>omega
 ·rcases O with O|⟨z,e1,e2,e3,e4⟩
  ·exfalso;omega
  ·exact⟨.inl rfl,_,rfl,kp id 2 _ (Xm p S N) ⟨rfl,S,N,rfl,.inl ⟨rfl,CN m e2 e3 e4 (by omega),m⟩⟩⟩
def XS {p:R3} {lv:List Int} {n:Nat} {e c:List U0} {f:List Ym} (g:Jn p) (k:Pb p lv) (m:∀ x∈c,K5 p.F0 x) (o:N2 c) (h:KU p lv n e f c) {T:List U0} (d:Good (V7 p lv n c) c T):KU p lv (n+1) e f T:=by
 intro i s q;have b:=h i s q;have r:=g.gA _<|Ah b.hi;obtain⟨_,j⟩:=Vk r g.ar d.a.1 m d.strict.nodup o.nodup λl t u x v=>d.a.2 x (by
  have w:=k.fit _ (Ah b.hi) l t u;have y:0<=na (p.M0[s.fA.toNat]'b.hi).T0 l:=by unfold na;split<;>omega
  have z:=b.level;rw [v];omega)
 refine⟨b.lo,b.hi,by have:=b.level;omega,by rw [j];exact b.q',?_,b.is,b.ahead⟩
 unfold L7;rw [j];exact b.head
def eQ {p:R3} {lv:List Int} {n:Nat} {b a:List U0} {c:List Ym} (f:Jn p) (g:Pb p lv) (d:∀ x∈a,K5 p.F0 x) (e:N2 a) (i:a.length<=60) (j:HA b a c) (h:KU p lv n b c a):Ke p lv n b a a c:=
 ⟨qk e ⟨d,λ_ _=>Iff.rfl⟩ i,j,λ_ k=>XS f g d e h k⟩
def YS (a:List U0):HA a (bg a) []:=
 ⟨λx=>by rw [(bu a).2];simp,by simp,λ_ h=>by simp at h⟩
def Bu {p:R3} {lv:List Int} {a:List U0} {n N:Nat} {m:List U0} (i:n<N) (h:Z2 p lv a n m) (c:¬ ∃ M,Fit (V7 p lv n m) m M):¬ ∃ M,Z2 p lv a N M:=by
 rintro⟨M,b⟩;have d:n+1+(N-(n+1))=N:=by omega
 rw [<- d] at b;obtain⟨e,j,f,g⟩:=Z2.back b;have:=f.unique h
 subst this;exact c ⟨e,g⟩
def aQ (p:R3) (lv:List Int) (l:List U0) (f:Jn p) (o:Pb p lv) (u:l.length<=60) (q:∀ x∈l,K5 p.F0 x) :
  Fn 242 [gy p,.s 1 (lv.map aq),.s 2 (l.map aa)]
   (λr=>∃ (m:List U0) (a:List Ym) (b:Bool),r=.M2 [.d (.own Y0.B (.slice 2 (m.map aa))),.s 4 (a.map kE),.b b] /\
    ((b=true/\Z2 p lv l p.F0.length m/\HA l m a/\KU p lv p.F0.length l a m)∨(b=false/\m=[]/\a=[]/\¬ ∃ m,Z2 p lv l p.F0.length m))):=by
 refine J2 func242 ?_;intro O L M N;have v:(p.F0.map aq).length=p.F0.length:=Aa _;have P:=f.IZ;have w:=Tb l (by omega) (λx y=>by have:=UD f<|q x y;omega);repeat' ((fail_if_success (apply fh 2));(first|refine zs ?_|refine z22 ?_ w|fail))
 refine ag (gh 5 4 309 4 rfl rfl rfl) ?_;refine zS ?_;refine ae (ι:=Nat×List U0×List Ym) (λc=>⟨3,[(1,.s 1<|lv.map aq),(9,.loc 0 0),(18,.i p.F0.length),(19,.i c.1)],
   (2,.M1 26 [.s 1 (p.F0.map aq),.s 1 (p.Z0.map qn),.s 5<|p.M0.map dq])::Xm p c.2.1 c.2.2⟩)
  (λc=>c.1<=p.F0.length/\Z2 p lv l c.1 c.2.1/\HA l c.2.1 c.2.2/\KU p lv c.1 l c.2.2 c.2.1) (λc=>p.F0.length-c.1) (0,bg l,[]) ⟨Ai _,rfl,YS l,λi h z=>by simp at z⟩
  (er (λj=>match j with|0=>5|1=>7|_=>0) ⟨rfl,rfl,by rw [<- v];rfl,rfl,trivial⟩) ?_
 rintro⟨n,S,a⟩ ⟨A,e,g,k⟩;dsimp only at A e g k ⊢;obtain⟨C,E,F,Q⟩:=Z2.ok q u e;have G:(S.map aa).length=S.length:=Aa _;by_cases t:n<p.F0.length
 ·have H:=eQ f o F C E g k;have I:=ES p lv n l S a f o H;repeat' (first|refine zr ?_|(refine zm ?_ ?_<;>intro J)|omega)
  (refine aw id (I) rfl rfl rfl rfl ⟨rfl,rfl,trivial⟩ rfl rfl rfl rfl rfl rfl ?_ ?_)
  ·rintro k2 r H2 ⟨rfl,S',hw',rfl,⟨rfl,_⟩|⟨rfl,_⟩⟩
   ·exact⟨rfl,rfl⟩
   ·exact⟨rfl,rfl⟩
  rintro k2 r H2 ⟨rfl,S',hw',rfl,⟨rfl,hfit,hb2⟩|⟨rfl,hno⟩⟩
  ·change DS _ _ _ _ _ _ _ _;refine zS ?_;all_goals try omega
   exact⟨(n+1,S',hw'),⟨t,⟨S,e,hfit⟩,hb2.WZ,by have:=hb2.stp S' hfit.M6;exact this⟩,er (λj=>match j with|1=>4|j=>j),by dsimp only;omega⟩
  ·change DS _ _ _ _ _ _ _ _;refine zS ?_;all_goals try omega
   refine ag (ea 6 2 rfl) ?_;refine ag (ff 7 4 rfl) ?_;refine zR ?_;exact⟨.inl rfl,_,rfl,rfl,[],[],false,rfl,.inr ⟨rfl,rfl,rfl,Bu t e hno⟩⟩
 ·have K:n=p.F0.length:=by omega
  subst K;repeat' (first|refine zs ?_|(refine zm ?_ ?_<;>intro J)|omega)
  refine ag (ck 7 rfl rfl rfl) ?_;repeat' (apply cr)
  exact⟨.inl rfl,_,rfl,rfl,S,a,true,by rw [G,decide_eq_true (by omega:(S.length:Int)<=60)];rfl,.inl ⟨rfl,e,g,k⟩⟩
def AG {p:R3} {l:List U0}:t6 p l=if xD p≠0 then xD p else tg p.F0 l:=by
 unfold t6 xD;by_cases h:dn db p=0
 ·rw [h];cases tm p<;>simp
 ·simp [h]
def EN (p:R3) (l:List U0):Fn 241 [gy p,.s 2 (l.map aa)] (λr=>r=.i (tg p.F0 l)):=by
 refine J2 func241 ?_;intro O g h j;have f:(l.map aa).length=l.length:=Aa _;refine cm (t:=1) rfl λk=>?_
 unfold tg;by_cases b:60<l.length
 ·rw [if_pos b];repeat' (first|refine zr ?_|(refine zm ?_ ?_<;>intro a)|omega)
  all_goals exact⟨.inl rfl,_,rfl,rfl,rfl⟩
 ·rw [if_neg b];repeat' (first|refine zr ?_|(refine zm ?_ ?_<;>intro a)|omega)
  refine ae (ι:=Nat) (λi=>⟨1,[(2,.loc 0 0),(11,.s 2<|l.map aa),(12,.i l.length),(13,.i i)],[(0,.M1 26 [.s 1 (p.F0.map aq),.s 1 (p.Z0.map qn),.s 5<|p.M0.map dq])]⟩)
   (λi=>i<=l.length/\bp (gm p.F0) l=bp (gm p.F0) (l.drop i)) (λi=>l.length-i) 0 ⟨Ai _,rfl⟩ (er id ⟨rfl,rfl,by rw [<- f];rfl,rfl,trivial⟩) ?_
  rintro i ⟨g1,g2⟩;dsimp only at g1 g2 ⊢;by_cases c:i<l.length
  ·rw [gg c] at g2;have d:=TB p l[i];by_cases e:gm p.F0 l[i]≠0
   ·rw [if_pos e] at g2;rw [g2];repeat' (first|refine zr ?_|refine z21 ?_ d|(refine zm ?_ ?_<;>intro a)|omega)
    all_goals exact⟨.inl rfl,_,rfl,rfl,rfl⟩
   ·rw [if_neg e] at g2;repeat' (first|refine zr ?_|refine z21 ?_ d|(refine zm ?_ ?_<;>intro a)|omega)
    exact⟨i+1,⟨c,g2⟩,er id,by omega⟩
  ·rw [iu<|by omega] at g2;rw [g2];repeat' (first|refine zr ?_|(refine zm ?_ ?_<;>intro a)|omega)
   all_goals exact⟨.inl rfl,_,rfl,rfl,rfl⟩
def pS (p:R3) (l:List U0) :
  Fn 210 [gy p,.s 2 (l.map aa)]
   (λr=>∃ (m:List U0) (k:List Ym) (e:Int),r=.M2 [.d (.own Y0.B (.slice 2 (m.map aa))),.s 4 (k.map kE),.i e]/\Z3 p l e m/\(e=0->HA l m k/\KU p (gn p) p.F0.length l k m)):=by
 refine J2 func210 ?_;intro O w x y;have f:=qO p;have j:=EN p l;by_cases a:t6 p l=0
 ·have c:=lX a;have g:xD p=0:=by unfold xD;rw [if_neg (by rw [c.prog];simp),c.doc];rfl
  have t:bW p=gn p:=by unfold bW;rw [if_pos ⟨c.prog,c.doc⟩]
  have u:tg p.F0 l=0:=by rw [AG,if_neg<|by rw [g];simp] at a;exact a
  rw [g,t] at f;rw [u] at j;have o:=aQ p (gn p) l c.pr c.fit c.len c.facts;repeat' (first|refine zs ?_|refine z21 ?_ f|refine z21 ?_ j|omega)
  apply yq;exact rfl;exact rfl;exact o;(iterate 3 exact rfl);rintro _ ⟨m,k,b,rfl,⟨rfl,q1,q2,q3⟩|⟨rfl,rfl,rfl,q1⟩⟩
  ·clear f j o;refine zR ?_;all_goals try omega
   exact⟨.inl rfl,_,rfl,rfl,m,k,0,rfl,.ok m a q1,λ_=>⟨q2,q3⟩⟩
  ·clear f j o;refine zS ?_;all_goals try omega
   refine ag (ea 4 2 rfl) ?_;refine ag (ff 5 4 rfl) ?_;refine zR ?_;exact⟨.inl rfl,_,rfl,rfl,[],[],2,rfl,.Vv a q1,λh=>absurd h<|by simp⟩
 ·have g:=AG (p:=p) (l:=l);have n:Z3 p l (t6 p l) []:=.bad a;by_cases q:xD p=0
  ·rw [if_neg<|by rw [q];simp] at g;rw [q] at f;rw [g] at a n;generalize tg p.F0 l=e at *;repeat' (first|refine zs ?_|refine z21 ?_ f|refine z21 ?_ j|(refine zm ?_ ?_<;>intro v)|omega)
   refine ag (ea 4 2 rfl) ?_;refine ag (ff 5 4 rfl) ?_;refine zR ?_;exact⟨.inl rfl,_,rfl,rfl,[],[],e,rfl,n,λh=>absurd h a⟩
  ·rw [if_pos q] at g;rw [g] at a n;generalize xD p=e at *;repeat' (first|refine zs ?_|refine z21 ?_ f|refine z21 ?_ j|(refine zm ?_ ?_<;>intro v)|omega)
   refine ag (ea 4 2 rfl) ?_;refine ag (ff 5 4 rfl) ?_;refine zR ?_;exact⟨.inl rfl,_,rfl,rfl,[],[],e,rfl,n,λh=>absurd h a⟩
def gO (p:R3) (l:List U0) (e:Int) (m:List U0) (a:Z3 p l e m):Fn 172 [gy p,.s 2 (l.map aa)] (λr=>r=.M2 [.d (.own Y0.B (.slice 2 (m.map aa))),.i e]):=by refine J2 func172 ?_;intro O c f g;have b:=pS p l;refine zS ?_;apply yq;exact rfl;exact rfl;exact b;(iterate 3 exact rfl);rintro _ ⟨m',hw,e',rfl,q1,_⟩;obtain⟨rfl,rfl⟩:=q1.unique a;refine zR ?_;exact⟨.inl rfl,_,rfl,rfl,rfl⟩
end
end Go.Proofs.YtapciiffpnociabGreat
