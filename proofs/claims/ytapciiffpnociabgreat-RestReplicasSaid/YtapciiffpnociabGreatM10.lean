/- Several texts in one: RuE RuG RuK RuCo RuS RuT LstS RuV GxRR RelW RuW. Condition: none. -/
import Derived.Test.YtapciiffpnociabGreatM09
set_option linter.all false
set_option maxHeartbeats 8000000
open Bool renaming false_eq_true→B3
open Classical renaming byContradiction→Bo
open List renaming append_assoc→Bm,append_nil→Bn,drop_eq_getElem_cons→An,drop_of_length_le→Ar,eq_nil_of_length_eq_zero→Bg,ext_getElem?→Ce,filter_cons→B7,findIdx_getElem→D8,flatMap_append→Dj,flatMap_nil→H9,foldl_append→Ea,getD→A4,getElem?_append_right→A7,getElem?_eq_getElem→Ad,getElem?_eq_none→Be,getElem?_set_ne→B5,getElem?_set_self→B8,getElem_map→Dp,getElem_mem→Ah,length→B0,length_append→Ag,length_cons→Ba,length_drop→A9,length_eraseIdx→D9,length_map→Aa,length_nil→Dv,length_set→A6,length_singleton→A0,length_take→Ap,map_append→Au,map_cons→A3,map_nil→Dm,map_replicate→D2,map_set→Db,mem_cons_of_mem→Ak,mem_cons_self→Ac,mem_of_mem_drop→B4,mem_of_mem_take→Bz,mem_singleton→A1,not_of_lt_findIdx→Gp,replicate→Aq,sum_append→Fp,take_append_drop→Dl,take_append_of_le_length→Bc,take_of_length_le→Aj,take_succ_eq_append_getElem→Am,take_zero→Io
open Nat renaming add_sub_cancel→E5,blt→Av,le_of_ble_eq_true→Ab,le_refl→Af,lt_trichotomy→Hv,not_lt_zero→A2,zero_le→Ai
namespace Go.Proofs.YtapciiffpnociabGreat
open Tryz
open Go Go.RowKit
variable {pos:String} {af:Array Edge} {g:Option (Nat×Bool)}
section
open Go Go.RowKit
variable [Y0]
def ri (w:List (List Int)) (b:List (List Int)×Bool):List (List Int)×Bool:=if b.2 then b else (b.1++w.take (2000-b.1.length),decide (2000<b.1.length+w.length))
def wz (b:List (List Int)×Bool) (h:b.1.length<=2000):ri [] b=b:=by
 unfold ri;obtain⟨o,m⟩:=b;cases m with
 | true=>rfl
 | false=>simp only [List.take_nil,Bn,Dv,Nat.add_zero];rw [if_neg (by simp),decide_eq_false<|by simpa using h]
def tU (w:List (List Int)) (b:List (List Int)×Bool) (h:b.1.length<=2000):(ri w b).1.length<=2000:=by
 unfold ri;split
 ·exact h
 ·simp only [Ag,Ap];omega
def pI (b d:List (List Int)) (c:List (List Int)×Bool) (h:c.1.length<=2000):ri (b++d) c=ri d (ri b c):=by
 obtain⟨o,m⟩:=c;simp only at h;cases m with
 | true=>rfl
 | false =>
  unfold ri;simp only [B3,if_false];by_cases f:2000<o.length+b.length
  ·rw [decide_eq_true f];simp only [if_true,Ag];rw [decide_eq_true (by omega),Bc<|by omega]
  ·rw [decide_eq_false f];simp only [B3,if_false,Ag,Ap];have i:b.take (2000-o.length)=b:=Aj (by omega);rw [i,List.take_append,i,Bm];congr 2
   ·congr 2;omega
   ·have:min (2000-o.length) b.length=b.length:=by omega
    rw [this,Nat.add_assoc]
def mQ {o:List (List Int)} (a:List Int) (h:o.length=2000):ri [a] (o,false)=(o,true):=by unfold ri;simp [h]
def sU {o:List (List Int)} (a:List Int) (h:o.length<2000):ri [a] (o,false)=(o++[a],false):=by unfold ri;simp only [B3,if_false,Ba,Dv];rw [decide_eq_false (by omega),show 2000-o.length=(1999-o.length)+1 by omega];simp
def wC (w:List (List Int)) (o:List (List Int)):ri w (o,true)=(o,true):=rfl
def tw (body:List T2) (i:Nat):List T2:=(body.drop i).filter λl=>decide (l.R0=1)
def SM {body:List T2} {i:Nat} (hi:i<body.length) (h:body[i].R0≠1):tw body i=tw body (i+1):=by unfold tw;rw [An hi,B7,if_neg<|by simpa using h]
def tQ {body:List T2} {i:Nat} (hi:i<body.length) (h:body[i].R0=1):tw body i=body[i]::tw body (i+1):=by unfold tw;rw [An hi,B7,if_pos<|by simpa using h]
def uQ {body:List T2} {i:Nat} (hi:body.length<=i):tw body i=[]:=by unfold tw;rw [List.drop_of_length_le hi];rfl
def QF {S:List U0}:∀ {body:List T2} {e e':RE},(∀ l∈body,Qv S e.length l)->rn e->xn body e=some e'->rn e'
 | [],e,e',_,c,h=>by simp only [xn,List.foldlM_nil] at h;cases h;exact c
 | l::body,e,e',d,c,h=>by
  simp only [xn,List.foldlM_cons] at h
  cases b:tz e l with
  | none=>rw [b] at h;cases h
  | some f =>
   rw [b] at h
   have i:=(Zb (d l<|Ac ..) b).1
   exact QF (body:=body) (e:=f) (λx j=>by rw [i];exact d x<|Ak _ j) (SF (d l<|Ac ..) c b) h
def pB {S:List U0} {body:List T2}:∀ {n:Nat} {e e':RE},(∀ l∈body,Qv S e.length l)->rn e->q9 body n e=some e'->rn e'
 | 0,e,e',_,b,h=>by simp only [q9,Option.some.injEq] at h;subst h;exact b
 | n+1,e,e',c,b,h=>by
  rw [q9,Option.bind_eq_some_iff] at h
  obtain⟨m,d,f⟩:=h
  have i:=(Yb c d).1
  exact pB (λx j=>by rw [i];exact c x j) (QF c b d) f
def Ru {S:List U0} {body:List T2} {n:Nat} {e e':RE} (b:okB S e.length body) (c:rn e) (h:q9 body n e=some e'):rn e':=pB b.lit c h
attribute [local irreducible] DW DS DL DQ Ev X1 I3 du bl DT
def gW (b:RE->List (List Int)) (l:T2) (e:RE) (x:U0):List (List Int):=if x.N0=l.N0 then (match cv e l.D0 x.args with|some c=>b c|none=>[]) else []
def yS {S:List U0} {b:RE->List (List Int)} {l:T2} {e:RE} (h:l.R0=1):X9 S b l e=S.flatMap (gW b l e):=by unfold X9;rw [if_pos h];congr 1
def j' (S:List U0) (body:List T2) (e:RE) (ys:List T2):List (List Int):=match ys with
 | []=>[bx e]
 | l::ys=>X9 S (ek S body ys) l e
abbrev zZ (x:U0):HB:=.M1 95 [.i x.N0,.s 1 (x.args.map aq)]
def KE (r:O3) (S:List U0) (i:Nat):Prop:=∀ (e:RE) (b:List (List Int)) (m:Bool),okB S e.length r.body->rn e->b.length<=2000 ->
 X1 false prog U5 bt 100 [.loc 0 0,.i i,.s 1 ((bx e).map aq),.s 1<|(b8 e).map cu] 1 2 (t7 r S b m)
  (λc d H=>c=2/\d=.M2 []/\H=t7 r S (ri (ek S r.body (tw r.body i) e) (b,m)).1 (ri (ek S r.body (tw r.body i) e) (b,m)).2)
def TO (r:O3) (S:List U0) (hS:S.length<=4398046511104) (i:Nat) (a5:i<=r.body.length) (ih:∀ j,i<j->j<=r.body.length->KE r S j):KE r S i:=by
 intro e out a9 p U G;refine T8 func100 ?_;intro b6 w0 E0 K1;have lb:(r.body.map bf).length=r.body.length:=Aa _;have b7:=p.len;have b0:=p.RZ;have lo:((bx e).map aq).length=e.length:=by rw [Aa,eb]
 have Y:((b8 e).map cu).length=e.length:=by rw [Aa,cw]
 have Z:=eb e;have a0:=cw e;cases a9 with
 | true =>
  rw [wC];refine zR ?_;exact⟨.inl rfl,_,rfl,kp id 2 (.M2 []) (t7 r S out true) ⟨rfl,rfl,rfl⟩⟩
 | false =>
  repeat' (first|(apply Ua;(iterate 8 exact rfl))|((fail_if_success (apply fh 2));(first|refine zs ?_|fail)))
  refine ag (bk (k':=4) (L':=[(0,.loc 0 0),(1,.i i),(2,.row 2),(3,.row 3)]) (H':=[(0,kY r S (.row 1) false),(1,.row 22 1<|out.map gk),(2,.row 3 1<|(bx e).map aq),(3,.row 4 1<|(b8 e).map cu)]) (λj=>match j with|2=>3|3=>5|j=>j) ⟨rfl,rfl,rfl,rfl,trivial⟩ ⟨rfl,rfl,rfl,rfl,trivial⟩ rfl rfl rfl rfl rfl rfl) ?_;have w:=IN r S out false e p U;cases q:q9 r.body (r.body.length+1) e with
  | none =>
   rw [q] at w;have R:ek S r.body (tw r.body i) e=[]:=by cases tw r.body i<;>(unfold ek;rw [q])
   rw [R,wz _ G];refine zS ?_;refine aw (λj=>match j with|1=>2|2=>3|3=>1|j=>j) w rfl rfl rfl rfl ⟨rfl,rfl,rfl,rfl,trivial⟩ rfl rfl rfl rfl rfl rfl ?_ ?_
   ·rintro k2 res H2 ⟨rfl,e',rfl⟩;exact⟨rfl,rfl⟩
   rintro k2 res H2 ⟨rfl,e',rfl⟩;change DS _ _ _ _ _ _ _ _;refine zR ?_;exact⟨.inl rfl,_,rfl,kp id 2 (.M2 []) (t7 r S out false) ⟨rfl,rfl,rfl⟩⟩
  | some c =>
   rw [q] at w;obtain⟨q1,q2,_,_⟩:=qc p.lit q;have a1:rn c:=Ru p U q;rw [<- q1] at p b0;have R:ek S r.body (tw r.body i) e=if p7 S r.body c then [] else j' S r.body c (tw r.body i):=by
    cases tw r.body i<;>(rw [ek,q];rfl)
   rw [R];clear R q q2 lo Y Z a0 U q1;have lo:((bx c).map aq).length=c.length:=by rw [Aa,eb]
   have Y:((b8 c).map cu).length=c.length:=by rw [Aa,cw]
   have Z:=eb c;have a0:=cw c;refine zS ?_;refine aw (λj=>match j with|1=>2|2=>3|3=>1|j=>j) w rfl rfl rfl rfl ⟨rfl,rfl,rfl,rfl,trivial⟩ rfl rfl rfl rfl rfl rfl ?_ ?_
   ·rintro k2 res H2 ⟨rfl,rfl⟩;exact⟨rfl,rfl⟩
   rintro k2 res H2 ⟨rfl,rfl⟩;change DS _ _ _ _ _ _ _ _;refine dm (ck 2 rfl rfl rfl) ?_;refine dm (ck 3 rfl rfl rfl) ?_;have J:=RO r S out false c p a1;clear w;cases a2:p7 S r.body c with
   | true =>
    rw [a2] at J;rw [if_pos rfl,wz _ G];repeat' refine z0 ?_
    (refine aw id (J) rfl rfl rfl rfl ⟨rfl,rfl,trivial⟩ rfl rfl rfl rfl rfl rfl ?_ ?_)
    ·rintro k2 res H2 ⟨rfl,rfl⟩;exact⟨rfl,rfl⟩
    rintro k2 res H2 ⟨rfl,rfl⟩;change DS _ _ _ _ _ _ _ _;refine zR ?_;exact⟨.inl rfl,_,rfl,kp id 2 (.M2 []) (t7 r S out false) ⟨rfl,rfl,rfl⟩⟩
   | false =>
    rw [a2] at J;rw [if_neg<|by simp];repeat' refine z0 ?_
    (refine aw id (J) rfl rfl rfl rfl ⟨rfl,rfl,trivial⟩ rfl rfl rfl rfl rfl rfl ?_ ?_)
    ·rintro k2 res H2 ⟨rfl,rfl⟩;exact⟨rfl,rfl⟩
    rintro k2 res H2 ⟨rfl,rfl⟩;change DS _ _ _ _ _ _ _ _;refine zS ?_;clear J;refine ae (ι:=Nat) (λj=>⟨2,[(0,.loc 0 0),(1,.i j),(2,.s 1<|(bx c).map aq),(3,.s 1<|(b8 c).map cu)],t7 r S out false⟩)
     (λj=>i<=j/\j<=r.body.length/\tw r.body i=tw r.body j) (λj=>r.body.length-j) i ⟨Af _,a5,rfl⟩ (er id) ?_
    rintro j ⟨g1,g2,g3⟩;by_cases M:j<r.body.length
    ·by_cases N:r.body[j].R0=1
     ·have u:=tQ M N;repeat' (first|refine zr ?_|(refine zm ?_ ?_<;>intro m)|omega)
      refine ag (bk (k':=3) (L':=[(0,.loc 0 0),(1,.i j),(2,.s 1<|(bx c).map aq),(3,.s 1<|(b8 c).map cu),(8,.loc 2 0),(9,.i 0)]) (H':=(2,Vl r.body[j])::t7 r S out false) id ⟨rfl,rfl,rfl,rfl,rfl,rfl,trivial⟩ ⟨rfl,rfl,rfl,trivial⟩ rfl rfl rfl rfl rfl rfl) ?_;have V:=p.lit _<|Ah M;have b1:=p.Jd _<|Ah M;have q:=ih (j+1) (by omega) (by omega);unfold KE at q;have T:j' S r.body c (tw r.body i)=S.flatMap (gW (ek S r.body<|tw r.body<|j+1) r.body[j] c):=by rw [g3,u];exact yS N
      rw [T];clear T u g3;generalize ek S r.body (tw r.body<|j+1)=o at q ⊢;generalize r.body[j]=l at N V b1 ⊢;have ls:(S.map aa).length=S.length:=Aa _;refine ae (ι:=Nat) (λk=>⟨3,[(0,.loc 0 0),(1,.i j),(2,.s 1<|(bx c).map aq),(3,.s 1<|(b8 c).map cu),(8,.loc 2 0),(9,.i k)],(2,Vl l)::t7 r S (ri ((S.take k).flatMap<|gW o l c) (out,false)).1 (ri ((S.take k).flatMap<|gW o l c) (out,false)).2⟩)
       (λk=>k<=S.length) (λk=>S.length-k) 0 (Ai _) (er id (hH:=(by rw [Io,H9,wz _ G];exact⟨rfl,rfl,rfl,trivial⟩))) ?_
      intro k c0;have I:=tU ((S.take k).flatMap<|gW o l c) (out,false) G;have W:ri (S.flatMap<|gW o l c) (out,false)=ri ((S.drop k).flatMap<|gW o l c) (ri ((S.take k).flatMap<|gW o l c) (out,false)):=by rw [<- pI _ _ _ G,<- Dj,Dl]
      have v:∀ A:k<S.length,ri ((S.take<|k+1).flatMap<|gW o l c) (out,false)=ri (gW o l c S[k]) (ri ((S.take k).flatMap<|gW o l c) (out,false)):=λA=>by rw [Am A,Dj,pI _ _ _ G];simp
      generalize b2:ri ((S.take k).flatMap<|gW o l c) (out,false)=st at I W v ⊢;obtain⟨F,m2⟩:=st;dsimp only at I ⊢;clear b2;cases m2 with
      | true =>
       rw [W,wC];repeat' (first|refine zs ?_|(refine zm ?_ ?_<;>intro m)|omega)
       all_goals exact⟨.inr rfl,_,rfl,id,2,.M2 [],t7 r S F true,rfl,⟨rfl,rfl,trivial⟩,rfl,rfl,rfl,rfl,rfl,rfl,rfl,rfl,rfl⟩
      | false =>
       by_cases A:k<S.length
       ·have v:=v A;have a3:=p.facts _<|Ah A;have a4:=V.facts N _<|Ah A;repeat' ((fail_if_success (apply fh 14));(first|refine zs ?_|(refine zm ?_ ?_<;>intro m)|fail))
        all_goals try omega
        refine ag (bk (k':=4) (L':=[(0,.loc 0 0),(1,.i j),(2,.s 1<|(bx c).map aq),(3,.s 1<|(b8 c).map cu),(8,.loc 2 0),(9,.i k),(10,.loc 3 0)]) (H':=(3,zZ S[k])::(2,Vl l)::t7 r S F false) id ⟨rfl,rfl,rfl,rfl,rfl,rfl,rfl,trivial⟩ ⟨rfl,rfl,rfl,rfl,trivial⟩ rfl rfl rfl rfl rfl rfl) ?_;generalize S[k]=x at v a3 a4 ⊢;have c1:(x.args.map aq).length=x.args.length:=Aa _;have c2:(l.D0.map a7).length=l.D0.length:=Aa _;by_cases O:x.N0=l.N0
        ·have c3:=a4 O;repeat' (first|(apply Ua;(iterate 8 exact rfl))|(first|refine zs ?_|(refine zm ?_ ?_<;>intro m)|fail))
         all_goals try omega
         refine ae (ι:=Nat×Bool×RE) (λz=>⟨6,[(0,.loc 0 0),(1,.i j),(2,.s 1<|(bx c).map aq),(3,.s 1<|(b8 c).map cu),(8,.loc 2 0),(9,.i k),(10,.loc 3 0),(11,.row 4),(12,.row 5),(13,.b z.2.1),(14,.i z.1)],(5,.row 4 1<|(b8 z.2.2).map cu)::(4,.row 3 1<|(bx z.2.2).map aq)::(3,zZ x)::(2,Vl l)::t7 r S F false⟩)
          (λz=>z.1<=l.D0.length/\z.2.2.length=c.length/\rn z.2.2/\(z.2.1=true->cv c l.D0 x.args=cv z.2.2 (l.D0.drop z.1) (x.args.drop z.1))/\(z.2.1=false->cv c l.D0 x.args=none)) (λz=>l.D0.length-z.1) (0,true,c) ⟨Ai _,rfl,a1,λ_=>rfl,λh=>by cases h⟩
          (er<|λj=>match j with|4=>5|5=>7|j=>j) ?_
         rintro⟨a,ok,d⟩ ⟨f1,f2,f3,f4,f5⟩;dsimp only at f1 f2 f3 f4 f5 ⊢;have lj:((bx d).map aq).length=c.length:=by rw [Aa,eb,f2]
         have lk:((b8 d).map cu).length=c.length:=by rw [Aa,cw,f2]
         cases ok with
         | false =>
          have f:=f5 rfl;have P:gW o l c x=[]:=by unfold gW;rw [if_pos O,f]
          rw [P,wz _ I] at v;repeat' (first|refine zs ?_|(refine zm ?_ ?_<;>intro m)|omega)
          all_goals exact⟨k+1,A,er id (hH:=(by rw [v];exact⟨rfl,rfl,rfl,trivial⟩)),by omega⟩
         | true =>
          have f:=f4 rfl;by_cases ha:a<l.D0.length
          ·have b3:=V.D0 _<|Ah ha;rw [An ha,An (show a<x.args.length by omega),cv] at f;have c4:=p.pA;have B:a<x.args.length:=by omega
           have b4:=a3 _<|Ah B;by_cases hv:l.D0[a].var<0
           ·have X:T6 d l.D0[a]=some l.D0[a].n:=by unfold T6;rw [if_pos hv]
            rw [X] at f;have f:cv c l.D0 x.args=if l.D0[a].n=x.args[a]'B then cv d (l.D0.drop<|a+1) (x.args.drop<|a+1) else none:=f
            repeat' (first|refine zs ?_|(refine zm ?_ ?_<;>intro m)|omega)
            exact⟨(a+1,decide (l.D0[a].n=x.args[a]'B),d),⟨by dsimp only;omega,f2,f3,λh=>by rw [f,if_pos<|of_decide_eq_true h],λh=>by rw [f,if_neg<|of_decide_eq_false h]⟩,er id,by show l.D0.length-(a+1)<l.D0.length-a;omega⟩
           ·unfold W5 at b3;have C:l.D0[a].var.toNat<d.length:=by omega
            have X:T6 d l.D0[a]=d[l.D0[a].var.toNat]:=by unfold T6;rw [if_neg hv,A4,Ad C];rfl
            have E:(b8 d)[l.D0[a].var.toNat]'(by rw [cw];exact C)=(d[l.D0[a].var.toNat]).isSome:=by unfold b8;rw [Dp]
            have Q:(bx d)[l.D0[a].var.toNat]'(by rw [eb];exact C)=(d[l.D0[a].var.toNat]).getD 0:=by unfold bx;rw [Dp]
            rw [X] at f;cases hc:d[l.D0[a].var.toNat] with
            | some z =>
             rw [hc] at f E Q;have f:cv c l.D0 x.args=if z=x.args[a]'B then cv d (l.D0.drop<|a+1) (x.args.drop<|a+1) else none:=f
             have E:(b8 d)[l.D0[a].var.toNat]'(by rw [cw];exact C)=true:=E;have Q:(bx d)[l.D0[a].var.toNat]'(by rw [eb];exact C)=z:=Q;repeat' ((fail_if_success (apply br 21));(first|refine zs ?_|(refine zm ?_ ?_<;>intro m)|fail))
             all_goals try omega
             all_goals try (exfalso;rw [E] at m;cases m;done)
             exact⟨(a+1,decide (z=x.args[a]'B),d),⟨by dsimp only;omega,f2,f3,λh=>by rw [f,if_pos<|of_decide_eq_true h],λh=>by rw [f,if_neg<|of_decide_eq_false h]⟩,er id ⟨rfl,rfl,rfl,rfl,rfl,rfl,rfl,rfl,rfl,by rw [<- Q];rfl,rfl,trivial⟩,by show l.D0.length-(a+1)<l.D0.length-a;omega⟩
            | none =>
             rw [hc] at f E Q;have f:cv c l.D0 x.args=cv (d.set l.D0[a].var.toNat<|some<|x.args[a]'B) (l.D0.drop<|a+1) (x.args.drop<|a+1):=f;have E:(b8 d)[l.D0[a].var.toNat]'(by rw [cw];exact C)=false:=E;repeat' ((fail_if_success (apply br 21));(fail_if_success (apply br 25));(first|refine zs ?_|(refine zm ?_ ?_<;>intro m)|fail))
             all_goals try omega
             all_goals try (exfalso;rw [E] at m;cases m;done)
             have c5:l.D0[a].var.toNat<((bx d).map aq).length/\∀ y∈(bx d).map aq,y.length=1:=⟨by rw [Aa,eb];exact C,λy u=>by obtain⟨z,_,rfl⟩:=List.mem_map.1 u;rfl⟩
             have c6:l.D0[a].var.toNat<((b8 d).map cu).length/\∀ y∈(b8 d).map cu,y.length=1:=⟨by rw [Aa,cw];exact C,λy u=>by obtain⟨z,_,rfl⟩:=List.mem_map.1 u;rfl⟩
             refine zS ?_;have o1:=kG d l.D0[a].var.toNat<|x.args[a]'B;have F:=aH d l.D0[a].var.toNat<|x.args[a]'B;exact⟨(a+1,true,d.set l.D0[a].var.toNat<|some<|x.args[a]'B),⟨by dsimp only;omega,by dsimp only;rw [A6];exact f2,qG f3 (Rv.2 b4),λ_=>f,λh=>by cases h⟩,er id (hH:=⟨by rw [F,Db];rfl,by rw [o1,Db];rfl,rfl,rfl,rfl,rfl,trivial⟩),by show l.D0.length-(a+1)<l.D0.length-a;omega⟩
          ·rw [Ar<|by omega] at f;have f:cv c l.D0 x.args=some d:=f;have P:gW o l c x=o d:=by unfold gW;rw [if_pos O,f]
           rw [P] at v;have wr:=q d F false (by rw [f2];exact p) f3 I;repeat' ((fail_if_success (apply fh 27));(first|refine zs ?_|(refine zm ?_ ?_<;>intro m)|fail))
           all_goals try omega
           refine dm (ck 189 rfl rfl rfl) ?_;refine dm (ck 190 rfl rfl rfl) ?_;(refine aw id (wr) rfl rfl rfl rfl ⟨rfl,rfl,trivial⟩ rfl rfl rfl rfl rfl rfl ?_ ?_)
           ·rintro k2 res H2 ⟨rfl,rfl,rfl⟩;exact⟨rfl,rfl⟩
           rintro k2 res H2 ⟨rfl,rfl,rfl⟩;change DS _ _ _ _ _ _ _ _;refine zS ?_;exact⟨k+1,A,er (λj=>match j with|1=>7|j=>j) (hH:=(by rw [v];exact⟨rfl,rfl,rfl,trivial⟩)),by omega⟩
        ·have P:gW o l c x=[]:=by unfold gW;rw [if_neg O]
         rw [P,wz _ I] at v;repeat' (first|refine zs ?_|(refine zm ?_ ?_<;>intro m)|omega)
         all_goals try (exfalso;exact m O)
         exact⟨k+1,A,er id (hH:=(by rw [v];exact⟨rfl,rfl,rfl,trivial⟩)),by omega⟩
       ·rw [W,Ar (by omega),H9,wz _ I];repeat' (first|refine zs ?_|(refine zm ?_ ?_<;>intro m)|omega)
        all_goals exact⟨.inr rfl,_,rfl,id,2,.M2 [],t7 r S F false,rfl,⟨rfl,rfl,trivial⟩,rfl,rfl,rfl,rfl,rfl,rfl,rfl,rfl,rfl⟩
     ·have u:=SM M N;repeat' (first|refine zr ?_|(refine zm ?_ ?_<;>intro m)|omega)
      exact⟨j+1,⟨by omega,by omega,g3.trans u⟩,er id,by omega⟩
    ·have u:=uQ<|Nat.le_of_not_lt M;have T:j' S r.body c (tw r.body i)=[bx c]:=by rw [g3,u];rfl
     rw [T];have e2:(out.map gk).length=out.length:=Aa _;by_cases b5:out.length=2000
     ·rw [mQ _ b5];repeat' (first|refine zr ?_|(refine zm ?_ ?_<;>intro m)|omega)
      exact⟨.inl rfl,_,rfl,kp id 2 (.M2 []) (t7 r S out true) ⟨rfl,rfl,rfl⟩⟩
     ·rw [sU _<|by omega];repeat' (first|refine zr ?_|(refine zm ?_ ?_<;>intro m)|omega)
      exact⟨.inl rfl,_,rfl,λj=>match j with|1=>2|j=>j,2,.M2 [],t7 r S (out++[bx c]) false,rfl,⟨rfl,by rw [Au];rfl,trivial⟩,rfl,rfl,rfl,rfl,rfl,rfl,rfl,rfl,rfl⟩
def sW (r:O3) (S:List U0) (b:S.length<=4398046511104):∀ (n i:Nat),r.body.length-i=n->i<=r.body.length->KE r S i:=by
 intro n;induction n using Nat.strongRecOn with
 | ind n ih=>exact λi f c=>TO r S b i c λj h d=>ih (r.body.length-j) (by omega) j rfl d
def we (l:List (List Int)):Prop:=l.Pairwise λa b=>dy a b<=0
def uv {a b c:List Int} (h:dy a b<=0) (g:dy b c<=0):dy a c<=0:=by
 by_cases d:dy a b=0
 ·rw [Q9 d];exact g
 ·by_cases f:dy b c=0
  ·rw [<- Q9 f];exact h
  ·have:=xy (l:=a) (m:=b) (n:=c) (by omega) (by omega)
   omega
def nA {a b:List Int} (h:dy a b<=0) (g:dy b a<=0):a=b:=by rw [ms] at g;exact Q9<|by omega
def Zg:∀ {a b:List (List Int)},we a->we b->a.Perm b->a=b
 | [],b,_,_,h=>by rw [List.nil_perm.1 h]
 | x::a,b,i,c,h=>by
  match b,h,c with
  | [],h,_=>simp at h
  | y::b,h,c =>
   obtain⟨j,m⟩:=List.pairwise_cons.1 i;obtain⟨n,o⟩:=List.pairwise_cons.1 c;have p:x=y:=by
    rcases List.mem_cons.1 (h.mem_iff.1 Ac) with d|d
    ·exact d
    ·rcases List.mem_cons.1 (h.mem_iff.2<|Ac (a:=y) (l:=b)) with f|f
     ·exact f.symm
     ·exact nA (j y f)<|n x d
   subst p;rw [Zg m o<|List.perm_cons x |>.1 h]
def xl {a b:List (List Int)} (c:a.Nodup) (hb:b.Nodup) (h:∀ x,x∈a↔x∈b):a.Perm b:=(List.perm_ext_iff_of_nodup c hb).2 h
def UG (o:List (List Int)) (k i:Nat):Prop:=∀ (p q:Nat) (a b:List Int),p<q->q<=i->q≠k->o[p]?=some a->o[q]?=some b->dy a b<=0
def Qn (o:List (List Int)) (k:Nat) (a b:List Int):List (List Int):=(o.set k a).set (k-1) b
def TA {o:List (List Int)} {k:Nat} {a b:List Int} (h:0<k) (f:k<o.length) (p:Nat):(Qn o k a b)[p]?=if p=k-1 then some b else if p=k then some a else o[p]?:=by
 unfold Qn;by_cases c:p=k-1
 ·subst c;rw [if_pos rfl,B8<|by rw [A6];omega]
 ·rw [if_neg c,B5<|Ne.symm c];by_cases d:p=k
  ·subst d;rw [if_pos rfl,B8 f]
  ·rw [if_neg d,B5<|Ne.symm d]
def VJ {o:List (List Int)} {k i:Nat} {a b:List Int} (r:0<k) (s:k<o.length) (z:k<=i) (l:o[k-1]?=some a) (hb:o[k]?=some b) (A:dy b a<0) (h:UG o k i):UG (Qn o k a b) (k-1) i:=by
 intro p q x y u j v c d;rw [TA r s] at c d;rw [if_neg v] at d;by_cases m:q=k
 ·rw [if_pos m,Option.some.injEq] at d;subst d;by_cases f:p=k-1
  ·rw [if_pos f,Option.some.injEq] at c;subst c;omega
  ·rw [if_neg f,if_neg<|by omega] at c;exact h p (k-1) x a (by omega) (by omega) (by omega) c l
 ·rw [if_neg m] at d;by_cases f:p=k-1
  ·rw [if_pos f,Option.some.injEq] at c;subst c;exact h k q b y (by omega) j (by omega) hb d
  ·rw [if_neg f] at c;by_cases n:p=k
   ·rw [if_pos n,Option.some.injEq] at c;subst c;exact h (k-1) q a y (by omega) j (by omega) l d
   ·rw [if_neg n] at c;exact h p q x y u j (by omega) c d
def EI {o:List (List Int)} {k:Nat} {a b:List Int} (l:0<k) (c:o[k-1]?=some a) (hb:o[k]?=some b):(Qn o k a b).Perm o:=by
 obtain⟨k,rfl⟩:∃ j,k=j+1:=⟨k-1,by omega⟩;simp only [E5] at c;obtain⟨m,n⟩:=List.getElem?_eq_some_iff.1 c;obtain⟨d,q⟩:=List.getElem?_eq_some_iff.1 hb;have r:o=o.take k++a::b::o.drop (k+2):=by
  rw [<- n,<- q,<- An d,<- An m,Dl]
 have s:Qn o (k+1) a b=o.take k++b::a::o.drop (k+2):=by
  apply Ce;intro p;rw [TA l d];have f:(o.take k).length=k:=by rw [Ap];omega
  rcases Hv p k with h|h|h
  ·rw [if_neg (by omega),if_neg (by omega),List.getElem?_append_left (by omega),List.getElem?_take_of_lt h]
  ·subst h;rw [if_pos (by omega),A7 (by omega),f,Nat.sub_self];rfl
  ·rw [if_neg (by omega),A7 (by omega),f];by_cases i:p=k+1
   ·subst i;rw [if_pos rfl,show k+1-k=1 by omega];rfl
   ·rw [if_neg i,show p-k=(p-(k+2))+2 by omega];simp only [List.getElem?_cons_succ,List.getElem?_drop];congr 1;omega
 rw [s];conv=>rhs;rw [r]
 exact List.Perm.append_left _<|List.Perm.swap _ _ _
def Sw {o:List (List Int)} {k i:Nat} (h:UG o k i) (d:k=0∨∃ a b,0<k/\o[k-1]?=some a/\o[k]?=some b/\¬ dy b a<0):∀ (p q:Nat) (a b:List Int),p<q->q<=i->o[p]?=some a->o[q]?=some b->dy a b<=0:=by
 intro p q x y n r c f;by_cases j:q=k
 ·subst j;rcases d with d|⟨a,b,d,l,s,v⟩
  ·omega
  ·rw [s,Option.some.injEq] at f;subst f;have m:dy a b<=0:=by rw [ms];omega
   by_cases u:p=q-1
   ·subst u;rw [l,Option.some.injEq] at c;subst c;exact m
   ·exact uv (h p (q-1) x a (by omega) (by omega) (by omega) c l) m
 ·exact h p q x y n r j c f
def zw (o:List (List Int)) (i:Nat):Prop:=∀ (p q:Nat) (a b:List Int),p<q->q<i->o[p]?=some a->o[q]?=some b->dy a b<=0
def TC {o:List (List Int)} {i:Nat} (h:zw o i):UG o i i:=λp q a b c d f=>h p q a b c<|by omega
def UC {o:List (List Int)} (h:zw o o.length):we o:=by unfold we;rw [List.pairwise_iff_getElem];intro i j c b d;exact h i j _ _ d b (Ad c)<|Ad b
def gm (b:List Int) (x:U0):Int:=
 if L5 x.N0 0 ((b.length:Int)-1)=false then 5
 else if (x.args.length:Int)≠b.getD x.N0.toNat 0 then 1
 else if x.args.any (λn=>!Q3 n) then 3
 else 0
structure K5 (F0:List Int) (x:U0):Prop where
 N0:0<=x.N0/\x.N0<F0.length
 len:(x.args.length:Int)=F0.getD x.N0.toNat 0
 pA:∀ n∈x.args,-1000000<=n/\n<=1000000
def pD {n:Int} (h:Q3 n=true):-1000000<=n/\n<=1000000:=by unfold Q3 L5 at h;simpa using h
def Tx {b:List Int} {x:U0} (h:gm b x=0):K5 b x:=by
 unfold gm at h;split at h;· cases h
 rename_i c;split at h;· cases h
 rename_i f;split at h;· cases h
 rename_i i;refine⟨by unfold L5 at c;simp at c;omega,by simpa using f,λn j=>?_⟩
 have d:x.args.any (λn=>!Q3 n)=false:=by simpa using i
 rw [List.any_eq_false] at d;have:=d n j
 exact pD<|by simpa using this
def jk {α:Type} {f:α->Int}:∀ {l:List α},bp f l=0->∀ x∈l,f x=0
 | [],_,_,h=>by simp at h
 | y::l,h,x,b=>by
  unfold bp at h
  split at h
  ·rename_i c;exact absurd h c
  ·rename_i c
   rcases List.mem_cons.1 b with rfl|b
   ·exact Bo c
   ·exact jk h x b
def Np {f:Nat->Int}:∀ {k i:Nat},k7 f i k=0->∀ j,i<=j->j<i+k->f j=0
 | 0,_,_,j,c,d=>by omega
 | k+1,i,h,j,c,d=>by
  unfold k7 at h
  split at h
  ·rename_i b;exact absurd h b
  ·rename_i b
   by_cases l:j=i
   ·subst l;exact Bo b
   ·exact Np h j (by omega) (by omega)
def Qe {b:Int} {t:I6} (h:yz b t=0):t.var<b/\-1<=t.var/\(-1000000<=t.n/\t.n<=1000000):=by
 unfold yz at h;split at h;· cases h
 rename_i d;split at h;· cases h
 rename_i f;have c:L5 t.var (-1) (b-1)=true:=by simpa using d
 have i:Q3 t.n=true:=by
  cases j:Q3 t.n with
  | true=>rfl
  | false=>exact absurd (.inl j) f
 unfold L5 at c;simp at c;exact⟨by omega,by omega,pD i⟩
structure HE (F0:List Int) (r:O3):Prop where
 N0:0<=r.N0/\r.N0<F0.length
 Jd:(r.D0.length:Int)=F0.getD r.N0.toNat 0
 vars:0<=r.vars/\r.vars<=8
 D0:∀ t∈r.D0,t.var<r.vars/\-1<=t.var/\(-1000000<=t.n/\t.n<=1000000)
 T0:0<=r.T0/\r.T0<=4
 Km:r.T0≠0->0<r.D0.length/\0<r.body.length
 body:r.body.length<=4
 lits:∀ l∈r.body,nf F0 r.vars l=0
 safe:uc r=true
def IF {b:List Int} {r:O3} (h:pu b r=0):HE b r:=by
 unfold pu at h;split at h;· cases h
 rename_i m;split at h;· cases h
 rename_i n;split at h;· cases h
 rename_i o;split at h
 ·rename_i c;exact absurd h c
 rename_i c;split at h;· cases h
 rename_i p;split at h;· cases h
 rename_i q;split at h;· cases h
 rename_i B;split at h
 ·rename_i d;exact absurd h d
 rename_i d;split at h;· cases h
 rename_i s;have f:L5 r.N0 0 ((b.length:Int)-1)=true:=by simpa using m
 have i:L5 r.vars 0 8=true:=by simpa using o
 have j:L5 r.T0 0 4=true:=by simpa using p
 unfold L5 at f i j;simp at f i j;refine⟨by omega,by simpa using n,by omega,λt u=>?_,by omega,λv=>?_,by omega,λl z=>?_,by simpa using s⟩
 ·have:bp (yz r.vars) r.D0=0:=by unfold p8 at c;simpa using c
  exact Qe<|jk this t u
 ·have:¬ (r.D0.length=0∨r.body.length=0):=λA=>q ⟨v,A⟩
  omega
 ·have:bp (nf b r.vars) r.body=0:=by simpa using d
  exact jk this l z
def rJ {d:ByteArray->Bool} {p:R3} (h:dn d p=0):(∀ r∈p.M0,HE p.F0 r)/\(∀ i,0<=p.F0.getD i 0/\p.F0.getD i 0<=3)/\p.F0.length<=10/\p.M0.length<=12:=by
 unfold dn at h;split at h;· cases h
 rename_i m;split at h;· cases h
 rename_i n;split at h
 ·rename_i b;exact absurd h b
 rename_i b;refine⟨λr f=>IF (jk h r f),λi=>?_,by omega,by omega⟩
 by_cases o:i<p.Z0.length
 ·have j:k7 (s0 d p) 0 p.Z0.length=0:=by simpa using b
  have:=Np j i (Ai _)<|by omega
  unfold s0 at this;split at this;· cases this
  rename_i l;have c:L5 (p.F0.getD i 0) 0 3=true:=by simpa using l
  unfold L5 at c;simp only [Bool.and_eq_true,decide_eq_true_eq] at c;exact c
 ·rw [A4,Be<|by omega];exact⟨by simp,by simp⟩
def yc {c:List Int} {j:Int} {l:T2} (h:nf c j l=0):(1<=l.R0/\l.R0<=4)/\jX l.R0 l.op=true/\((l.R0=1∨l.R0=2)->(0<=l.N0/\l.N0<c.length)/\(l.D0.length:Int)=c.getD l.N0.toNat 0)/\(¬ (l.R0=1∨l.R0=2)->l.N0=0/\(l.D0.length:Int)=l.R0-1)/\∀ t∈l.D0,t.var<j/\-1<=t.var/\(-1000000<=t.n/\t.n<=1000000):=by
 unfold nf at h;split at h;· cases h
 rename_i q;split at h;· cases h
 rename_i r;have m:L5 l.R0 1 4=true:=by simpa using q
 unfold L5 at m;simp at m;have o:jX l.R0 l.op=true:=by simpa using r
 split at h
 ·rename_i f;split at h;· cases h
  rename_i d;split at h;· cases h
  rename_i s;have p:L5 l.N0 0 ((c.length:Int)-1)=true:=by simpa using d
  unfold L5 at p;simp at p;exact⟨by omega,o,λ_=>⟨by omega,by simpa using s⟩,λu=>absurd f u,λt i=>Qe<|jk h t i⟩
 ·rename_i f;split at h;· cases h
  rename_i d;refine⟨by omega,o,λb=>absurd b f,λ_=>?_,λt i=>Qe<|jk h t i⟩
  exact⟨Bo λb=>d (.inl b),Bo λb=>d<|.inr b⟩
def YV {d:List Int} {b:Int} {l:T2} {S:List U0} (h:nf d b l=0) (s:0<=b) (i:∀ x∈S,K5 d x):Qv S b.toNat l:=by
 obtain⟨j,u,m,f,n⟩:=yc h;refine⟨j,λt o=>?_,λc=>?_,λc=>?_,λc x p q=>?_⟩
 ·have:=n t o;unfold W5;omega
 ·have:=f (by omega);omega
 ·have:=f (by omega);omega
 ·have v:=(m<|.inl c).2;have r:=(i x p).len;rw [q] at r;omega
def qN {bs cs:List Bool} {t:I6} (h:O7 bs cs) (c:S5 cs t=true):O7 (kj bs t) cs:=by
 refine⟨(z8 bs t).trans h.1,λi b=>?_⟩
 unfold kj at b;split at b
 ·exact h.2 i b
 ·rename_i f;by_cases d:t.var.toNat=i
  ·subst d;unfold S5 at c;rw [decide_eq_false f,Bool.false_or] at c;exact c
  ·rw [A4,B5 d,<- A4] at b;exact h.2 i b
def Pt {cs:List Bool}:∀ {l:List I6} {bs:List Bool},O7 bs cs->(∀ t∈l,S5 cs t=true)->O7 (l.foldl kj bs) cs
 | [],_,h,_=>h
 | t::l,_,h,b=>Pt (l:=l) (qN h<|b t<|Ac ..) λx c=>b x<|Ak _ c
def jQ {body:List T2} {bs cs:List Bool} {l:T2} (b:l∈body) (h:O7 bs cs) (hc:Xc body cs):O7 (nr bs l) cs:=by
 unfold nr;split
 ·rename_i c;exact Pt h<|hc l b<|yk h c
 ·exact h
def Wp {body:List T2} {cs:List Bool} (hc:Xc body cs):∀ (b:List T2) {bs:List Bool},(∀ l∈b,l∈body)->O7 bs cs->O7 (jq b bs) cs
 | [],_,_,h=>h
 | l::b,_,c,h=>Wp hc b (λx d=>c x (Ak _ d)) (jQ (c l (Ac ..)) h hc)
def Qz {body:List T2} {cs:List Bool} (hc:Xc body cs):∀ (n:Nat) {bs:List Bool},O7 bs cs->O7 (gz body n bs) cs
 | 0,_,h=>h
 | n+1,_,h=>Qz hc n (Wp hc body (λ_ b=>b) h)
def oV {r:O3} (h:uc r=true):Bd r.body (Aq r.vars.toNat false):=by
 intro i b d v f;refine (Qz d (r.body.length+1) b).2 v ?_;unfold uc yt at h;rw [List.all_eq_true] at h;have c:v<(gz r.body (r.body.length+1)<|Aq r.vars.toNat false).length:=by rw [wy,b.1];exact f
 rw [A4,Ad c];exact h _<|Ah c
abbrev e0 (v:Nat):RE:=Aq v none
def Lr (v:Nat):b8 (e0 v)=Aq v false:=by unfold b8 e0;rw [D2];rfl
def OL (v:Nat):bx (e0 v)=Aq v 0:=by unfold bx e0;rw [D2];rfl
def k8 (body:List T2):List T2:=body.filter λl=>decide (l.R0=1)
def oc {S:List U0} {v:Nat} {body:List T2} (f:S.Nodup) (n:∀ l∈body,Qv S v l) (o:Bd body (Aq v false)) :
  (js S body.length body (e0 v)).Perm (ek S body (k8 body) (e0 v))/\(ek S body (k8 body) (e0 v)).Nodup/\(∀ a,a∈ek S body (k8 body) (e0 v)↔a.length=v/\∀ l∈body,K3 S l a=true):=by
 have i:(e0 v).length=v:=List.length_replicate;have c:∀ l∈body,Qv S (e0 v).length l:=λl h=>by rw [i];exact n l h
 have d:Bd body (b8<|e0 v):=by rw [Lr];exact o
 obtain⟨j,m⟩:=Fx S f body (k8 body) (e0 v) (λl h=>⟨(List.mem_filter.1 h).1,of_decide_eq_true (List.mem_filter.1 h).2⟩) c d<|λl h p=>.inl<|List.mem_filter.2 ⟨h,decide_eq_true p⟩;have q:=Mm S body.length body (e0 v) (Af _) c d;have r:=Pp S f body.length body (e0 v) (Af _) c d;refine⟨xl r m λa=>(q a).trans (j a).symm,m,λa=>(j a).trans<|and_congr_left λ_=>?_⟩
 unfold mg;rw [i];refine⟨λh=>h.1,λh=>⟨h,λu x b=>?_⟩⟩
 unfold e0 at b;rw [List.getElem?_replicate] at b;split at b<;>simp at b
def ua (S:List U0) (v:Nat) (body:List T2):List (List Int):=(ek S body (k8 body)<|e0 v).mergeSort λa b=>decide (dy a b<=0)
def kh (S:List U0) (v:Nat) (body:List T2):(ua S v body).Perm (ek S body (k8 body) (e0 v)):=List.mergeSort_perm _ _
def Me (S:List U0) (v:Nat) (body:List T2):we (ua S v body):=by
 have:=List.pairwise_mergeSort (le:=λa b=>decide (dy a b<=0)) (λa b c h g=>decide_eq_true<|uv (of_decide_eq_true h)<|of_decide_eq_true g) (λa b=>by
  rw [Bool.or_eq_true,decide_eq_true_eq,decide_eq_true_eq,ms b a];omega)<|ek S body (k8 body)<|e0 v
 exact this.imp λh=>of_decide_eq_true h
def zn {S:List U0} {v:Nat} {body:List T2} {o:List (List Int)} (h:we o) (b:o.Perm (ek S body (k8 body) (e0 v))):o=ua S v body:=
 Zg h (Me S v body) (b.trans (kh S v body).symm)
def Yd (a:List Int):List D:=[.own Y0.B<|.slice 1<|a.map aq]
def iG (a:List Int):N7 (Yd a) (gk a):=⟨.inl rfl,trivial⟩
abbrev pfB (r:O3) (S:List U0) (o:Nat):HB:=.M1 183 [.i r.N0,.s 2 (r.D0.map a7),.i r.T0,.s 4 (r.body.map bf),.i r.vars,.s 2 (S.map aa),.row 1,.row 2,.i 2000,.row o]
abbrev Nl (r:O3) (S:List U0) (e:RE) (b:List (List Int)):Hp:=[(0,pfB r S 3),(1,.row 3 1 ((bx e).map aq)),(2,.row 4 1 ((b8 e).map cu)),(3,.row 22 1 (b.map Yd))]
def VE (r:O3) (S:List U0) (c:List (List Int)) (e:RE) (t:I6) (l:W5 e.length t) :
  X1 false prog U5 bt 218 [.loc 0 0,rX t] 4 4 (Nl r S e c) (λ_ m H=>m=.M2 [.i (vA (bx e) t),.b (T6 e t).isSome]/\H=Nl r S e c):=by
 refine T8 func218 ?_;intro O p q s;have lo:((bx e).map aq).length=e.length:=by rw [Aa,eb]
 have u:((b8 e).map cu).length=e.length:=by rw [Aa,cw]
 unfold W5 at l;by_cases d:t.var<0
 ·have h:vA (bx e) t=t.n:=by unfold vA;rw [if_pos d]
  have j:(T6 e t).isSome=true:=by unfold T6;rw [if_pos d];rfl
  rw [h,j];repeat' (first|refine zr ?_|(refine zm ?_ ?_<;>intro o)|omega)
  exact⟨.inl rfl,_,rfl,kp id 4 _ (Nl r S e c) ⟨rfl,rfl⟩⟩
 ·have f:t.var.toNat<e.length:=by omega
  have h:vA (bx e) t=(bx e)[t.var.toNat]'(by rw [eb];exact f):=by unfold vA;rw [if_neg d,A4,Ad<|by rw [eb];exact f];rfl
  have j:(T6 e t).isSome=(b8 e)[t.var.toNat]'(by rw [cw];exact f):=by
   unfold T6 b8;rw [if_neg d,A4,Ad f,Dp];rfl
  rw [h,j];repeat' (first|refine zr ?_|(refine zm ?_ ?_<;>intro o)|omega)
  exact⟨.inl rfl,_,rfl,kp id 4 _ (Nl r S e c) ⟨rfl,rfl⟩⟩
def Bk (r:O3) (S:List U0) (c:List (List Int)) (e:RE) (l:List I6) (n:∀ t∈l,W5 e.length t) (u:l.length<=4398046511104) :
  X1 false prog U5 bt 187 [.loc 0 0,.s 2 (l.map a7)] 4 4 (Nl r S e c)
   (λ_ f H=>f=(if l.all (λt=>(T6 e t).isSome) then .M2 [.s 1 ((l.map (vA (bx e))).map aq),.b true] else .M2 [.s 1 [],.b false])/\H=Nl r S e c):=by
 refine T8 func187 ?_;intro O v z A;have o:(l.map a7).length=l.length:=Aa _;repeat' ((fail_if_success (apply jm 2));(first|refine zs ?_|fail))
 refine ag (ce (t:=6) 3 1 rfl) ?_;refine zS ?_;refine ae (ι:=Nat) (λi=>⟨5,[(0,.loc 0 0),(1,.s 2<|l.map a7),(6,.row 4),(11,.s 2<|l.map a7),(12,.i l.length),(13,.i i)],(4,.row 3 1<|((l.take i).map<|vA<|bx e).map aq)::Nl r S e c⟩)
  (λi=>i<=l.length/\(l.take i).all (λt=>(T6 e t).isSome)=true) (λi=>l.length-i) 0 ⟨Ai _,rfl⟩ (er id ⟨rfl,rfl,rfl,rfl,by rw [<- o];rfl,rfl,trivial⟩) ?_
 rintro i ⟨g1,g2⟩;dsimp only at g1 g2 ⊢;by_cases d:i<l.length
 ·have w:=VE r S c e l[i]<|n _<|Ah d;have h:l.take (i+1)=l.take i++[l[i]]:=Am d;repeat' (first|refine zr ?_|(refine zm ?_ ?_<;>intro p)|omega)
  (refine aw id (w) rfl rfl rfl rfl ⟨rfl,rfl,rfl,rfl,trivial⟩ rfl rfl rfl rfl rfl rfl ?_ ?_)
  ·rintro k2 f H2 ⟨rfl,rfl⟩;exact⟨rfl,rfl⟩
  rintro k2 f H2 ⟨rfl,rfl⟩;change DS _ _ _ _ _ _ _ _;cases m:(T6 e l[i]).isSome with
  | false =>
   have q:l.all (λt=>(T6 e t).isSome)=false:=by rw [List.all_eq_false];exact⟨_,Ah d,by rw [m];simp⟩
   rw [q];simp only [B3,if_false];refine zS ?_;all_goals try omega
   refine ag (ff 4 1 rfl) ?_;refine zR ?_;exact⟨.inl rfl,_,rfl,kp id 4 _ (Nl r S e c) ⟨rfl,rfl⟩⟩
  | true =>
   refine zS ?_;all_goals try omega
   exact⟨i+1,⟨d,by rw [h,List.all_append,g2];simp [m]⟩,er (λj=>match j with|4=>6|j=>j) (hH:=⟨by rw [h,Au,Au];rfl,rfl,rfl,rfl,rfl,trivial⟩),by omega⟩
 ·rw [Aj<|by omega] at g2 ⊢;rw [g2,if_pos rfl];repeat' (first|refine zs ?_|(refine zm ?_ ?_<;>intro p)|omega)
  refine ag (ck 4 rfl rfl rfl) ?_;repeat' (apply cr)
  exact⟨.inl rfl,_,rfl,kp id 4 _ (Nl r S e c) ⟨rfl,rfl⟩⟩
def KW (op a b:Int) (l:-1000000<=a/\a<=1000000) (hb:-1000000<=b/\b<=1000000):Fn 188 [.i op,.i a,.i b] (λr=>r=.i (ov op a b)):=by
 refine J2 func188 ?_;intro O m n o;have p:-1000000000000<=a*b/\a*b<=1000000000000:=by
  have h:a.natAbs<=1000000:=by omega
  have j:b.natAbs<=1000000:=by omega
  have q:(a*b).natAbs<=1000000*1000000:=by rw [Int.natAbs_mul];exact Nat.mul_le_mul h j
  omega
 unfold ov;by_cases c:op=5
 ·rw [if_pos c];repeat' (first|refine zr ?_|(refine zm ?_ ?_<;>intro d)|omega)
  all_goals exact⟨.inl rfl,_,rfl,rfl,rfl⟩
 ·rw [if_neg c];by_cases f:op=6
  ·rw [if_pos f];repeat' (first|refine zr ?_|(refine zm ?_ ?_<;>intro d)|omega)
   all_goals exact⟨.inl rfl,_,rfl,rfl,rfl⟩
  ·rw [if_neg f];repeat' (first|refine zr ?_|(refine zm ?_ ?_<;>intro d)|omega)
   exact⟨.inl rfl,_,rfl,rfl,rfl⟩
def TU (op a b:Int):Fn 189 [.i op,.i a,.i b] (λr=>r=.b (Nd op a b)):=by
 refine J2 func189 ?_;intro O j l m;unfold Nd;by_cases d:op=1
 ·rw [if_pos d];repeat' (first|refine zr ?_|(refine zm ?_ ?_<;>intro c)|omega)
  all_goals exact⟨.inl rfl,_,rfl,rfl,rfl⟩
 ·rw [if_neg d];by_cases f:op=2
  ·rw [if_pos f];repeat' (first|refine zr ?_|(refine zm ?_ ?_<;>intro c)|omega)
   all_goals exact⟨.inl rfl,_,rfl,rfl,rfl⟩
  ·rw [if_neg f];by_cases h:op=3
   ·rw [if_pos h];repeat' (first|refine zr ?_|(refine zm ?_ ?_<;>intro c)|omega)
    all_goals exact⟨.inl rfl,_,rfl,rfl,rfl⟩
   ·rw [if_neg h];repeat' (first|refine zr ?_|(refine zm ?_ ?_<;>intro c)|omega)
    exact⟨.inl rfl,_,rfl,rfl,rfl⟩
def iz (e:RE) (vs:List Int):RE:=vs.foldl (λe v=>e.set v.toNat none) e
def QA:∀ (vs:List Int) (e:RE),(iz e vs).length=e.length
 | [],_=>rfl
 | v::vs,e=>by
  show (iz (e.set v.toNat none) vs).length=_
  rw [QA vs,A6]
def PA:∀ (vs:List Int) (e:RE) (v:Nat) (y:Option Int),(∀ u∈vs,u.toNat≠v)->iz (e.set v y) vs=(iz e vs).set v y
 | [],_,_,_,_=>rfl
 | u::vs,e,v,y,h=>by
  show iz ((e.set v y).set u.toNat none) vs=(iz (e.set u.toNat none) vs).set v y
  rw [List.set_comm _ _ (Ne.symm (h u (Ac ..)) ),PA vs _ v y λx b=>h x (Ak _ b)]
def RA:∀ (vs:List Int) (e:RE) (v:Nat),(∀ u∈vs,u.toNat≠v)->(iz e vs)[v]?=e[v]?
 | [],_,_,_=>rfl
 | u::vs,e,v,h=>by
  show (iz (e.set u.toNat none) vs)[v]?=_
  rw [RA vs _ v λx b=>h x (Ak _ b),B5 (h u (Ac ..))]
def xI {e:RE} {vs:List Int} {v:Int} {y:Option Int} (d:e[v.toNat]?=some none) (h:∀ u∈vs,u.toNat≠v.toNat):iz (e.set v.toNat y) (vs++[v])=iz e vs:=by
 have:iz (e.set v.toNat y) (vs++[v])=(iz (e.set v.toNat y) vs).set v.toNat none:=by unfold iz;rw [Ea];rfl
 rw [this,PA vs e _ _ h,List.set_set];have b:=RA vs e v.toNat h;rw [d] at b;apply Ce;intro j;by_cases c:v.toNat=j
 ·subst c;rw [b,B8 (List.getElem?_eq_some_iff.1 b).1]
 ·rw [B5 c]
def wI {e:RE} {vs:List Int} {k:Nat} (b:k<vs.length):iz e (vs.take (k+1))=(iz e (vs.take k)).set vs[k].toNat none:=by unfold iz;rw [Am b,Ea];rfl
def wJ (e:RE) (v:Nat):bx (e.set v none)=(bx e).set v 0:=by unfold bx;rw [Db];rfl
def dK (e:RE) (v:Nat):b8 (e.set v none)=(b8 e).set v false:=by unfold b8;rw [Db];rfl
def UN (e:RE) (v:Nat) (x:Int):bx (e.set v (some x))=(bx e).set v x:=by unfold bx;rw [Db];rfl
def MO (e:RE) (v:Nat) (x:Int):b8 (e.set v (some x))=(b8 e).set v true:=by unfold b8;rw [Db];rfl
abbrev QE (r:O3) (S:List U0) (rest:List T2) (e:RE) (b:List (List Int)):Hp:=[(0,pfB r S 5),(1,.row 3 1 ((bx e).map aq)),(2,.row 4 1 ((b8 e).map cu)),(3,.M1 181 [.loc 0 0]),(4,.M1 85 [.s 4 (rest.map bf)]),(5,.row 22 1 (b.map Yd))]
def pb (w b:List (List Int)):List (List Int):=(b++w).take 2001
def tf (w b:List (List Int)):Bool:=decide (b.length+w.length<=2000)
def vn {b:List (List Int)} (h:b.length<=2000):pb [] b=b:=by unfold pb;rw [Bn,Aj<|by omega]
def vy {b:List (List Int)} (h:b.length<=2000):tf [] b=true:=by unfold tf;simp;omega
def Yv (W:RE->List (List Int)) (o:Option RE):List (List Int):=match o with|some b=>W b|none=>[]
def MF {α:Type} {f:α->List D} {l:List α} {i:Nat} (h:i<l.length) (b:∀ x,(f x).length=1):i<(l.map f).length/\∀ y∈l.map f,y.length=1:=⟨by rw [Aa];exact h,λy c=>by obtain⟨z,_,rfl⟩:=List.mem_map.1 c;exact b z⟩
def EB (r:O3) (S:List U0) (rest:List T2) (n:List (List Int)) (e:RE) (l:List I6) (f:List Int) (W:RE->List (List Int)) (hl:l.length=f.length) (a4:l.length<=1000) (Z:∀ t∈l,W5 e.length t) (P:n.length<=2000)
  (M:∀ e',cv e l f=some e'->X1 false prog U5 bt 185 [.loc 3 0,.loc 4 0] 5 6 (QE r S rest e' n) (λC E H=>C=6/\E=.b (tf (W e') n)/\H=QE r S rest e' (pb (W e') n))) :
  X1 false prog U5 bt 186 [.loc 0 0,.s 2 (l.map a7),.s 1 (f.map aq),.fn 185 [.loc 3 0,.loc 4 0]] 5 6 (QE r S rest e n)
   (λC E H=>C=6/\E=.b (tf (Yv W (cv e l f)) n)/\H=QE r S rest e (pb (Yv W (cv e l f)) n)):=by
 refine T8 func186 ?_;intro a5 w0 E0 K1;have ll:(l.map a7).length=l.length:=Aa _;have ln:(f.map aq).length=f.length:=Aa _;repeat' ((fail_if_success (apply jm 3));(first|refine zs ?_|fail))
 refine ag (ce (t:=9) 3 1 rfl) ?_;refine my (ι:=RE×List Int×Bool) (λx=>⟨7,[(0,.loc 0 0),(3,.fn 185 [.loc 3 0,.loc 4 0]),(9,.row 6),(10,.b x.2.2)],(6,.row 3 1<|x.2.1.map aq)::QE r S rest x.1 n⟩)
  (λx=>x.1.length=e.length/\iz x.1 x.2.1=e/\(∀ u∈x.2.1,0<=u/\∃ y,x.1[u.toNat]?=some (some y))/\(x.2.2=true->cv e l f=some x.1)/\(x.2.2=false->cv e l f=none)/\x.2.1.length<=l.length) ?_ ?_
 ·refine zS ?_;refine ae (ι:=Nat×RE×List Int) (λx=>⟨7,[(0,.loc 0 0),(1,.s 2<|l.map a7),(2,.s 1<|f.map aq),(3,.fn 185 [.loc 3 0,.loc 4 0]),(9,.row 6),(10,.b true),(18,.s 2<|l.map a7),(19,.i l.length),(20,.i x.1)],(6,.row 3 1<|x.2.2.map aq)::QE r S rest x.2.1 n⟩)
   (λx=>x.1<=l.length/\x.2.1.length=e.length/\cv e l f=cv x.2.1 (l.drop x.1) (f.drop x.1)/\iz x.2.1 x.2.2=e/\(∀ u∈x.2.2,0<=u/\∃ y,x.2.1[u.toNat]?=some (some y))/\x.2.2.length<=x.1) (λx=>l.length-x.1) (0,e,[]) ⟨Ai _,rfl,rfl,rfl,λ_ h=>(by simp at h),Af _⟩
   (er id ⟨rfl,rfl,rfl,rfl,rfl,rfl,rfl,by rw [<- ll];rfl,rfl,trivial⟩) ?_
  rintro⟨i,c,d⟩ ⟨Q,v,m,z,o,g6⟩;dsimp only at Q v m z o g6 ⊢;clear M;by_cases A:i<l.length
  ·have N:=Z _<|Ah A;rw [<- v] at N;have w:=VE r S n c l[i] N;have hn:i<f.length:=by omega
   rw [An A,An hn,cv] at m;repeat' (first|refine zs ?_|(refine zm ?_ ?_<;>intro F)|omega)
   refine aw (λj=>match j with|3=>5|j=>j) w rfl rfl rfl rfl ⟨rfl,rfl,rfl,rfl,trivial⟩ rfl rfl rfl rfl rfl rfl ?_ ?_
   ·rintro C E H2 ⟨rfl,rfl⟩;exact⟨rfl,rfl⟩
   rintro C E H2 ⟨rfl,rfl⟩;change DS _ _ _ _ _ _ _ _;clear w;cases p:T6 c l[i] with
   | some x =>
    have hx:vA (bx c) l[i]=x:=cL p;rw [p] at m;simp only at m;rw [hx];by_cases R:x=f[i]
    ·rw [if_pos R] at m;repeat' (first|refine zs ?_|(apply nX;exact rfl)|(refine zm ?_ ?_<;>intro F)|omega)
     exact⟨(i+1,c,d),⟨A,v,m,z,o,by dsimp only;omega⟩,er id,by show l.length-(i+1)<l.length-i;omega⟩
    ·rw [if_neg R] at m;repeat' (first|refine zs ?_|(apply nX;exact rfl)|(refine zm ?_ ?_<;>intro F)|omega)
     exact⟨(c,d,false),⟨v,z,o,(λh=>(nomatch h)),λ_=>m,by dsimp only;omega⟩,er id⟩
   | none =>
    rw [p] at m;simp only at m;have a0:¬ l[i].var<0:=λh=>by unfold T6 at p;rw [if_pos h] at p;cases p
    unfold W5 at N;have B:l[i].var.toNat<c.length:=by omega
    have T:c[l[i].var.toNat]?=some none:=by
     unfold T6 at p;rw [if_neg a0,A4,Ad B] at p;rw [Ad B];simpa using p
    have lo:((bx c).map aq).length=c.length:=by rw [Aa,eb]
    have lh:((b8 c).map cu).length=c.length:=by rw [Aa,cw]
    have a1:l[i].var.toNat<((bx c).map aq).length/\∀ y∈(bx c).map aq,y.length=1:=MF (by rw [eb];exact B) λ_=>rfl
    have a2:l[i].var.toNat<((b8 c).map cu).length/\∀ y∈(b8 c).map cu,y.length=1:=MF (by rw [cw];exact B) λ_=>rfl
    have U:∀ u∈d,u.toNat≠l[i].var.toNat:=λu q he=>by
     obtain⟨_,y,G⟩:=o u q;rw [he,T] at G;cases G
    refine zS ?_;all_goals try omega
    have O:=UN c l[i].var.toNat f[i];have I:=MO c l[i].var.toNat f[i];refine⟨(i+1,c.set l[i].var.toNat (some f[i]),d++[l[i].var]),⟨A,by dsimp only;rw [A6];exact v,m,(xI T U).trans z,λu q=>?_,by dsimp only;rw [Ag,A0];omega⟩,
     er (λj=>match j with|6=>8|j=>j) (hH:=⟨by rw [Au];rfl,rfl,by rw [O,Db];rfl,by rw [I,Db];rfl,rfl,rfl,rfl,trivial⟩),by show l.length-(i+1)<l.length-i;omega⟩
    rcases List.mem_append.1 q with q|q
    ·obtain⟨q1,y,q2⟩:=o u q;exact⟨q1,y,by dsimp only;rw [B5<|Ne.symm<|U u q];exact q2⟩
    ·rw [A1] at q;subst q;exact⟨by omega,f[i],by dsimp only;rw [B8 B]⟩
  ·rw [Ar<|by omega] at m;have m:cv e l f=some c:=m;repeat' (first|refine zs ?_|(refine zm ?_ ?_<;>intro F)|omega)
   exact⟨(c,d,true),⟨v,z,o,λ_=>m,(λh=>(nomatch h)),by dsimp only;omega⟩,er id⟩
 ·rintro⟨c,d,ok⟩ ⟨v,z,o,V,X,g9⟩;dsimp only at v z o V X g9 ⊢;repeat' ((fail_if_success (apply fh 14));fail)
  refine my (ι:=Unit) (λ_=>⟨7,[(0,.loc 0 0),(9,.row 6),(15,.b<|tf (Yv W<|cv e l f) n)],(6,.row 3 1<|d.map aq)::QE r S rest c (pb (Yv W<|cv e l f) n)⟩) (λ_=>True) ?_ ?_
  ·cases ok with
   | false =>
    have J:=X rfl;rw [J,show Yv W none=[] from rfl,vy P,vn P];refine zS ?_;all_goals try omega
    exact⟨(),trivial,er id⟩
   | true =>
    have J:=V rfl;have w:=M c J;rw [J,show Yv W (some c)=W c from rfl];refine zS ?_;all_goals try omega
    (refine m5 id (w) rfl rfl rfl rfl rfl rfl ⟨rfl,rfl,rfl,rfl,rfl,rfl,trivial⟩ rfl rfl rfl rfl rfl rfl ?_ ?_)
    ·rintro C E H2 ⟨rfl,rfl,rfl⟩;exact⟨rfl,rfl⟩
    rintro C E H2 ⟨rfl,rfl,rfl⟩;change DS _ _ _ _ _ _ _ _;refine zS ?_;all_goals try omega
    exact⟨(),trivial,er<|λj=>match j with|5=>12|j=>j⟩
  ·clear M;rintro _ _;generalize tf (Yv W<|cv e l f) n=bb;generalize pb (Yv W<|cv e l f) n=I;have lv:(d.map aq).length=d.length:=Aa _;refine zS ?_;all_goals try omega
   refine ae (ι:=Nat) (λi=>⟨7,[(0,.loc 0 0),(9,.row 6),(15,.b bb),(76,.row 6),(77,.i d.length),(78,.i i)],(6,.row 3 1<|d.map aq)::QE r S rest (iz c<|d.take i) I⟩)
    (λi=>i<=d.length) (λi=>d.length-i) 0 (Ai _) (er id ⟨rfl,rfl,rfl,rfl,by rw [<- lv];rfl,rfl,trivial⟩) ?_
   intro i Q;by_cases A:i<d.length
   ·obtain⟨h0,y,G⟩:=o _<|Ah A;have B:d[i].toNat<(iz c<|d.take i).length:=by rw [QA];exact (List.getElem?_eq_some_iff.1 G).1
    have Y:=wI (e:=c) A;have O:=wJ (iz c<|d.take i) d[i].toNat;have a3:=dK (iz c<|d.take i) d[i].toNat;have lo:((bx<|iz c<|d.take i).map aq).length=(iz c<|d.take i).length:=by rw [Aa,eb]
    have lh:((b8<|iz c<|d.take i).map cu).length=(iz c<|d.take i).length:=by rw [Aa,cw]
    have a1:d[i].toNat<((bx<|iz c<|d.take i).map aq).length/\∀ y∈(bx<|iz c<|d.take i).map aq,y.length=1:=MF (by rw [eb];exact B) λ_=>rfl
    have a2:d[i].toNat<((b8<|iz c<|d.take i).map cu).length/\∀ y∈(b8<|iz c<|d.take i).map cu,y.length=1:=MF (by rw [cw];exact B) λ_=>rfl
    repeat' (first|refine zr ?_|(refine zm ?_ ?_<;>intro F)|omega)
    exact⟨i+1,A,er id (hH:=⟨rfl,rfl,by rw [Y,O,Db];rfl,by rw [Y,a3,Db];rfl,rfl,rfl,rfl,trivial⟩),by omega⟩
   ·rw [Aj (by omega),z];repeat' (first|refine zr ?_|(refine zm ?_ ?_<;>intro F)|omega)
    exact⟨.inl rfl,_,rfl,kp id 6 _ (QE r S rest e I) ⟨rfl,rfl,rfl⟩⟩
def r8 {α:Type} {b:List (List α)} {i:Nat} (hi:i<b.length):((b.take (i+1)).map B0).sum=((b.take i).map B0).sum+b[i].length:=by rw [Am hi,Au,Fp];rfl
def Sb {α:Type} (b:List (List α)) (i:Nat):((b.take i).map B0).sum<=(b.map B0).sum:=by
 have h:(b.map B0).sum=((b.take i).map B0).sum+((b.drop i).map B0).sum:=by rw [<- Fp,<- Au,Dl]
 omega
def iK (n:Nat) (c:n<=1000000):X1 false prog U5 bt 217 [.Q1,.i n] 0 0 [] (λ_ r H=>r=.row 0/\H=[(0,.row 156 4 [])]):=by
 refine T8 func217 ?_;intro O d f h;by_cases b:n=0
 ·subst b;refine zS ?_;all_goals try omega
  refine iv (fc rfl rfl) rfl rfl ?_;refine zS ?_;all_goals try omega
  refine ag (ce (t:=4) 156 4 rfl) ?_;repeat' (apply cr)
  exact⟨.inl rfl,_,rfl,kp id 1 (.row 0) ([(0,.row 156 4 [])]) ⟨rfl,rfl⟩⟩
 ·refine zS ?_;all_goals try omega
  refine iv (fc rfl rfl) rfl rfl ?_;repeat' (first|refine zr ?_|(refine zm ?_ ?_<;>intro l)|omega)
  refine iv (fc rfl rfl) rfl rfl ?_;repeat' refine z0 ?_
  all_goals try omega
  refine Tr (n:=n) (es:=4) (te:=156) [.int .i64 0,.int .i64 0,.int .i64 0,.slice 2 []] rfl rfl (by omega) rfl rfl rfl rfl ⟨.inl rfl,.inl rfl,.inl rfl,.inr ⟨rfl,2,rfl⟩,trivial⟩ rfl rfl (by omega) (by omega) ?_ (by unfold maxLen;omega) rfl rfl ?_
  ·show n*48<=_;omega
  refine zS ?_;all_goals try omega
  refine ag (Qc (n:=0) 4 rfl rfl (Ai _) rfl) ?_;repeat' (apply cr)
  exact⟨.inl rfl,_,rfl,kp (λj=>match j with|0=>1|j=>j) 1 (.row 0) ([(0,.row 156 4 [])]) ⟨rfl,rfl⟩⟩
def wE (b:List (List (T2))) (h:(b.map B0).sum<=1000000) (u:b.length<=1000000):Fn 184 [.s 1 (b.map λl=>[.slice 4 (l.map bf)])] (λr=>r=.s 4 (b.flatten.map bf)):=by
 refine J2 func184 ?_;intro O v A B;have j:(b.map λl=>[D.slice 4<|l.map bf]).length=b.length:=Aa _;refine zS ?_;refine ae (ι:=Nat) (λi=>⟨0,[(0,.s 1<|b.map λl=>[.slice 4<|l.map bf]),(3,.i (((b.take i).map B0).sum:Nat)),(9,.s 1<|b.map λl=>[.slice 4<|l.map bf]),(10,.i b.length),(11,.i i)],[]⟩)
  (λi=>i<=b.length) (λi=>b.length-i) 0 (Ai _) (er id ⟨rfl,rfl,rfl,by rw [<- j];rfl,rfl,trivial⟩) ?_
 intro i m;by_cases c:i<b.length
 ·have n:=r8 c;have p:=Sb b<|i+1;have o:(b[i].map bf).length=b[i].length:=Aa _;repeat' (first|refine zs ?_|(refine zm ?_ ?_<;>intro f)|omega)
  exact⟨i+1,by omega,er id ⟨rfl,congrArg (λz=>SV.d<|.int .i64 z) (by rw [n,o];omega),rfl,rfl,rfl,trivial⟩,by omega⟩
 ·rw [Aj<|by omega];repeat' (first|refine zs ?_|(refine zm ?_ ?_<;>intro f)|omega)
  refine aw id (iK (b.map B0).sum h) rfl rfl rfl rfl trivial rfl rfl rfl rfl rfl rfl ?_ ?_
  ·rintro k2 r H2 ⟨rfl,rfl⟩;exact⟨rfl,rfl⟩
  rintro k2 r H2 ⟨rfl,rfl⟩;change DS _ _ _ _ _ _ _ _;refine zS ?_;refine ae (ι:=Nat) (λi=>⟨1,[(6,.row 0),(25,.s 1<|b.map λl=>[.slice 4<|l.map bf]),(26,.i b.length),(27,.i i)],[(0,.row 156 4<|(b.take i).flatten.map bf)]⟩)
   (λi=>i<=b.length) (λi=>b.length-i) 0 (Ai _) (er id ⟨rfl,rfl,by rw [<- j];rfl,rfl,trivial⟩) ?_
  clear c m;intro i m;by_cases c:i<b.length
  ·have n:=r8 c;have p:=Sb b<|i+1;have o:(b[i].map bf).length=b[i].length:=Aa _;have C:((b.take i).flatten.map bf).length=((b.take i).map B0).sum:=by rw [Aa,List.length_flatten]
   have q:(b.take<|i+1).flatten=(b.take i).flatten++b[i]:=by rw [Am c,List.flatten_append];simp
   repeat' (first|refine zr ?_|(refine zm ?_ ?_<;>intro f)|omega)
   exact⟨i+1,by omega,er (λ_=>1) (hH:=⟨by rw [q,Au];rfl,trivial⟩),by omega⟩
  ·rw [Aj<|by omega];repeat' (first|refine zs ?_|(refine zm ?_ ?_<;>intro f)|omega)
   refine ag (ck 2 rfl rfl rfl) ?_;repeat' (apply cr)
   exact⟨.inl rfl,_,rfl,rfl,rfl⟩
def VG {f:FuncId} {caps:List SV} (p:T2->Bool) (l:List (T2)) (m:SV.U1 0 caps=true) (o:∀ x∈l,Fn f (bC x::caps) (λr=>r=.b (p x))):Fn 215 [.s 4 (l.map bf),.fn f caps] (λr=>r=.i (mv p l)):=by
 refine J2 func215 ?_;intro O u v z;refine cm (t:=0) rfl λc=>?_
 refine zS ?_;refine ae (ι:=Nat) (λi=>⟨0,[(0,.s 4<|l.map bf),(1,.fn f caps),(7,.i l.length),(8,.i i)],[]⟩)
  (λi=>i<=l.length/\∀ j (n:j<l.length),j<i->p l[j]=false) (λi=>l.length-i) 0 ⟨Ai _,λj _ h=>absurd h<|A2 j⟩
  (bk id ⟨rfl,congrArg (SV.fn f) (SV.O4 caps).symm,by simp;rfl,rfl,trivial⟩ trivial (by simp [Sl.low,SV.low,m]) rfl rfl rfl rfl rfl) ?_
 rintro i ⟨h1,h2⟩;refine zS ?_;refine a6 rfl (λh=>?_)<|λh=>?_
 ·have d:i<l.length:=by omega
  have q:=o l[i]<|Ah d;repeat' (first|refine zs ?_|(apply mi;(iterate 4 exact rfl);apply q;exact rfl;(assumption);exact rfl;rintro _ rfl))
  refine ee rfl (λc=>?_)<|λc=>?_
  ·refine zR ?_;exact bh rfl (kr h2 d c).symm
  ·refine zS ?_;exact⟨i+1,⟨d,ja h2 d c⟩,bk id ⟨rfl,congrArg (SV.fn f) (SV.O4 caps).symm,rfl,rfl,trivial⟩ trivial (by simp [Sl.low,SV.low,m]) rfl rfl rfl rfl rfl,by omega⟩
 ·refine zR ?_;exact bh rfl (j7 λj n=>h2 j n<|by omega).symm
def eS (l:T2):Fn 216 [bC l] (λr=>r=.b (decide (l.R0=1))):=by refine J2 func216 ?_;intro O c d f;refine zR ?_;exact⟨.inl rfl,_,rfl,rfl,rfl⟩
def JD {α:Type} {p:α->Bool} {l:List α} (h:l.findIdx p<l.length):mv p l=(l.findIdx p:Nat):=
 kr (λj _ b=>by have:=Gp b;simpa using this) h D8
def Rx {α:Type} {p:α->Bool} {l:List α} {i:Nat} (hi:i<l.length) (h:∀ j (_:j<l.length),j<i->p l[j]=false) (d:p l[i]=true):l.findIdx p=i:=by
 rcases Hv (l.findIdx p) i with b|b|b
 ·have f:=h _ (by omega) b;have c:=D8 (xs:=l) (p:=p) (w:=by omega);rw [f] at c;cases c
 ·exact b
 ·have:=Gp b;rw [d] at this;simp at this
def kK {α:Type} {p:α->Bool} {l:List α} (h:∀ j (_:j<l.length),p l[j]=false):¬ l.findIdx p<l.length:=λb=>by
 have c:=D8 (xs:=l) (p:=p) (w:=b)
 rw [h _ b] at c;cases c
def eO (l:T2):(rp l).length<=l.D0.length:=by
 unfold rp;split
 ·rw [Ap];omega
 ·exact Af _
def NV (r:O3) (S:List U0) (c:List (List Int)) (e:RE) (left:List T2) (G:∀ l∈left,Qv S e.length l) (P:left.length<=1000000) (B:gc e left<left.length) (I:∀ l∈left,l.D0.length<=3) :
  X1 false prog U5 bt 183 [.loc 0 0,.s 4 (left.map bf)] 4 4 (Nl r S e c) (λ_ n H=>n=.i (gc e left:Nat)/\H=Nl r S e c):=by
 refine T8 func183 ?_;intro O Q R T;have J:(left.map bf).length=left.length:=Aa _;refine zS ?_;refine ae (ι:=Nat) (λi=>⟨4,[(0,.loc 0 0),(1,.s 4<|left.map bf),(10,.s 4<|left.map bf),(11,.i left.length),(12,.i i)],Nl r S e c⟩)
  (λi=>i<=left.length/\∀ j (_:j<left.length),j<i->xq e left[j]=false) (λi=>left.length-i) 0 ⟨Ai _,λ_ _ h=>by omega⟩ (er id ⟨rfl,rfl,rfl,by rw [<- J];rfl,rfl,trivial⟩) ?_
 rintro i ⟨g1,g2⟩;dsimp only at g1 g2 ⊢;by_cases d:i<left.length
 ·have C:=Ah d;have E:=G _ C;have U:=I _ C;have w:=Bk r S c e (rp left[i]) (λt q=>E.D0 t<|by unfold rp at q;split at q;exact Bz q;exact q) (by have:=eO left[i];omega);have m:xq e left[i]=(rp left[i]).all λt=>(T6 e t).isSome:=rfl
  by_cases u:left[i].R0=4
  ·have V:=E.Mj u;have W:(left[i].D0.map a7).length=left[i].D0.length:=Aa _;have v:rp left[i]=left[i].D0.take 2:=by unfold rp;rw [if_pos u]
   rw [v] at w m;repeat' (first|(apply qp;(iterate 6 exact rfl);(refine⟨?_,?_,?_⟩<;>(omega));((with_reducible apply pm);(exact ez _));exact rfl;exact rfl)|refine zs ?_|(refine zm ?_ ?_<;>intro F)|omega)
   (refine aw id (w) rfl rfl rfl rfl ⟨rfl,rfl,rfl,rfl,trivial⟩ rfl rfl rfl rfl rfl rfl ?_ ?_)
   ·rintro k2 n H2 ⟨rfl,rfl⟩;split<;>exact⟨rfl,rfl⟩
   rintro k2 n H2 ⟨rfl,rfl⟩;clear w;cases b:xq e left[i] with
   | false =>
    rw [<- m,b,if_neg<|by simp];change DS _ _ _ _ _ _ _ _;refine zS ?_;all_goals try omega
    exact⟨i+1,⟨d,λj o M=>by
     by_cases z:j=i
     ·subst z;exact b
     ·exact g2 j o<|by omega⟩,er id,by omega⟩
   | true =>
    have A:left.findIdx (xq e)=i:=Rx d g2 b;have p:gc e left=i:=by unfold gc;rw [A,if_pos d]
    rw [<- m,b,if_pos rfl,p];change DS _ _ _ _ _ _ _ _;refine zR ?_;all_goals try omega
    exact⟨.inl rfl,_,rfl,kp id 4 _ (Nl r S e c) ⟨rfl,rfl⟩⟩
  ·have v:rp left[i]=left[i].D0:=by unfold rp;rw [if_neg u]
   rw [v] at w m;repeat' (first|(apply qp;(iterate 6 exact rfl);(refine⟨?_,?_,?_⟩<;>(omega));((with_reducible apply pm);(exact ez _));exact rfl;exact rfl)|refine zs ?_|(refine zm ?_ ?_<;>intro F)|omega)
   (refine aw id (w) rfl rfl rfl rfl ⟨rfl,rfl,rfl,rfl,trivial⟩ rfl rfl rfl rfl rfl rfl ?_ ?_)
   ·rintro k2 n H2 ⟨rfl,rfl⟩;split<;>exact⟨rfl,rfl⟩
   rintro k2 n H2 ⟨rfl,rfl⟩;clear w;cases b:xq e left[i] with
   | false =>
    rw [<- m,b,if_neg<|by simp];change DS _ _ _ _ _ _ _ _;refine zS ?_;all_goals try omega
    exact⟨i+1,⟨d,λj o M=>by
     by_cases z:j=i
     ·subst z;exact b
     ·exact g2 j o<|by omega⟩,er id,by omega⟩
   | true =>
    have A:left.findIdx (xq e)=i:=Rx d g2 b;have p:gc e left=i:=by unfold gc;rw [A,if_pos d]
    rw [<- m,b,if_pos rfl,p];change DS _ _ _ _ _ _ _ _;refine zR ?_;all_goals try omega
    exact⟨.inl rfl,_,rfl,kp id 4 _ (Nl r S e c) ⟨rfl,rfl⟩⟩
 ·have N:¬ left.findIdx (xq e)<left.length:=kK λj o=>g2 j o (by omega)
  have p:gc e left=left.findIdx λl=>decide (l.R0=1):=by unfold gc;rw [if_neg N]
  rw [p] at B ⊢;have w:=VG (caps:=[]) (f:=216) (λl=>decide (l.R0=1)) left rfl<|λx _=>eS x;rw [JD B] at w;repeat' (first|(apply qp;(iterate 6 exact rfl);(refine⟨?_,?_,?_⟩<;>(omega));((with_reducible apply pm);(exact ez _));exact rfl;exact rfl)|refine zr ?_|refine z21 ?_ w|(refine zm ?_ ?_<;>intro F)|omega)
  exact⟨.inl rfl,_,rfl,kp id 4 _ (Nl r S e c) ⟨rfl,rfl⟩⟩
end
section
open Go Go.RowKit
variable [Y0]
section
variable {Γ : Ctx} {k : Nat -> Prop} {L : Sl} {H : Hp} {a : Act} {w : World} {e : Env} {t t' ty : TypeId} {x y : Operand}
def Ov [P7 Γ] {d z:Nat} {te t2 tb:TypeId} {i j es:Nat} {xs ys:List (List D)}
  (N:¬ k z) (Y:Γ.sh t=.slice te) (Z:(Γ.sh te).known=true) (a0:Γ.cells te=es) (a1:Av 0 es=true) (hz:Nat.beq (ai Γ.τ te).zero.length (Γ.cells te)=true)
  (G:aj L x=.row i) (hH:Hp.get H i=some (.row te es xs)) (hy:aj L y=.row j) (a2:Hp.get H j=some (.row tb es ys)) (hd:Av d Γ.n=true)
  (a3:(xs.length+ys.length)*(ai Γ.τ te).bytes<=140737488355328) (a4:xs.length+ys.length<=maxLen) :
  P6 Γ ⟨some d,.call { callee:=.builtin .append,args:=#[x,y],argTypes:=#[t,t] },t2,pos,af,g⟩ k L H (oa k z) ((d,.row z)::L) ((z,.row te es (xs++ys))::Hp.del H i):=by
 intro e a w e3 m;have a5:¬ e.U4 z:=λh=>N<|(m.top z).1 h
 obtain⟨B,zv,O,a9,Q,C,b0⟩:=Ctx.info<|Sh.Y1 Z;have R:=Ctx.slice Y;obtain⟨_,b1,_⟩:=Q5 m G (nz · _);obtain⟨_,S,_⟩:=Q5 m hy (nz · _);obtain⟨I,r,b2,b3,b4⟩:=(m.heap _<|Hp.mem_of hH).2;obtain⟨E,F,b5,T,b6⟩:=(m.heap _<|Hp.mem_of a2).2;have A:B.size=es:=by rw [Q,a0]
 rw [<- A] at r;have b7:∃ l o,(Builtin.append_ #[t,t] t2 #[e.η i,a.eval y]).run Γ.P w=.ok l o/\o.ownsRow 0 te B.size l (xs.length+ys.length) (I++E)/\w.grownBy o (e.η i).ownBlock/\(∀ c,l.ownBlock=some c->(e.η i).ownBlock=some c∨w.heap.size<=c):=by
  rcases F.2 with ⟨f,U⟩|⟨V,c0,e4,f,_⟩
  ·have c1:ys=[]:=Bg U;have c2:E=[]:=Bg (by rw [F.1,U,Nat.zero_mul]);rw [S,f,c1,c2];have J:=run_append_owned_none (P:=Γ.P) (w:=w) 0 t t2 te B B.size R O (e.η i) xs.length I r;exact⟨e.η i,w,J,by simpa using r,⟨rfl,rfl,rfl,Af _,λ_ _ _=>rfl⟩,λc q=>.inl q⟩
  ·have c3:∀ j u,E[j]?=some u->w.cell? ((⟨V,0,none⟩:Addr).add j)=some u:=F.cells (g:=V) (by rw [f];rfl);rw [S,f];exact Tz (P:=Γ.P) (ty:=t2) R O a9 (Ctx.ZW b0 hz Q) (by rw [A];exact Ab a1) r (c:=c0) (by rw [F.1,A]) c3 T a4<|by rw [C];exact a3
 obtain⟨l,o,J,W,p,c4⟩:=b7;have c5:(execOp a.eval ⟨some d,.call { callee:=.builtin .append,args:=#[x,y],argTypes:=#[t,t] },t2,pos,af,g⟩).run Γ.P w=.ok (.value l) o:=by
  simp only [execOp,resolve,invoke,builtin,Sem.run_bind,Sem.run_pure,Result.andThen_ok,List.map_toArray,A3,Dm,b1,J]
 unfold Oper.wp;rw [c5];have M:(e.Q2 z l).η z=l:=if_pos rfl;have hl:=r.1;have m2:=m.M5 (hb:=.row te es<|xs++ys) hH N (e':=e.Q2 z l) (w':=o) (λi=>or_congr (m.top i) Iff.rfl) (e.N3 _ _ a5) p.size p.os p.tape p.output P7.any
  (λc q c6=>p.block c q<|λh=>c6<|by simp [HB.owned,h]) (λc q=>by simp only [HB.owned,M] at q;exact c4 c q) (λhX=>by
   have e1:∀ b,b<w.heap.size->¬ Γ.X e H b->o.heap[b]?=w.heap[b]?:=λb C G=>p.block b C<|λh=>G (.inr (List.mem_filterMap.2 ⟨_,Hp.mem_of hH,by simp [HB.owned,h]⟩))
   obtain⟨q1,q2⟩:=Xn b2 b5 (by rw [hl,A]) b4 b6;refine⟨I++E,?_,q1,λv f=>?_,λi' e2 j hj=>?_⟩
   ·rw [M,Ag,<- A];exact W
   ·rcases List.mem_append.1 f with f|f
    ·exact b3 v f
    ·exact T v f
   ·obtain⟨v,p1,p2⟩:=q2 i' e2 j hj;exact⟨v,p1,Q0.N1 p.size e1 hX p2⟩)
 exact⟨_,m2.put (s:=.row z) (v:=l) (Ab hd) ⟨.inr rfl,M.symm,Ko W⟩⟩
end
section
variable {Γ : Ctx} {k : Nat} {L : Sl} {H : Hp} {K : cn} {ops : List Oper} {rest : List Oper} {t t' ty : TypeId} {x y : Operand}
def Ny [P7 Γ] (j:Nat) {d:Nat} {te t2 tb:TypeId} {i es:Nat} {xs ys:List (List D)} {H':Hp}
  (c:Γ.sh t=.slice te) (f:(Γ.sh te).known=true) (h:Γ.cells te=es) (l:Av 0 es=true) (m:Nat.beq (ai Γ.τ te).zero.length (Γ.cells te)=true)
  (o:aj L x=.row i) (hH:Hp.get H i=some (.row te es xs)) (p:aj L y=.row j) (q:Hp.get H j=some (.row tb es ys)) (r:ap ops L g=some true) (s:Av d Γ.n=true)
  (u:(xs.length+ys.length)*(ai Γ.τ te).bytes<=140737488355328) (v:xs.length+ys.length<=maxLen) (b:zh H i some=some H')
  (z:DS false Γ ops rest K (k+1) ((d,.row k)::L) ((k,.row te es (xs++ys))::H')) :
  DS false Γ ops (⟨some d,.call { callee:=.builtin .append,args:=#[x,y],argTypes:=#[t,t] },t2,pos,af,g⟩::rest) K k L H:=by
 rw [ny] at b;simp only [Option.some.injEq] at b;subst b;exact Va r ((Ov (ir k) c f h l m o hH p q s u v).cast<|gv k) z
def GP {d i es:Nat} {te tb:TypeId} {xs:List (List D)} (o:aj L x=.row i) (hH:Hp.get H i=some (.row tb es xs)) (f:aj L y=.Q1) (p:(ai Γ.τ t).sh=.slice te) (l:Av d Γ.n=true) (q:ap ops L g=some true)
  (h1:xs=[]->DS false Γ ops rest K k ((d,.d (.bool true))::L) H) (r:DS false Γ ops rest K k ((d,.d (.bool false))::L) H):DS false Γ ops (⟨some d,.binOp .eql t x y t',ty,pos,af,g⟩::rest) K k L H:=by
 refine gj q λe a w m=>?_
 obtain⟨_,u,_⟩:=Q5 m o (nz · _);obtain⟨G,z,_⟩:=(m.heap _<|Hp.mem_of hH).2;have A:a.eval y=.slice none 0 0:=by
  have B:Nq y:=by
   cases y with
   | const v=>simp only [aj] at f;unfold S6 at f;split at f<;>simp_all [Nq,NY]
   | _=>trivial
  have:=m.op y B
  rw [f] at this;exact this
 have b:∃ c n j,e.η i=.slice c n j/\(c=none->xs=[]):=by
  rcases z.2 with ⟨b,C⟩|⟨I,j,J,b,_⟩
  ·exact⟨_,_,_,b,λ_=>Bg C⟩
  ·exact⟨_,_,_,b,λh=>by cases h⟩
 obtain⟨c,n,j,b,E⟩:=b;have F:(execOp a.eval ⟨some d,.binOp .eql t x y t',ty,pos,af,g⟩).run Γ.P w=.ok (.value<|.bool c.isNone) w:=by
  simp [execOp,u,b,A,eqGuard,Lib.run_eql_slice_nil w t te c n j 0 0<|Ctx.slice p]
 unfold Oper.wp;rw [F];cases c with
 | none=>exact⟨k,_,H,e,m.put (s:=.d<|.bool true) (v:=.bool true) (Ab l) .bool,h1<|E rfl⟩
 | some M=>exact⟨k,_,H,e,m.put (s:=.d<|.bool false) (v:=.bool false) (Ab l) .bool,r⟩
end
attribute [local irreducible] DW DS DL DQ Ev X1 I3 du bl DT
def cH (i j:Nat) (h:i+j<=9223372036854775807):ZC .u64 (IntKind.u64.wrap ((i:Int)+j)) 1=(((i+j)/2:Nat):Int):=by
 have b:IntKind.u64.wrap ((i:Int)+j)=(i:Int)+j:=by simp [IntKind.wrap,IntKind.bits,IntKind.signed];omega
 rw [b];unfold ZC;rw [show (2:Int) ^ min (1:Int).toNat IntKind.u64.bits=2 from by decide,Int.fdiv_eq_ediv_of_nonneg _<|by decide];omega
def kT {l:List U0} {f:U0} {i:Nat} (c:N2 l) (h1:∀ p (b:p<l.length),p<i->dg l[p] f<0) (d:∀ p (b:p<l.length),i<=p->0<=dg l[p] f):Z4 l f=(if h:i<l.length then decide (dg l[i] f=0) else false):=by
 rw [Bool.eq_iff_iff,M4];have j:=List.pairwise_iff_getElem.1 c;constructor
 ·intro m;obtain⟨p,b,rfl⟩:=List.mem_iff_getElem.1 m;have q:¬ p<i:=λh=>lt_irrefl (h1 p b h)
  rw [dif_pos<|by omega];by_cases n:p=i
  ·subst n;exact decide_eq_true<|ol _
  ·have:=j i p (by omega) b (by omega)
   have:=d i (by omega)<|Af _
   omega
 ·intro h;split at h
  ·rename_i o;rw [<- sx (of_decide_eq_true h)];exact Ah o
  ·cases h
def SK {l:List U0} {f:U0} {h i:Nat} (d:N2 l) (j:h<l.length) (_:∀ p (b:p<l.length),p<i->dg l[p] f<0) (c:dg l[h] f<0):∀ p (b:p<l.length),p<h+1->dg l[p] f<0:=by
 intro p b n;by_cases m:p=h
 ·subst m;exact c
 ·exact n5 (List.pairwise_iff_getElem.1 d p h b j<|by omega) c
def XK {l:List U0} {f:U0} {h:Nat} (d:N2 l) (i:h<l.length) (b:0<=dg l[h] f):∀ p (c:p<l.length),h<=p->0<=dg l[p] f:=by
 intro p c m;by_cases j:p=h
 ·subst j;exact b
 ·have n:=List.pairwise_iff_getElem.1 d h p i c (by omega);have o:=sc l[p] l[h];exact PL (by omega) b
def OK (l:List U0) (f:U0) (J:l.length<=4398046511104) (o:N2 l):Fn 219 [.s 2 (l.map aa),jt f,.fn 115 []] (λr=>∃ n:Int,r=.M2 [.i n,.b (Z4 l f)]):=by
 refine J2 func219 ?_;intro O M N P;have z:(l.map aa).length=l.length:=Aa _;refine zS ?_;refine ae (ι:=Nat×Nat) (λx=>⟨1,[(0,.s 2<|l.map aa),(2,.fn 115 []),(4,.loc 0 0),(8,.i l.length),(9,.i x.1),(10,.i x.2)],[(0,.M1 95 [.i f.N0,.s 1<|f.args.map aq])]⟩)
  (λx=>x.1<=x.2/\x.2<=l.length/\(∀ p (A:p<l.length),p<x.1->dg l[p] f<0)/\(∀ p (A:p<l.length),x.2<=p->0<=dg l[p] f)) (λx=>x.2-x.1)
  (0,l.length) ⟨Ai _,Af _,λp _ h=>absurd h (A2 p),λp A h=>by omega⟩ (er id ⟨rfl,rfl,rfl,by rw [<- z];rfl,rfl,by rw [<- z];rfl,trivial⟩) ?_
 rintro⟨i,j⟩ ⟨E,B,d,q⟩;dsimp only at E B d q ⊢;by_cases Q:i<j
 ·have F:=cH i j (by omega);have G:i<=(i+j)/2:=by omega
  have R:(i+j)/2<j:=by omega
  have u:(i+j)/2<l.length:=by omega
  have v:=Jc (l[(i+j)/2]'u) f;repeat' ((fail_if_success (apply fh 5));(first|refine zr ?_|(refine zm ?_ ?_<;>intro c)|fail))
  all_goals try omega
  refine ag (k':=1) (L':=[(11,.i (((i+j)/2:Nat):Int)),(0,.s 2<|l.map aa),(2,.fn 115 []),(4,.loc 0 0),(8,.i l.length),(9,.i i),(10,.i j)]) (H':=[(0,.M1 95 [.i f.N0,.s 1<|f.args.map aq])]) ?_ ?_
  ·rw [<- F];exact er id
  generalize (i+j)/2=h at *;repeat' (first|refine zs ?_|(apply kb;(iterate 4 exact rfl);apply v;exact rfl;(exact rfl);exact rfl;exact rfl;exact⟨_,rfl⟩;rintro _ rfl)|(refine zm ?_ ?_<;>intro c)|omega)
  all_goals first
   | exact⟨(h+1,j),⟨by dsimp only;omega,B,SK o u d c,q⟩,er id,by show j-(h+1)<j-i;omega⟩
   | exact⟨(i,h),⟨G,by dsimp only;omega,d,XK o u<|Int.not_lt.1 c⟩,er id,by show h-i<j-i;omega⟩
 ·have I:i=j:=by omega
  subst I;have m:=kT o d q;by_cases C:i<l.length
  ·rw [dif_pos C] at m;have v:=Jc l[i] f;rw [m];repeat' (first|refine zr ?_|(apply kb;(iterate 4 exact rfl);apply v;exact rfl;(exact rfl);exact rfl;exact rfl;exact⟨_,rfl⟩;rintro _ rfl)|(refine zm ?_ ?_<;>intro c)|omega)
   all_goals exact⟨.inl rfl,_,rfl,rfl,_,rfl⟩
  ·rw [dif_neg C] at m;rw [m];repeat' (first|refine zr ?_|(refine zm ?_ ?_<;>intro c)|omega)
   exact⟨.inl rfl,_,rfl,rfl,_,rfl⟩
def VS (l:List U0) (f:U0) (c:l.length<=4398046511104) (d:N2 l):Fn 190 [.s 2 (l.map aa),jt f] (λr=>r=.b (Z4 l f)):=by refine J2 func190 ?_;intro O i j m;have h:=OK l f c d;refine zS ?_;refine yq rfl rfl h rfl rfl rfl ?_;rintro r ⟨n,rfl⟩;refine zR ?_;exact⟨.inl rfl,_,rfl,rfl,rfl⟩
def fI (l:List Int) (c:l.length<=17592186044416):X1 false prog U5 bt 151 [.row 0] 1 1 [(0,.row 3 1 (l.map aq))] (λ_ r H=>r=.d (.own Y0.B (.slice 1 (l.map aq)))/\H=[(0,.row 3 1 (l.map aq))]):=by
 refine T8 func151 ?_;intro O f i j;have m:(l.map aq).length=l.length:=Aa _;refine zS ?_;refine GP rfl rfl rfl rfl rfl rfl (λh=>?_) ?_
 ·have b:l=[]:=List.map_eq_nil_iff.1 h;subst b;refine zS ?_;refine ag (ea 2 1 rfl) ?_;refine zR ?_;exact⟨.inl rfl,_,rfl,kp id 1 _ ([(0,.row 3 1 [])]) ⟨rfl,rfl⟩⟩
 ·repeat' (first|(apply Ua;(iterate 8 exact rfl))|(first|refine zs ?_|fail))
  refine Ny 0 rfl rfl rfl rfl rfl rfl rfl rfl rfl rfl rfl ?_ ?_ rfl ?_
  ·show (0+(l.map aq).length)*8<=_;omega
  ·show 0+(l.map aq).length<=_;unfold maxLen;omega
  refine zS ?_;refine ag (ka (xs:=l.map aq) 2 (bm jG _) rfl rfl rfl) ?_;repeat' (apply cr)
  exact⟨.inl rfl,_,rfl,kp id 1 _ ([(0,.row 3 1<|l.map aq)]) ⟨rfl,rfl⟩⟩
def CR {a b c:List (List Int)} (h:tf a c=true):pb (a++b) c=pb b (pb a c)/\tf (a++b) c=tf b (pb a c)/\(pb a c).length<=2000:=by
 have h:=of_decide_eq_true h;have d:pb a c=c++a:=by unfold pb;exact Aj<|by rw [Ag];omega
 rw [d];refine⟨by unfold pb;rw [Bm],?_,by rw [Ag];exact h⟩
 unfold tf;rw [Ag,Ag];exact decide_eq_decide.2<|by omega
def ON {a b c:List (List Int)} (h:tf a c=false):pb (a++b) c=pb a c/\tf (a++b) c=false:=by
 have h:=of_decide_eq_false h;refine⟨?_,decide_eq_false<|by rw [Ag];omega⟩
 unfold pb;rw [<- Bm,Bc<|by rw [Ag];omega]
def x8:∀ {j:List I6} {d:List Int} {e e':RE},rn e->(∀ n∈d,-1000000<=n/\n<=1000000)->cv e j d=some e'->rn e'
 | [],_,e,e',c,_,h=>by simp only [cv,Option.some.injEq] at h;subst h;exact c
 | _::_,[],e,e',c,_,h=>by simp only [cv,Option.some.injEq] at h;subst h;exact c
 | t::j,n::d,e,e',c,f,h=>by
  rw [cv] at h
  cases l:T6 e t with
  | some x =>
   rw [l] at h
   simp only at h
   split at h
   ·exact x8 c (λm i=>f m (Ak _ i)) h
   ·cases h
  | none =>
   rw [l] at h
   simp only at h
   refine x8 (λv x b=>?_) (λm i=>f m (Ak _ i)) h
   by_cases o:t.var.toNat=v
   ·subst o
    by_cases p:t.var.toNat<e.length
    ·rw [B8 p] at b
     simp at b;subst b
     exact f n (Ac ..)
    ·rw [Be (by rw [A6];omega)] at b;cases b
   ·rw [B5 o] at b
    exact c v x b
def zf (W:RE->List (List Int)) (e:RE) (l:T2) (x:U0):List (List Int):=if x.N0=l.N0 then Yv W (cv e l.D0 x.args) else []
def pO {S:List U0} {W:RE->List (List Int)} {l:T2} {e:RE} (h:l.R0=1):X9 S W l e=S.flatMap (zf W e l):=by unfold X9;rw [if_pos h];rfl
def cA (r:O3) (S:List U0) (left:List T2):Prop:=∀ (e:RE) (c:List (List Int)),okB S e.length left->rn e->Bd left (b8 e)->c.length<=2000 ->
 X1 false prog U5 bt 140 [.loc 0 0,.s 4<|left.map bf] 3 4 (Nl r S e c)
  (λd f H=>d=4/\f=.b (tf (js S left.length left e) c)/\H=Nl r S e (pb (js S left.length left e) c))
def oH (r:O3) (S:List U0) (left:List T2) (h:cA r S left) (e:RE) (c:List (List Int)) (h1:okB S e.length left) (i:rn e) (l:Bd left (b8 e)) (m:c.length<=2000) :
  X1 false prog U5 bt 185 [.loc 3 0,.loc 4 0] 5 6 (QE r S left e c) (λd f H=>d=6/\f=.b (tf (js S left.length left e) c)/\H=QE r S left e (pb (js S left.length left e) c)):=by
 refine T8 func185 ?_;intro O o p q;have w:=h e c h1 i l m;clear h;generalize tf (js S left.length left e) c=s at w ⊢;generalize pb (js S left.length left e) c=n at w ⊢;refine zS ?_;refine aw (λj=>match j with|3=>5|j=>j) w rfl rfl rfl rfl ⟨rfl,rfl,rfl,rfl,trivial⟩ rfl rfl rfl rfl rfl rfl ?_ ?_
 ·rintro d f H2 ⟨rfl,rfl,rfl⟩;exact⟨rfl,rfl⟩
 rintro d f H2 ⟨rfl,rfl,rfl⟩;change DS _ _ _ _ _ _ _ _;refine zR ?_;exact⟨.inl rfl,_,rfl,kp (λj=>match j with|5=>9|j=>j) 6 _ (QE r S left e n) ⟨rfl,rfl,rfl⟩⟩
def oT (r:O3) (S:List U0):cA r S []:=by
 intro e c f _ _ m;refine T8 func140 ?_;intro O n o p;have q:=f.RZ;have w:=fI (bx e) (by rw [eb];omega);have h:js S 0 [] e=[bx e]:=rfl;rw [show ([]:List T2).length=0 from rfl,h];repeat' ((fail_if_success (apply br 2));(first|refine zs ?_|fail))
 refine lz 12 (by kernel_rfl) (by kernel_rfl) (by kernel_rfl) rfl rfl rfl ?_;repeat' refine z5 ?_
 refine rh (λj=>match j with|0=>1|j=>j) w (by rintro _ rfl;exact⟨rfl,rfl⟩) ⟨_,rfl⟩ rfl rfl rfl rfl ⟨rfl,trivial⟩ rfl rfl rfl rfl rfl rfl rfl rfl rfl ?_;rintro _ rfl;have lo:(c.map Yd).length=c.length:=Aa _;refine zR ?_;have i:pb [bx e] c=c++[bx e]:=by unfold pb;exact Aj<|by simp only [Ag,A0];omega
 rw [i];have l:decide (((((c.map Yd++[[D.own Y0.B<|.slice 1<|(bx e).map aq]]).length:Nat):Int))<=2000)=tf [bx e] c:=by
  unfold tf;simp only [Ag,A0,lo];exact decide_eq_decide.2<|by omega
 exact⟨.inl rfl,_,rfl,λj=>match j with|3=>16|j=>j,4,.b _,Nl r S e (c++[bx e]),rfl,⟨rfl,rfl,rfl,by rw [Au];rfl,trivial⟩,rfl,rfl,rfl,rfl,rfl,rfl,rfl,congrArg (λb=>SV.d<|.bool b) l,rfl⟩
def bP (r:O3) (S:List U0) (hS:N2 S) (c5:S.length<=4398046511104) (left:List T2) (a3:left≠[]) (ih:∀ i (_:i<left.length),cA r S (left.eraseIdx i)):cA r S left:=by
 intro e q u h2 F A;refine T8 func140 ?_;intro g3 w0 E0 K1;have ll:(left.map bf).length=left.length:=Aa _;have g4:=u.len;have c6:0<left.length:=List.length_pos_iff.2 a3;have C:=qD a3 u.lit F;have a4:=UL C;have w1:=NV r S q e left u.lit (by omega) C u.Jd;have a5:∀ p,O7 (b8 e) (b8 p)->((∀ t∈ef left[gc e left],S5 (b8 p) t=true)∨∀ ds,co ds left[gc e left]=false)->Bd (left.eraseIdx<|gc e left) (b8 p):=λp k1 m=>Cs C F k1 m
 have a9:∀ p:RE,p.length=e.length->okB S p.length (left.eraseIdx<|gc e left):=λp k1=>by
  have a0:∀ l∈left.eraseIdx (gc e left),l∈left:=λl E=>(vp C l).2<|.inr E
  rw [k1];exact⟨λl E=>u.lit l (a0 l E),λl E=>u.op l (a0 l E),λl E=>u.pA l (a0 l E),u.facts,by rw [D9];split<;>omega,u.RZ,λl E=>u.Jd l<|a0 l E⟩
 have b3:js S left.length left e=X9 S (js S (left.length-1)<|left.eraseIdx<|gc e left) left[gc e left] e:=by
  obtain⟨l0,ls,rfl⟩:=List.exists_cons_of_ne_nil a3;rw [Ba,js,Ad C,E5]
 have b4:(left.eraseIdx<|gc e left).length=left.length-1:=by rw [D9,if_pos C]
 have b0:=ih _ C;have T:=Ah C;have O:=u.lit _ T;have g5:=u.op _ T;have e1:=u.pA _ T;have g6:=u.Jd _ T;rw [b3,<- b4];clear ih b3 F;have hc:Fn 184 [.s 1 [[.slice 4<|(left.take<|gc e left).map bf],[.slice 4<|(left.drop<|gc e left+1).map bf]]] (λr=>r=.s 4 ((left.eraseIdx<|gc e left).map bf)):=by
  have b5:=wE [left.take (gc e left),left.drop<|gc e left+1] (by simp only [A3,Dm,List.sum_cons,List.sum_nil,Ap,A9];omega) (by simp);rw [show [left.take (gc e left),left.drop<|gc e left+1].flatten=left.eraseIdx (gc e left) by rw [List.eraseIdx_eq_take_drop_succ];simp] at b5;exact b5
 repeat' (first|refine zs ?_|(refine zm ?_ ?_<;>intro c)|omega)
 (refine aw id (w1) rfl rfl rfl rfl ⟨rfl,rfl,rfl,rfl,trivial⟩ rfl rfl rfl rfl rfl rfl ?_ ?_)
 ·rintro m v H2 ⟨rfl,rfl⟩;exact⟨rfl,rfl⟩
 rintro m v H2 ⟨rfl,rfl⟩;change DS _ _ _ _ _ _ _ _;clear w1;generalize gc e left=j at *;repeat' ((fail_if_success (apply jm 8));(first|refine zs ?_|refine z22 ?_ hc|fail))
 all_goals try omega
 refine ag (bk (k':=7) (L':=[(2,.loc 3 0),(6,.loc 6 0),(8,.fn 185 [.loc 3 0,.loc 4 0])]) (H':=(6,Vl left[j])::QE r S (left.eraseIdx j) e q) (λz=>match z with|3=>4|4=>15|5=>3|6=>5|z=>z) ⟨rfl,rfl,rfl,trivial⟩ ⟨rfl,rfl,rfl,rfl,rfl,rfl,rfl,trivial⟩ rfl rfl rfl rfl rfl rfl) ?_;clear hc ll T;generalize left[j]=l at *;generalize left.eraseIdx j=rest at *;have U:∀ (V:List I6) (ns:List Int) (o:List (List Int)),o.length<=2000->V.length=ns.length->(∀ t∈V,W5 e.length t)->(∀ b1∈ns,-1000000<=b1/\b1<=1000000)->ef l=V->∀ p,cv e V ns=some p ->
   X1 false prog U5 bt 185 [.loc 3 0,.loc 4 0] 5 6 (QE r S rest p o) (λm v H=>m=6/\v=.b (tf (js S rest.length rest p) o)/\H=QE r S rest p (pb (js S rest.length rest p) o)):=by
  intro V ns o q1 q2 q3 q4 q5 p q6;obtain⟨m1,_,m3⟩:=ik q2 q3 q6;exact oH r S rest b0 p o (a9 p m1) (x8 h2 q4 q6) (a5 p (by rw [m3];exact nj _ _)<|.inl<|by rw [q5,m3];exact o8<|by rw [cw];exact q3) q1
 have a1:l.R0≠1->l.R0≠4->X1 false prog U5 bt 185 [.loc 3 0,.loc 4 0] 5 6 (QE r S rest e q) (λm v H=>m=6/\v=.b (tf (js S rest.length rest e) q)/\H=QE r S rest e (pb (js S rest.length rest e) q)):=λn1 n4 =>
  oH r S rest b0 e q (a9 e rfl) h2 (a5 e (O7.refl _)<|.inr λds=>by unfold co;rw [decide_eq_false n1,decide_eq_false n4];rfl) A
 have e2:=u.facts;have e3:=O.facts;have G:=O.D0;have e4:=O.Mj;have e5:=O.bX;have g7:=O.R0;have g8:=u.RZ;clear b0 a5 a9 O u b4 C c6;generalize js S rest.length rest=W at U a1 ⊢;by_cases h:l.R0=1
 ·rw [pO h];have lS:(S.map aa).length=S.length:=Aa _;repeat' (first|refine zs ?_|(refine zm ?_ ?_<;>intro c)|omega)
  refine ae (ι:=Nat) (λi=>⟨7,[(2,.loc 3 0),(6,.loc 6 0),(8,.fn 185 [.loc 3 0,.loc 4 0]),(68,.s 2<|S.map aa),(69,.i S.length),(70,.i i)],(6,Vl l)::QE r S rest e (pb ((S.take i).flatMap<|zf W e l) q)⟩)
   (λi=>i<=S.length/\tf ((S.take i).flatMap<|zf W e l) q=true) (λi=>S.length-i) 0 ⟨Ai _,vy A⟩ (er id ⟨rfl,rfl,rfl,rfl,by rw [<- lS];rfl,rfl,trivial⟩ ⟨rfl,rfl,rfl,rfl,rfl,rfl,by rw [show (S.take 0).flatMap (zf W e l)=[] from rfl,vn A];rfl,trivial⟩) ?_
  rintro i ⟨g1,g2⟩;dsimp only at g1 g2 ⊢;by_cases hi:i<S.length
  ·have hx:=Ah hi;have e6:(S.take<|i+1).flatMap (zf W e l)=(S.take i).flatMap (zf W e l)++zf W e l S[i]:=by rw [Am hi,Dj];simp
   obtain⟨P,Q,X⟩:=CR (b:=zf W e l S[i]) g2;have e7:S.flatMap (zf W e l)=(S.take<|i+1).flatMap (zf W e l)++(S.drop<|i+1).flatMap (zf W e l):=by rw [<- Dj,Dl]
   have e9:=e2 _ hx;have b6:=e3 h _ hx;rw [<- e6] at P Q;generalize pb ((S.take i).flatMap<|zf W e l) q=o at P Q X ⊢;have w:=EB r S rest o e l.D0 S[i].args W;by_cases hp:S[i].N0=l.N0
   ·have b2:zf W e l S[i]=Yv W (cv e l.D0 S[i].args):=by unfold zf;rw [if_pos hp]
    have w:=w (b6 hp).symm (by omega) G X (U l.D0 S[i].args o X (b6 hp).symm G e9<|by unfold ef;rw [if_pos h]);rw [<- b2,<- P,<- Q] at w;repeat' (first|refine zr ?_|(refine zm ?_ ?_<;>intro c)|omega)
    (refine aw id (w) rfl rfl rfl rfl ⟨rfl,rfl,rfl,rfl,rfl,rfl,trivial⟩ rfl rfl rfl rfl rfl rfl ?_ ?_)
    ·rintro m v H2 ⟨rfl,rfl,rfl⟩;exact⟨rfl,rfl⟩
    rintro m v H2 ⟨rfl,rfl,rfl⟩;change DS _ _ _ _ _ _ _ _;cases I:tf ((S.take<|i+1).flatMap<|zf W e l) q with
    | true =>
     refine zS ?_;all_goals try omega
     exact⟨i+1,⟨hi,I⟩,er (λj=>match j with|5=>13|j=>j),by omega⟩
    | false =>
     obtain⟨q1,q2⟩:=ON (b:=(S.drop<|i+1).flatMap<|zf W e l) I;rw [<- e7] at q1 q2;rw [q1,q2];refine zR ?_;all_goals try omega
     exact⟨.inl rfl,_,rfl,kp (λj=>match j with|3=>13|j=>j) 4 _ (Nl r S e _) ⟨rfl,rfl,rfl⟩⟩
   ·have b2:zf W e l S[i]=[]:=by unfold zf;rw [if_neg hp]
    rw [b2] at P Q;rw [vn X] at P;rw [vy X] at Q;repeat' (first|refine zr ?_|(refine zm ?_ ?_<;>intro c)|omega)
    exact⟨i+1,⟨hi,Q⟩,er id (hH:=⟨rfl,rfl,rfl,rfl,rfl,rfl,by rw [P];rfl,trivial⟩),by omega⟩
  ·rw [Aj<|by omega] at g2 ⊢;rw [g2];repeat' (first|refine zr ?_|(refine zm ?_ ?_<;>intro c)|omega)
   exact⟨.inl rfl,_,rfl,kp (λj=>match j with|3=>5|j=>j) 4 _ (Nl r S e _) ⟨rfl,rfl,rfl⟩⟩
 ·have J:xq e l=true:=a4.resolve_right h;by_cases d:l.R0=4
  ·have F:=e4 d;have a2:∀ t∈l.D0,-1000000<=vA (bx e) t/\vA (bx e) t<=1000000:=λt N=>MC h2 (e1 t N)
   have Y:(l.D0.take 2).all (λt=>(T6 e t).isSome)=true:=by
    unfold xq rp at J;rw [if_pos d] at J;exact J
   have n:X9 S W l e=if Q3 (nc l<|bx e) then Yv W (cv e (l.D0.drop 2) [nc l<|bx e]) else []:=by
    unfold X9;rw [if_neg h,if_pos d];rfl
   have w:=Bk r S q e (l.D0.take 2) (λt N=>G t<|Bz N) (by rw [Ap];omega);rw [Y,if_pos rfl] at w;have b7:=U (l.D0.drop 2) [nc l<|bx e] q A (by rw [A9,F];rfl)<|λt N=>G t<|B4 N;have c0:ef l=l.D0.drop 2:=by unfold ef;rw [if_neg h]
   have R:=λZ:Q3 (nc l<|bx e)=true=>EB r S rest q e (l.D0.drop 2) [nc l<|bx e] W (by rw [A9,F];rfl) (by rw [A9];omega) (λt N=>G t<|B4 N) A
    (b7 (by intro b1 c1;rw [A1] at c1;subst c1;exact Rv.1 Z) c0)
   have c2:nc l (bx e)=ov l.op ((l.D0.map<|vA<|bx e).getD 0 0) ((l.D0.map<|vA<|bx e).getD 1 0):=rfl;rw [c2] at n R;clear b7 U a1 c2 c0 Y J a4;obtain⟨R0,M,N0,D0⟩:=l;dsimp only at F d h a2 w R n G;match D0,F with
   | [t1,t2,t3],_ =>
    simp only [A3,Dm,List.getD_cons_zero,List.getD_cons_succ,List.take_succ_cons,Io,List.drop_succ_cons,List.drop_zero] at w R n;have n1:=a2 t1 (by simp);have n2:=a2 t2 (by simp);clear a2;generalize vA (bx e) t1=x at *;generalize vA (bx e) t2=y at *;have B:=KW M x y n1 n2;have w5:=sq<|ov M x y;repeat' (first|refine zs ?_|(refine zm ?_ ?_<;>intro c)|fail)
    all_goals try (exfalso;first|omega|exact h c|exact c d|exact d c|exact f c|exact c f)
    refine rh (λj=>match j with|3=>5|j=>j) w (by rintro _ rfl;exact⟨rfl,rfl⟩) ⟨_,rfl⟩ rfl rfl rfl rfl ⟨rfl,rfl,rfl,rfl,trivial⟩ rfl rfl rfl rfl rfl rfl rfl rfl rfl ?_;rintro _ rfl;clear w;repeat' ((fail_if_success (apply br 20));(first|refine zs ?_|refine z22 ?_ B|fail))
    all_goals try (exfalso;first|omega|exact h c|exact c d|exact d c|exact f c|exact c f)
    cases Z:Q3 (ov M x y) with
    | false =>
     rw [Z] at n w5;rw [n,if_neg (by simp),vy A,vn A];repeat' (first|refine zr ?_|refine z22 ?_ w5|fail)
     all_goals try (exfalso;first|omega|exact h c|exact c d|exact d c|exact f c|exact c f)
     exact⟨.inl rfl,_,rfl,kp (λj=>match j with|3=>5|j=>j) 4 _ (Nl r S e q) ⟨rfl,rfl,rfl⟩⟩
    | true =>
     have R:=R Z;rw [Z] at n w5;rw [n,if_pos rfl];refine lz 11 (by kernel_rfl) (by kernel_rfl) (by kernel_rfl) rfl rfl rfl ?_;repeat' (first|refine zs ?_|refine z22 ?_ w5|fail)
     all_goals try (exfalso;first|omega|exact h c|exact c d|exact d c|exact f c|exact c f)
     (refine aw id (R) rfl rfl rfl rfl ⟨rfl,rfl,rfl,rfl,rfl,rfl,trivial⟩ rfl rfl rfl rfl rfl rfl ?_ ?_)
     ·rintro m v H2 ⟨rfl,rfl,rfl⟩;exact⟨rfl,rfl⟩
     rintro m v H2 ⟨rfl,rfl,rfl⟩;change DS _ _ _ _ _ _ _ _;refine zR ?_;exact⟨.inl rfl,_,rfl,kp (λj=>match j with|3=>12|j=>j) 4 _ (Nl r S e _) ⟨rfl,rfl,rfl⟩⟩
  ·have n:X9 S W l e=if K3 S l (bx e) then W e else []:=by unfold X9;rw [if_neg h,if_neg d]
   have c3:=a1 h d;clear a1;have Y:l.D0.all (λt=>(T6 e t).isSome)=true:=by
    unfold xq rp at J;rw [if_neg d] at J;exact J
   have w:=Bk r S q e l.D0 G (by omega);rw [Y,if_pos rfl] at w;clear U Y J a4;by_cases f:l.R0=3
   ·have c4:=e5 f;obtain⟨R0,M,N0,D0⟩:=l;dsimp only at c4 f d h w n G;match D0,c4 with
    | [t1,t2],_ =>
     have hh:K3 S ⟨R0,M,N0,[t1,t2]⟩ (bx e)=Nd M (vA (bx e) t1) (vA (bx e) t2):=by subst f;rfl
     rw [hh] at n;simp only [A3,Dm] at w;generalize vA (bx e) t1=x at *;generalize vA (bx e) t2=y at *;have B:=TU M x y;repeat' (first|refine zs ?_|(refine zm ?_ ?_<;>intro c)|fail)
     all_goals try (exfalso;first|omega|exact h c|exact c d|exact d c|exact f c|exact c f)
     refine aw (λj=>match j with|3=>5|j=>j) w rfl rfl rfl rfl ⟨rfl,rfl,rfl,rfl,trivial⟩ rfl rfl rfl rfl rfl rfl ?_ ?_
     ·rintro m v H2 ⟨rfl,rfl⟩;exact⟨rfl,rfl⟩
     rintro m v H2 ⟨rfl,rfl⟩;change DS _ _ _ _ _ _ _ _;cases I:Nd M x y with
     | false =>
      rw [I] at n B;rw [n,if_neg (by simp),vy A,vn A];repeat' (first|refine zr ?_|refine z22 ?_ B|(refine zm ?_ ?_<;>intro c)|fail)
      all_goals try (exfalso;first|omega|exact h c|exact c d|exact d c|exact f c|exact c f)
      exact⟨.inl rfl,_,rfl,kp (λj=>match j with|3=>5|j=>j) 4 _ (Nl r S e q) ⟨rfl,rfl,rfl⟩⟩
     | true =>
      rw [I] at n B;rw [n,if_pos rfl];repeat' (first|refine zs ?_|refine z22 ?_ B|(refine zm ?_ ?_<;>intro c)|fail)
      all_goals try (exfalso;first|omega|exact h c|exact c d|exact d c|exact f c|exact c f)
      (refine m5 id (c3) rfl rfl rfl rfl rfl rfl ⟨rfl,rfl,rfl,rfl,rfl,rfl,trivial⟩ rfl rfl rfl rfl rfl rfl ?_ ?_)
      ·rintro m v H2 ⟨rfl,rfl,rfl⟩;exact⟨rfl,rfl⟩
      rintro m v H2 ⟨rfl,rfl,rfl⟩;change DS _ _ _ _ _ _ _ _;refine zR ?_;exact⟨.inl rfl,_,rfl,kp (λj=>match j with|3=>12|j=>j) 4 _ (Nl r S e _) ⟨rfl,rfl,rfl⟩⟩
   ·have g0:l.R0=2:=by omega
    have hh:K3 S l (bx e) = !Z4 S ⟨l.N0,l.D0.map<|vA<|bx e⟩:=by unfold K3;rw [if_neg h,if_pos g0]
    rw [hh] at n;have B:=VS S ⟨l.N0,l.D0.map<|vA<|bx e⟩ c5 hS;repeat' (first|refine zs ?_|(refine zm ?_ ?_<;>intro c)|fail)
    all_goals try (exfalso;first|omega|exact h c|exact c d|exact d c|exact f c|exact c f)
    refine aw (λj=>match j with|3=>5|j=>j) w rfl rfl rfl rfl ⟨rfl,rfl,rfl,rfl,trivial⟩ rfl rfl rfl rfl rfl rfl ?_ ?_
    ·rintro m v H2 ⟨rfl,rfl⟩;exact⟨rfl,rfl⟩
    rintro m v H2 ⟨rfl,rfl⟩;change DS _ _ _ _ _ _ _ _;cases I:Z4 S ⟨l.N0,l.D0.map<|vA<|bx e⟩ with
    | true =>
     rw [I] at n B;rw [n,if_neg (by simp),vy A,vn A];repeat' (first|refine zr ?_|refine z22 ?_ B|(refine zm ?_ ?_<;>intro c)|fail)
     all_goals try (exfalso;first|omega|exact h c|exact c d|exact d c|exact f c|exact c f)
     exact⟨.inl rfl,_,rfl,kp (λj=>match j with|3=>5|j=>j) 4 _ (Nl r S e q) ⟨rfl,rfl,rfl⟩⟩
    | false =>
     rw [I] at n B;rw [n,if_pos<|by simp];repeat' (first|refine zs ?_|refine z22 ?_ B|(refine zm ?_ ?_<;>intro c)|fail)
     all_goals try (exfalso;first|omega|exact h c|exact c d|exact d c|exact f c|exact c f)
     (refine m5 id (c3) rfl rfl rfl rfl rfl rfl ⟨rfl,rfl,rfl,rfl,rfl,rfl,trivial⟩ rfl rfl rfl rfl rfl rfl ?_ ?_)
     ·rintro m v H2 ⟨rfl,rfl,rfl⟩;exact⟨rfl,rfl⟩
     rintro m v H2 ⟨rfl,rfl,rfl⟩;change DS _ _ _ _ _ _ _ _;refine zR ?_;exact⟨.inl rfl,_,rfl,kp (λj=>match j with|3=>12|j=>j) 4 _ (Nl r S e _) ⟨rfl,rfl,rfl⟩⟩
def tM (r:O3) (S:List U0) (b:N2 S) (c:S.length<=4398046511104):∀ (n:Nat) (left:List T2),left.length=n->cA r S left
 | 0,left,h=>by rw [Bg h];exact oT r S
 | n+1,left,h=>bP r S b c left (λd=>by rw [d] at h;cases h) λi f=>tM r S b c n _ (by rw [D9,if_pos f];omega)
end
end Go.Proofs.YtapciiffpnociabGreat
