/- Several texts in one: StrD StrE GxNewC StrF StrR StrI MoS MoT GxPtr RuGp RuZ. Condition: none. -/
import Derived.Test.YtapciiffpnociabGreatM12
set_option linter.all false
set_option maxHeartbeats 8000000
open Array renaming length_toList→A5
open List renaming append_assoc→Bm,drop_eq_getElem_cons→An,drop_of_length_le→Ar,drop_take→Ip,drop_zero→Fb,foldl_cons→Bi,getD→A4,getElem?_drop→Eh,getElem?_eq_getElem→Ad,getElem?_take→Bf,getElem_map→Dp,getElem_mem→Ah,length_append→Ag,length_cons→Ba,length_drop→A9,length_map→Aa,length_nil→Dv,length_singleton→A0,length_take→Ap,map_append→Au,map_cons→A3,map_nil→Dm,map_toArray→D1,mem_append→C0,mem_append_left→Ax,mem_append_right→Bv,mem_cons_of_mem→Ak,mem_cons_self→Ac,mem_of_mem_drop→B4,mem_of_mem_take→Bz,mem_singleton→A1,replicate→Aq,take_append_of_le_length→Bc,take_of_length_le→Aj,take_succ_eq_append_getElem→Am
open Nat renaming blt→Av,eq_of_beq_eq_true→Ao,le_of_ble_eq_true→Ab,le_refl→Af,lt_one_iff→Iq,mul_le_mul_right→A8,mul_one→Dq,not_lt_zero→A2,zero_add→C4,zero_le→Ai
open Option renaming getD_some→Cm
namespace Go.Proofs.YtapciiffpnociabGreat
open Tryz
open Go Go.RowKit
variable {pos:String} {af:Array Edge} {g:Option (Nat×Bool)}
section
open Go Go.RowKit
variable [Y0]
attribute [local irreducible] DW DS DL DQ Ev X1 I3 du bl RM
def IL (n:Nat) (l:List O3):Prop:=∀ r∈l,(0<=r.N0/\r.N0<n)/\∀ x∈r.body,d6 x=true->0<=x.N0/\x.N0<n
def yR:Option (List Int)->SV
 | none=>.M2 [.s 1 [],.b false]
 | some c=>.M2 [.s 1 (c.map aq),.b true]
abbrev aG (p:R3):HB:=.M1 26 [.s 1 (p.F0.map aq),.s 1 (p.Z0.map qn),.s 5 (p.M0.map dq)]
abbrev OX (p:R3) (lv:List Int) (ch:Bool):Hp:=[(0,aG p),(1,.M1 22 [.Q1]),(2,.M1 4 [.b false]),(3,.row 3 1 (lv.map aq)),(4,.M1 22 [.row 3]),(5,.M1 4 [.b ch])]
def WU (p:R3) (a2:p.F0.length<=10) (a3:p.M0.length<=12) (W:IL p.F0.length p.M0):Fn 258 [gy p] (λX=>X=yR (NN p)):=by
 refine J2 func258 ?_;intro a4 w0 E0 K1;have Y:(p.F0.map aq).length=p.F0.length:=Aa _;have lr:(p.M0.map dq).length=p.M0.length:=Aa _;refine zS ?_;refine KH ((jr p.F0.length).map aq) rfl rfl (by rw [Y]) rfl rfl rfl rfl rfl rfl (by show 8*_<=_;omega) (by unfold maxLen;omega) (by unfold jr;rw [List.map_replicate];rfl) rfl rfl ?_;refine zS ?_;refine ae (ι:=Bool×List Int×Nat) (λx=>⟨6,[(1,.loc 0 0),(2,.loc 1 0),(3,.loc 2 0),(4,.loc 4 0),(5,.loc 5 0)],OX p x.2.1 x.1⟩)
  (λx=>x.2.1.length=p.F0.length/\(∀ v∈x.2.1,0<=v/\v<=p.F0.length)/\(x.1=true->NN p=qw p.F0.length p.M0 x.2.2 x.2.1/\QO p.F0.length x.2.1<x.2.2)/\(x.1=false->NN p=some x.2.1)) (λx=>x.2.2)
  (true,jr p.F0.length,p.F0.length*p.F0.length+1) ⟨by simp [jr],λv Z=>by rw [List.eq_of_mem_replicate Z];constructor<;>omega,λ_=>⟨rfl,by rw [QB];exact Nat.lt_succ_self _⟩,λh=>by cases h⟩
  (er id) ?_
 rintro⟨o,A,m⟩ ⟨G,I,J,E⟩;dsimp only at G I J E ⊢;cases o with
 | false =>
  have E:=E rfl;refine zS ?_;refine ag (r5 1 0 3 rfl rfl rfl rfl rfl) ?_;repeat' (apply cr)
  exact⟨.inl rfl,_,rfl,rfl,by rw [E];rfl⟩
 | true =>
  obtain⟨B,g6⟩:=J rfl;obtain⟨m,rfl⟩:∃ m',m=m'+1:=⟨m-1,by omega⟩;refine zS ?_;refine ae (ι:=Nat×List Int×Bool) (λx=>⟨6,[(1,.loc 0 0),(2,.loc 1 0),(3,.loc 2 0),(4,.loc 4 0),(5,.loc 5 0),(17,.s 5<|p.M0.map dq),(18,.i (p.M0.map dq).length),(19,.i x.1)],OX p x.2.1 x.2.2⟩)
   (λx=>x.1<=p.M0.length/\su p.F0.length p.M0 A=(p.M0.drop x.1).foldl (km p.F0.length) (some (x.2.1,x.2.2))/\Rs p.F0.length A x.2.1 x.2.2) (λx=>p.M0.length-x.1)
   (0,A,false) ⟨Ai _,rfl,Rs.refl I⟩ (er id) ?_
  rintro⟨i,u,o⟩ ⟨f1,f2,f3⟩;dsimp only at f1 f2 f3 ⊢;have ll:(u.map aq).length=u.length:=Aa _;by_cases M:i<p.M0.length
  ·repeat' (first|refine zs ?_|refine z31 ?_ (hc:=by apply cT)|(refine zm ?_ ?_<;>intro F)|omega)
   obtain⟨a0,N⟩:=W p.M0[i]<|Ah M;have O:(p.M0.drop i).foldl (km p.F0.length) (some (u,o))=(p.M0.drop<|i+1).foldl (km p.F0.length) (((p.M0[i].body.filter d6).drop 0).foldl (ic p.F0.length p.M0[i].T0 p.M0[i].N0)<|some (u,o)):=by
    rw [An M,Bi,Fb];rfl
   rw [O] at f2;clear O;generalize p.M0[i]=r at a0 N f2 ⊢;refine ET (j8 r) rfl rfl (gK r) (bH r) (by simp) [(1,.loc 0 0),(2,.loc 1 0),(3,.loc 2 0),(4,.loc 4 0),(5,.loc 5 0),(7,.loc 6 0),(17,.s 5<|p.M0.map dq),(18,.i (p.M0.map dq).length),(19,.i i)] ⟨rfl,rfl,rfl,rfl,rfl,rfl,rfl,rfl,rfl,trivial⟩ rfl
    (ι:=List Int×Bool) (λ_ x=>(7,(6,ve r)::OX p x.1 x.2))
    (λj x=>su p.F0.length p.M0 A=(p.M0.drop<|i+1).foldl (km p.F0.length) (((r.body.filter d6).drop j).foldl (ic p.F0.length r.T0 r.N0)<|some x)/\Rs p.F0.length A x.1 x.2)
    (u,o) ⟨f2,f3⟩ rfl ?_ ?_
   ·rintro j hj ⟨c,C⟩ ⟨d,z⟩ O1 w1 E1 β1 l;obtain⟨P,hx⟩:=fK hj;rw [hx];dsimp only at d z ⊢;have a1:=Ah P;obtain⟨Q,R⟩:=List.mem_filter.1 a1;obtain⟨q1,q2⟩:=N _ Q R;rw [An P,Bi] at d;generalize (r.body.filter d6)[j]=x at Q R q1 q2 d ⊢;have a5:(c.map aq).length=c.length:=Aa _;have a9:=z.1;have hA:=z.2.1 (c[x.N0.toNat]'(by omega))<|Ah _;have f:=oJ (n:=p.F0.length) (T0:=r.T0) (N0:=r.N0) (ch:=C) (x:=x) (lv:=c) (by omega) (by omega);have T:=λU V=>Rs.next (T0:=r.T0) (N0:=r.N0) (x:=x) (lv':=U) (ch':=V) z (by omega)
    unfold m9 at f;change DW _ _ _ _ ((26,.b<|ru r.T0 x)::(25,.i x.N0)::_) _;generalize ru r.T0 x=sb at f ⊢;refine zS ?_;refine⟨rfl,λO2 w2 E2 b0=>?_⟩
    cases sb with
    | true =>
     rw [if_pos rfl] at f;repeat' (first|refine z0 ?_|apply i7|(apply mh;exact rfl;exact rfl;(apply k0;(omega));exact rfl;exact rfl;(exact mc rfl);(iterate 6 exact rfl))|refine zr ?_|(refine zm ?_ ?_<;>intro F)|omega)
     all_goals first
      | exact⟨(c.set r.N0.toNat (c[x.N0.toNat]'(by omega)+1),true),⟨by rw [d,f,if_neg (by omega),if_pos<|by omega],T _ _<|by rw [f,if_neg (by omega),if_pos<|by omega]⟩,er id⟩
      | exact⟨(c,C),⟨by rw [d,f,if_neg (by omega),if_neg<|by omega],z⟩,er id⟩
      | (refine⟨7,[(0,aG p),(1,.M1 22 [.s 1 []]),(2,.M1 4 [.b false])],ot (d9 1 0 1 rfl rfl rfl) (er id),?_⟩
         refine zS ?_;exact⟨.inl rfl,_,rfl,rfl,by rw [B,qw,d,f,if_pos (by omega),kl,mo];rfl⟩)
    | false =>
     simp only [Bool.false_eq_true,if_false,Int.add_zero] at f;repeat' (first|refine z0 ?_|apply i7|(apply mh;exact rfl;exact rfl;(apply k0;(omega));exact rfl;exact rfl;(exact mc rfl);(iterate 6 exact rfl))|refine zr ?_|(refine zm ?_ ?_<;>intro F)|omega)
     all_goals first
      | exact⟨(c.set r.N0.toNat (c[x.N0.toNat]'(by omega)),true),⟨by rw [d,f,if_neg (by omega),if_pos<|by omega],T _ _<|by rw [f,if_neg (by omega),if_pos<|by omega]⟩,er id⟩
      | exact⟨(c,C),⟨by rw [d,f,if_neg (by omega),if_neg<|by omega],z⟩,er id⟩
      | (refine⟨7,[(0,aG p),(1,.M1 22 [.s 1 []]),(2,.M1 4 [.b false])],ot (d9 1 0 1 rfl rfl rfl) (er id),?_⟩
         repeat' fail
         exact⟨.inl rfl,_,rfl,rfl,by rw [B,qw,d,f,if_pos (by omega),kl,mo];rfl⟩)
   ·rintro⟨c,C⟩ ⟨d,z⟩;rw [eK,Ar<|Af _] at d;refine zS ?_;exact⟨(i+1,c,C),⟨by dsimp only;omega,d,z⟩,er id,by show p.M0.length-(i+1)<p.M0.length-i;omega⟩
  ·rw [Ar<|by omega] at f2;have f2:su p.F0.length p.M0 A=some (u,o):=f2;rw [qw,f2] at B;repeat' (first|refine zs ?_|(refine zm ?_ ?_<;>intro F)|omega)
   refine⟨(o,u,m),⟨by dsimp only;rw [f3.1,G],f3.2.1,λh=>?_,λh=>?_⟩,er (λj=>match j with|5=>6|j=>j),by show m<m+1;omega⟩
   ·subst h;exact⟨B,by have:=f3.2.2.2 rfl;dsimp only;omega⟩
   ·subst h;exact B
abbrev ZY (v:Int):SV:=.i v
def pQ (left:List Int) (off cap:Nat) (cs:List SV):Prop:=off+cap<=cs.length/\(cs.drop off).take left.length=left.map ZY/\left.length<=cap
def pQ.head {n:Int} {left:List Int} {off cap:Nat} {cs:List SV} (h:pQ (n::left) off cap cs):cs[off]?=some (ZY n):=by
 obtain⟨c,b,d⟩:=h;have:((cs.drop off).take (n::left).length)[0]?=some (ZY n):=by rw [b];rfl
 rw [Bf,Eh] at this;simpa using this
def pQ.tail {n:Int} {left:List Int} {off cap:Nat} {cs:List SV} (h:pQ (n::left) off cap cs):pQ left (off+1) (cap-1) cs:=by
 obtain⟨f,b,d⟩:=h;simp only [Ba] at b d;refine⟨by omega,?_,by omega⟩
 have c:((cs.drop off).take<|left.length+1).drop 1=left.map ZY:=by rw [b];rfl
 rw [Ip,List.drop_drop] at c;simpa using c
def pQ.push {x:Int} {left:List Int} {off cap:Nat} {cs:List SV} (h:pQ left off cap cs) (b:left.length+1<=cap):pQ (left++[x]) off cap (nd cs (off+left.length*1) [ZY x]):=by
 obtain⟨d,c,f⟩:=h;have i:left.length<=(cs.drop off).length:=by rw [A9];omega
 refine⟨by unfold nd;simp;omega,?_,by simpa using b⟩
 unfold nd;rw [Dq,Ag,A0,Au,<- c,Bm,List.drop_append_of_le_length (by simp;omega),Ip];rw [show off+left.length-off=left.length by omega];rw [<- Bm,Bc (by simp;omega),Aj<|by simp;omega];rfl
def pQ.grow {x:Int} {left:List Int} {off cap b:Nat} {cs:List SV} (h:pQ left off cap cs) (c:left.length+1<=b) :
  pQ (left++[x]) 0 b ((cs.drop off).take (left.length*1)++[ZY x]++Aq ((b-(left.length+1))*1) .V1):=by
 obtain⟨f,d,i⟩:=h;rw [Dq,Dq,d];refine⟨by simp;omega,?_,by simpa using c⟩
 rw [Fb,Ag,A0,Bc (by simp),Aj (by simp),Au];rfl
abbrev ndH (q:Nat) (p:R3) (b:List Bool) (n off cap:Nat) (cs:List SV):Hp:=[(0,aG p),(1,.row 4 1 (b.map cu)),(2,.M1 150 [.row 1]),(q,.M1 3 cs),(4,.M1 22 [.sl q off n cap])]
structure ZZ where
 out:List Bool
 left:List Int
 n:Nat
 off:Nat
 cap:Nat
 cs:List SV
abbrev ZZ.ok (x:ZZ):Prop:=x.n=x.left.length/\pQ x.left x.off x.cap x.cs/\x.cap<=maxLen/\SV.U1 0 x.cs=true
abbrev ZZ.H (p:R3) (q:Nat) (x:ZZ):Hp:=ndH q p x.out x.n x.off x.cap x.cs
end
section
open Go Go.RowKit
variable [Y0]
section
variable {Γ : Ctx} {k : Nat} {L : Sl} {H H' : Hp}
def fv (i o j:Nat) {es:Nat} {te tb:TypeId} {cs:List SV} {h xs:List (List D)} {c:Hp} (u:tt h xs) (l:Hp.get H j=some (.row te es h)) (n:zh H j some=some c) (hH:Hp.get c i=some (.M1 tb cs)) (hc:cs[o]?=some (.row j))
  (p:zd c i (.M1 tb (cs.set o (.d (.own Y0.B (.slice es xs))))) some=some H'):X7 Γ k L H k L H':=by
 rw [ny] at n;cases n;rw [k9] at p;cases p;intro e a w m;obtain⟨r,_⟩:=m.del j;have z:∀ b,(e.η j).ownBlock=some b->Y0.B<=b:=λb A=>m.wU b<|List.mem_filterMap.2 ⟨_,Hp.mem_of l,A⟩
 have C:=Q0.owned u z<|qz m l;refine⟨_,r.Ck hH (Af _) rfl rfl rfl (λ_=>Af _) (λ_ _ _=>rfl) rfl ?_⟩
 obtain⟨f,E,s,F⟩:=(r.heap _<|Hp.mem_of hH).2;refine⟨f,E,?_,F⟩
 obtain⟨v,G,I⟩:=O0.get cs f s o (.row j) hc;have:=O0.set cs f s o (.d<|.own Y0.B<|.slice es xs) v<|by rw [I.2.1];exact C
 rwa [u7 G] at this
def av (i o es:Nat) {tb:TypeId} {cs:List SV} (hH:Hp.get H i=some (.M1 tb cs)) (hc:cs[o]?=some .Q1) (f:zd H i (.M1 tb (cs.set o (.d (.own Y0.B (.slice es []))))) some=some H'):X7 Γ k L H k L H':=by
 rw [k9] at f;cases f;intro e a w m;refine⟨_,m.Ck hH (Af _) rfl rfl rfl (λ_=>Af _) (λ_ _ _=>rfl) rfl ?_⟩
 obtain⟨b,j,h,l⟩:=(m.heap _<|Hp.mem_of hH).2;refine⟨b,j,?_,l⟩
 obtain⟨v,n,c⟩:=O0.get cs b h o .Q1 hc;have c:v=.slice none 0 0:=c;have:=O0.set cs b h o (.d<|.own Y0.B<|.slice es []) v<|by rw [c];exact Q0.own .nil
 rwa [u7 n] at this
end
attribute [local irreducible] DW DS DL DQ Ev X1 I3 du bl RM
def tJ {p:R3} (h:De p):IL p.F0.length p.M0:=λr b=>⟨(h.each r b).N0,λx c d=>((h.each r b).lits x c).N0 d⟩
def xD (p:R3):Int:=if dn db p≠0 then dn db p else if tm p then 0 else 4
def bW (p:R3):List Int:=if dn db p=0/\tm p=true then gn p else []
def qO (p:R3):Fn 240 [gy p] (λj=>j=.M2 [.s 1 ((bW p).map aq),.i (xD p)]):=by
 refine J2 func240 ?_;intro O n o r;have d:=cB p;unfold xD bW;by_cases c:dn db p=0
 ·have f:=Qh c;have b:=WU p f.gX f.M0<|tJ f;rw [IG p f] at b;rw [c] at d ⊢;cases h:tm p with
  | true =>
   rw [h,if_pos rfl] at b;unfold yR at b;dsimp only at b;repeat' (first|refine zr ?_|refine z21 ?_ d|refine z21 ?_ b|fail)
   exact vm rfl ⟨by simp,by simp⟩
  | false =>
   rw [h,if_neg<|by simp] at b;unfold yR at b;dsimp only at b;repeat' (first|refine zs ?_|refine z21 ?_ d|refine z21 ?_ b|fail)
   refine Sr 2 1 rfl ?_;refine zR ?_;exact vm rfl ⟨by simp,by simp⟩
 ·have l:decide (dn db p≠0)=true:=decide_eq_true c;generalize dn db p=q at d c l ⊢;repeat' (first|refine zs ?_|refine z21 ?_ d|(refine zm ?_ ?_<;>intro m)|fail)
  ·refine Sr 2 1 rfl ?_;refine zR ?_;exact vm rfl ⟨by simp [c],by simp [c]⟩
  ·exact absurd c m
def W9 (l:List O3):∀ (n:Nat) (lv:List Int),ph l (n+1) lv=mu l (ph l n lv)
 | 0,_=>rfl
 | n+1,lv=>by
  rw [ph,W9 l n (mu l lv)]
  rfl
def AU (b lv:List Int) (c:Bool) (B:Int):Prop:=mX b lv/\(c=false->lv=b)/\(c=true->lv≠b)/\∀ v∈lv,0<=v/\v<=B
def AU.refl {lv:List Int} {B:Int} (h:∀ v∈lv,0<=v/\v<=B):AU lv lv false B:=⟨mX.refl _,λ_=>rfl,(λh=>nomatch h),h⟩
def AU.more {b lv:List Int} {c:Bool} {B C:Int} (h:AU b lv c B) (hc:B<=C):AU b lv c C:=⟨h.1,h.2.1,h.2.2.1,λv d=>⟨(h.2.2.2 v d).1,Int.le_trans (h.2.2.2 v d).2 hc⟩⟩
def AU.set {d lv:List Int} {l:Bool} {B v:Int} {i:Nat} (h:AU d lv l B) (hi:i<lv.length) (p:lv[i]<v) (hb:v<=B+1):AU d (lv.set i v) true (B+1):=by
 obtain⟨b,r,s,f⟩:=h;have z:lv.getD i 0=lv[i]:=by rw [A4,Ad hi];rfl
 refine⟨⟨by rw [List.length_set];exact b.1,λj=>?_⟩,(λh=>nomatch h),λ_ m=>?_,λu n=>?_⟩
 ·have c:=b.2 j;rw [z7 _ _ _ hi];split
  ·rename_i o;subst o;omega
  ·exact c
 ·have c:=b.2 i;rw [<- m,z7 _ _ _ hi,if_pos rfl] at c;omega
 ·rcases List.mem_or_eq_of_mem_set n with h|h
  ·have:=f u h;omega
  ·have:=f _<|Ah hi;omega
def wS {f pr:Int} {lv:List Int} {x:T2} (b:¬ 2<x.R0) (h1:x.N0.toNat<lv.length) (c:pr.toNat<lv.length):Vh f pr lv x=if lv[pr.toNat]<lv[x.N0.toNat]+na f x then lv.set pr.toNat (lv[x.N0.toNat]+na f x) else lv:=by simp only [Vh,A4,Ad h1,Ad c,Cm,if_neg b]
abbrev one (n:Nat) (N0:Int):List Bool:=(Aq n false).set N0.toNat true
structure gZ (a b:List Bool×List Int):Prop where
 up:O7 a.1 b.1
 N1:∀ v∈a.2,v∈b.2
 new:∀ i:Int,0<=i->b.1.getD i.toNat false=true->a.1.getD i.toNat false=true∨i∈b.2
def gZ.refl (a:List Bool×List Int):gZ a a:=⟨O7.refl _,λ_ h=>h,λ_ _ h=>.inl h⟩
def gZ.trans {a b c:List Bool×List Int} (h:gZ a b) (g:gZ b c):gZ a c:=
 ⟨h.up.trans g.up,λv f=>g.N1 v (h.N1 v f),λi d j=>(g.new i d j).elim (λl=>(h.new i d l).imp id<|g.N1 i) .inr⟩

structure Ym where
 fact:U0
 fA:Int
 vars:List Int
def kW (r:O3):Nat:=if r.T0=0 then r.D0.length else r.D0.length-1
def QJ (r:O3) (f:U0) (w:List Int):Bool:=decide ((aW r w).take (kW r)=f.args.take (kW r))
def zo (r:O3) (f:U0) (ways:List (List Int)):List Int:=ways.getD (ways.findIdx<|QJ r f) []
def od (r:O3) (n:Int) (ways:List (List Int)):List U0->List U0->List Ym->Bool×List U0×List Ym
 | [],S,b=>(true,S,b)
 | f::l,S,b=>if Z4 S f then od r n ways l S b else if S.length=60 then (false,S,b)
  else od r n ways l (bg (S++[f])) (b++[⟨f,n,zo r f ways⟩])
def xU (r:O3) (w:List Int):(aW r w).length=r.D0.length:=Aa _
def wZ (r:O3):kW r<=r.D0.length:=by unfold kW;split<;>omega
def WG {r:O3} {ways:List (List Int)} {f:U0} (h:f∈jn r ways) (j:r.T0≠0->0<r.D0.length):f.args.length=r.D0.length/\∃ w∈ways,QJ r f w=true:=by
 rw [sf] at h;obtain⟨w,d,h⟩:=List.mem_filterMap.1 h;unfold headD at h;split at h
 ·rename_i b;simp only [Option.some.injEq] at h;subst h;exact⟨xU r w,w,d,decide_eq_true rfl⟩
 ·rename_i b;split at h
  ·simp only [Option.some.injEq] at h;subst h;have l:=j b;have i:(pW r w).1=(aW r w).take (r.D0.length-1):=rfl;have c:(pW r w).1.length=r.D0.length-1:=by rw [i,Ap,xU];omega
   refine⟨?_,w,d,decide_eq_true ?_⟩
   ·rw [Ag,c,A0];omega
   ·unfold kW;rw [if_neg b,<- i];show _=List.take _ _;rw [Bc (by rw [c];exact Af _),Aj<|by rw [c];exact Af _]
  ·cases h
def NA {r:O3} {f:U0} {ways:List (List Int)} (h:∃ w∈ways,QJ r f w=true):zo r f ways∈ways/\QJ r f (zo r f ways)=true:=by obtain⟨w,c,h⟩:=h;have b:=List.findIdx_lt_length_of_exists (xs:=ways) (p:=QJ r f) ⟨w,c,h⟩;unfold zo;rw [List.getD_eq_getElem?_getD,Ad b];exact⟨Ah b,List.findIdx_getElem (w:=b)⟩
structure tX (p:R3) (lv:List Int) (n:Int) (given:List U0) (hw:List Ym) (T:List U0) (i:Nat) (h:Ym):Prop where
 lo:0<=h.fA
 hi:h.fA.toNat<p.M0.length
 level:lv.getD (p.M0[h.fA.toNat]'hi).N0.toNat 0<n
 q':h.vars∈gw T (p.M0[h.fA.toNat]'hi)
 head:h.fact∈L7 T (p.M0[h.fA.toNat]'hi)
 is:QJ (p.M0[h.fA.toNat]'hi) h.fact h.vars=true
 ahead:(p.M0[h.fA.toNat]'hi).T0=0->∀ l∈(p.M0[h.fA.toNat]'hi).body,l.R0=1->(⟨l.N0,l.D0.map (vA h.vars)⟩:U0)∈given∨∃ g∈hw.take i,g.fact=⟨l.N0,l.D0.map (vA h.vars)⟩
structure HA (given S:List U0) (hw:List Ym):Prop where
 all:∀ x,x∈S↔x∈given∨∃ h∈hw,h.fact=x
 nodup:(hw.map (·.fact)).Nodup
 new:∀ h∈hw,h.fact ∉ given
def KU (p:R3) (lv:List Int) (n:Int) (c:List U0) (b:List Ym) (T:List U0):Prop:=∀ i h,b[i]?=some h->tX p lv n c b T i h
def KU.more {p:R3} {lv:List Int} {n:Int} {j:List U0} {b:List Ym} {T:List U0} (h:KU p lv n j b T) {s:Ym} (d:tX p lv n j b T b.length s):KU p lv n j (b++[s]) T:=by
 have v:∀ i,i<=b.length->(b++[s]).take i=b.take i:=λi m=>Bc m
 intro i g c;by_cases m:i<b.length
 ·rw [List.getElem?_append_left m] at c;have f:=h i g c;exact⟨f.lo,f.hi,f.level,f.q',f.head,f.is,λo l r u=>by rw [v i<|by omega];exact f.ahead o l r u⟩
 ·rw [List.getElem?_append_right<|by omega] at c;have z:i-b.length=0:=by
   apply Classical.byContradiction;intro B;rw [List.getElem?_eq_none<|by rw [A0];omega] at c;cases c
  have A:i=b.length:=by omega
  rw [z] at c;simp only [List.getElem?_cons_zero,Option.some.injEq] at c;subst c;subst A;exact⟨d.lo,d.hi,d.level,d.q',d.head,d.is,λo l r u=>by rw [v _<|Af _];have:=d.ahead o l r u;exact this⟩
def HA.more {f S:List U0} {i:List Ym} (h:HA f S i) {s:Ym} (l:s.fact ∉ S):HA f (bg (S++[s.fact])) (i++[s]):=by
 have m:s.fact ∉ f/\∀ g∈i,g.fact≠s.fact:=⟨λo=>l ((h.all _).2<|.inl o),λg c j=>l<|(h.all _).2<|.inr ⟨g,c,j⟩⟩
 refine⟨λx=>?_,?_,λg c=>?_⟩
 ·rw [(bu _).2,C0,A1,h.all];constructor
  ·rintro ((b|⟨g,b,d⟩)|b)
   ·exact .inl b
   ·exact .inr ⟨g,Ax _ b,d⟩
   ·exact .inr ⟨s,Bv _ (List.mem_singleton.2 rfl),b.symm⟩
  ·rintro (b|⟨g,b,d⟩)
   ·exact .inl<|.inl b
   ·rcases List.mem_append.1 b with b|b
    ·exact .inl<|.inr ⟨g,b,d⟩
    ·rw [A1] at b;subst b;exact .inr d.symm
 ·rw [Au];refine List.nodup_append.2 ⟨h.nodup,by simp,λx p y n j=>?_⟩;rw [List.map_singleton,A1] at n;obtain⟨g,c,rfl⟩:=List.mem_map.1 p;exact m.2 g c<|j.trans n
 ·rcases List.mem_append.1 c with c|c
  ·exact h.new g c
  ·rw [A1] at c;subst c;exact m.1
structure Ke (p:R3) (lv:List Int) (n:Nat) (given m0 S:List U0) (hw:List Ym):Prop where
 inv:Md (V7 p lv n m0) m0 S
 WZ:HA given S hw
 stp:∀ T,Good (V7 p lv n m0) m0 T->KU p lv (n+1) given hw T
def Lk {p:R3} (v:Jn p) {lv:List Int} (F:Pb p lv) {n:Nat} {G o:List U0} {i:Nat} (hi:i<p.M0.length) (N:lv.getD (p.M0[i]).N0.toNat 0=n) {d:List U0} {Z:List Ym} (m:Ke p lv n G o d Z) (hm:J3 d p.M0[i]=true) :
  ∀ (r S:List U0) (j:List Ym),(∀ f∈r,f∈L7 d p.M0[i])->Ke p lv n G o S j->(∀ x∈d,x∈S)->(∀ g∈Z,g∈j)->d.length<=S.length ->
   ((od p.M0[i] i (gw d p.M0[i]) r S j).1=true->Ke p lv n G o (od p.M0[i] i (gw d p.M0[i]) r S j).2.1 (od p.M0[i] i (gw d p.M0[i]) r S j).2.2 /\
    (∀ x∈S,x∈(od p.M0[i] i (gw d p.M0[i]) r S j).2.1)/\(∀ x∈r,x∈(od p.M0[i] i (gw d p.M0[i]) r S j).2.1)/\S.length<=(od p.M0[i] i (gw d p.M0[i]) r S j).2.1.length) /\
   ((od p.M0[i] i (gw d p.M0[i]) r S j).1=false->¬ ∃ a9,Fit (V7 p lv n o) o a9)
 | [],S,j,_,h,_,_,_=>⟨λ_=>⟨h,λ_ h=>h,λ_ h=>by simp at h,Af _⟩,λO=>by simp [od] at O⟩
 | f::l,S,j,z,h,hs,P,b0=>by
  have hV:=Tl v F n o;have Q:p.M0[i]∈(V7 p lv n o).rs:=List.mem_filter.2 ⟨Ah hi,decide_eq_true N⟩;have I:=z f (Ac ..);have a0:=λg u=>z g (Ak _ u)
  unfold od;by_cases J:Z4 S f=true
  ·rw [if_pos J];obtain⟨a,b⟩:=Lk v F hi N m hm l S j a0 h hs P b0;refine⟨λC=>?_,b⟩
   obtain⟨R,E,U,a4⟩:=a C;refine⟨R,E,λx c=>?_,a4⟩
   rcases List.mem_cons.1 c with rfl|c
   ·exact E x (M4.1 J)
   ·exact U x c
  ·rw [if_neg J];have V:f ∉ S:=λhc=>J (M4.2 hc)
   by_cases W:S.length=60
   ·rw [if_pos W];refine⟨λC=>by simp at C,λ_=>RL hV h.inv (H:=[f]) (λx c=>?_) (by simp) (λx c=>?_) (by rw [W];simp)⟩
    ·rw [A1] at c;subst c;exact⟨_,Q,d,m.inv,I⟩
    ·rw [A1] at c;subst c;exact V
   ·rw [if_neg W];obtain⟨w1,M⟩:=bu (S++[f]);have b1:=l6 (S++[f]);rw [Ag,A0] at b1;have c0:=h.inv.len;have b2:Md (V7 p lv n o) o (bg (S++[f])):=Yh hV h.inv (λx c=>by
     rw [A1] at c;subst c;exact⟨_,Q,d,m.inv,I⟩) (by omega)
    have c1:S.length+1<=(bg (S++[f])).length:=by
     have:=om (a:=f::S) (b:=bg<|S++[f]) (List.nodup_cons.2 ⟨V,h.inv.strict.nodup⟩) λx c=>by
      rw [M,C0,A1];rcases List.mem_cons.1 c with h|h
      ·exact .inr h
      ·exact .inl h
     rw [Ba] at this;exact this
    have X:=v.gA _<|Ah hi;obtain⟨wm,wi⟩:=NA (WG (((bu _).2 f).1 I) λO=>(X.Km O).1).2;have hb:Ke p lv n G o (bg<|S++[f]) (j++[⟨f,i,zo p.M0[i] f<|gw d p.M0[i]⟩]):=by
     refine⟨b2,h.WZ.more (s:=⟨f,i,zo p.M0[i] f<|gw d p.M0[i]⟩) V,λT A=>(h.stp T A).more ?_⟩
     have b3:=m.inv.least T A;have hk:∀ l∈(p.M0[i]).body,l.R0<=2->na (p.M0[i]).T0 l=1->∀ x:U0,x.N0=l.N0->(x∈d↔x∈T):=by
      intro l Y b4 c2 x c;have:=F.fit _ (Ah hi) l Y b4
      have a5:lv.getD x.N0.toNat 0<(n:Int):=by rw [c];omega
      exact (m.inv.a.2 x a5).trans (A.a.2 x a5).symm
     obtain⟨_,g2,g3⟩:=MA X v.ar m.inv.a.1 A.a.1 m.inv.strict.nodup A.strict.nodup b3 hk<|A.eZ _ Q;have B:((i:Int)).toNat=i:=Int.toNat_natCast i;refine⟨Int.natCast_nonneg i,by rw [B];exact hi,?_,?_,?_,?_,?_⟩
     ·simp only [B];omega
     ·simp only [B];exact g2 _ wm
     ·simp only [B];exact Yw g2 g3 f I
     ·simp only [B];exact wi
     ·simp only [B];intro c3 l Y b5;have b6:=Zq wm;have sS:=ud X v.ar m.inv.a.1;obtain⟨_,_,p3⟩:=oc m.inv.strict.nodup sS.ok.lit sS.bd;have z:=((p3 _).1 b6).2 l Y;unfold K3 at z;rw [if_pos b5] at z;have b7:=M4.1 z;rcases (m.WZ.all _).1 b7 with u|⟨g,u,he⟩
      ·exact .inl u
      ·exact .inr ⟨g,by rw [Aj<|Af _];exact P g u,he⟩
    obtain⟨a,b⟩:=Lk v F hi N m hm l _ _ a0 hb (λx c=>(M x).2<|Ax _<|hs x c) (λg u=>Ax _<|P g u) (by omega);refine⟨λC=>?_,b⟩
    obtain⟨R,E,U,a4⟩:=a C;refine⟨R,λx c=>E x ((M x).2<|Ax _ c),λx c=>?_,by omega⟩
    rcases List.mem_cons.1 c with rfl|c
    ·exact E x<|(M x).2<|Bv _<|List.mem_singleton.2 rfl
    ·exact U x c
end
section
open Go Go.RowKit
variable [Y0]
def EU (S:Nat->Prop) (H:Hp) (s:SV) (d:D):Prop:=s=.d d∨(∃ i f b c,s=.row i/\S i/\Hp.get H i=some (.row f b c)/\d=.slice b c)∨(s=.Q1/\∃ b,d=.slice b [])
def Je (S:Nat->Prop) (H:Hp) (id:Nat) (ds:List D):Prop:=S id/\∃ ty b,Hp.get H id=some (.M1 ty b)/\∀ j (h:j<ds.length),∃ s,b[j]?=some s/\EU S H s ds[j]
def kS:∀ {H:Hp},(H.map (·.1)).Nodup->∀ {p q:Nat×HB},p∈H->q∈H->p.1=q.1->p=q
 | [],_,_,_,h,_,_=>by simp at h
 | x::H,j,p,q,l,d,b=>by
  obtain⟨f,m⟩:=List.nodup_cons.1 j
  rcases List.mem_cons.1 l with rfl|i
  ·rcases List.mem_cons.1 d with rfl|c
   ·rfl
   ·exact absurd (List.mem_map.2 ⟨q,c,b.symm⟩) f
  ·rcases List.mem_cons.1 d with rfl|c
   ·exact absurd (List.mem_map.2 ⟨p,i,b⟩) f
   ·exact kS m i c b
def Hp.WL {i:Nat}:∀ {H:Hp} {p:Nat×HB},p∈H->p.1≠i->p∈Hp.del H i
 | [],_,h,_=>by simp at h
 | (d,s)::H,p,c,f=>by
  simp only [Hp.del]
  cases j:Nat.beq d i with
  | true =>
   have:=Ao j
   rcases List.mem_cons.1 c with rfl|b
   ·exact absurd this f
   ·exact b
  | false =>
   rcases List.mem_cons.1 c with rfl|b
   ·exact Ac ..
   ·exact Ak _<|Hp.WL b f
section
variable {Γ : Ctx} {k : Nat} {L : Sl} {H : Hp} {a : Act} {w : World} {e : Env} {S : Nat -> Prop} {X' : Nat -> Prop}
def eU (m:J0 Γ k L H e a w) (h1:∀ b,X' b->Γ.X e H b) (o:∀ p∈H,S p.1->∀ b,HB.owned e p=some b->¬ X' b) {s:SV} {d:D} (h:EU S H s d) {v:Value} (c:Rel (Γ.X e H) e w s v):Q0 X' w v d:=by
 rcases h with rfl|⟨i,B,r,C,rfl,u,l,rfl⟩|⟨rfl,r,rfl⟩
 ·exact Q0.N1 (Af _) (λ_ _ _=>rfl) (λb _ h=>h1 b h) c
 ·rw [c.2.1];refine Q0.N1 (Af _) (λ_ _ _=>rfl) (λb _ h=>?_)<|qz m l;rcases h1 b h with f|f
  ·exact .inl f
  ·obtain⟨p,j,n⟩:=List.mem_filterMap.1 f;have z:p.1≠i:=by
    intro A;have:=kS m.ids j (Hp.mem_of l) A
    subst this;exact o _ j u b n h
   exact .inr<|List.mem_filterMap.2 ⟨p,Hp.WL j z,n⟩
 ·rw [show v=.slice none 0 0 from c];exact .nil
def HL (m:J0 Γ k L H e a w) (h1:∀ b,X' b->Γ.X e H b) (l:∀ p∈H,S p.1->∀ b,HB.owned e p=some b->¬ X' b) {id:Nat} {ds:List D} (h:Je S H id ds) {v:Value} (z:v=.pointer (some ⟨e.β id,0,none⟩)):Q0 X' w v (.ptr ds):=by
 obtain⟨A,ty,I,B,C⟩:=h;have n:=Hp.mem_of B;obtain⟨o,f,E,_⟩:=(m.heap _ n).2;subst z;have r:∀ j (c:j<ds.length),∃ u,o[j]?=some u/\Q0 X' w u ds[j]:=by
  intro j c;obtain⟨s,F,G⟩:=C j c;obtain⟨u,d,i⟩:=O0.get _ _ E j s F;exact⟨u,d,eU m h1 l G i⟩
 refine .ptr (λj=>o.getD j undef) (l _ n A _ rfl) (cz f) (λj c=>?_) (λj c=>?_)<|λ_ j c=>ky f
 ·obtain⟨u,d,_⟩:=r j c;rw [cell_of_row w _ _ _ ty (0,0) f,C4];simp [A4,d]
 ·obtain⟨u,d,i⟩:=r j c;simp only [A4,d,Cm];exact i
def ZF (m:J0 Γ k L H e a w) (h1:∀ b,X' b->Γ.X e H b) (A:∀ p∈H,S p.1->∀ b,HB.owned e p=some b->¬ X' b) {i n cap:Nat} {te:TypeId} {cs:List SV} {l:List (List D)} (F:S i) (hH:Hp.get H i=some (.M1 te cs)) (G:l.length=n)
  (hc:∀ j (h:j<l.length),∃ id,cs[j]?=some (.loc id 0)/\Je S H id l[j]) {v:Value} (I:Rel (Γ.X e H) e w (.sl i 0 n cap) v):Q0 X' w v (.slice 1 (l.map λds=>[.ptr ds])):=by
 obtain⟨_,J,M,o,rfl,N⟩:=I;have B:=Hp.mem_of hH;obtain⟨C,s,O,_⟩:=(m.heap _ B).2;have E:∀ j (c:j<l.length),∃ u,C[j]?=some u/\Q0 X' w u (.ptr l[j]):=by
  intro j c;obtain⟨id,P,Q⟩:=hc j c;obtain⟨u,r,z⟩:=O0.get _ _ O j _ P;exact⟨u,r,HL m h1 A Q z.2⟩
 subst G;refine .slice (λd _=>C.getD d undef) (by simp) J M (A _ B F _ rfl) (cz s) (λd f=>by simp) (λd f j c=>?_) (λd f j c=>?_)<|λ_ d f j c=>ky s
 ·rw [Aa] at f;simp only [Dp,Ba,Dv,C4,Iq] at c;subst c;obtain⟨u,r,_⟩:=E d f;have:o=0:=N (by omega)
  subst this;rw [cell_of_row w _ _ _ te (0,0) s,C4,Dq];simp [A4,r]
 ·rw [Aa] at f;simp only [Dp,Ba,Dv,C4,Iq] at c;subst c;obtain⟨u,r,z⟩:=E d f;simp only [A4,r,Cm,Dp,List.getElem_cons_zero];exact z
end
def I3.NC {c:Bool} {P:Program} {τ:List (Nat×TI)} {τok:c8 P τ} {f:FuncId} {args:List SV} {R:SV->Prop} (hc:I3 c P τ τok f args R) (e:Env) {w:World} (O:Nat->Prop) (o:∀ b,O b->b<w.heap.size) (p:S7 P (λ_=>False) w) (s:SV.U1 0 args=true)
  (vs:List Value) (u:O0 O e w args vs) :
  Calls P f vs.toArray w (λm w'=>∃ r v,R r/\m=.returned v/\W4 c w.heap.size w w'/\r.low 0=true/\Rel O e w' r v):=by
 have n:∀ d b,Ctx.X ⟨P,τ,τok,O,w,λb=>b∈ah (e.V2 id 0) [],0,0,(e.V2 id 0).an,none,da,true,c⟩ d [] b↔O b:=by
  intro d b;unfold Ctx.X;simp [ah]
 refine (hc.2 O (e.V2 id 0) w vs ⟨λ_=>Iff.rfl,by simp,by simp,by simp [ah],by simp [ah],rfl,rfl,rfl,λ_=>Af _,Af _,λ_ _ _=>rfl,λb h=>⟨o b h,by simp [ah]⟩,p.sub (by simp [ah]),λj i=>absurd i (A2 j),λj i=>absurd i<|A2 j⟩ ?_).mono ?_
 ·exact O0.N1 (Af _) (λ_ _ _=>rfl) (λb _ l=>(n _ b).1 l) _ _<|O0.env _ _ s u
 ·rintro m w' ⟨k',r,H',d,v,⟨rfl,hlr,hR⟩,rfl,hH,hrel⟩;refine⟨r,v,hR,rfl,⟨⟨hH.os,hH.tape,hH.output,hH.size,λb h=>hH.block b h<|by simp [ah]⟩,hH.drawn⟩,hlr,?_⟩
  exact Rel.N1 (Af _) (λ_ _ _=>rfl) (λb _ l=>(n _ b).2 l) _ _<|Rel.env _ _ hlr hrel
def PQ {X Y:Nat->Prop} {e e':Env} {w w':World} {s:SV} {u v:Value} (c:s.sure=some u) (f:Rel X e w s v):Rel Y e' w' s v:=by
 cases s with
 | d x =>
  cases x with
  | int i n=>cases f;exact .int<|by assumption
  | bool b=>cases f;exact .bool
  | str s=>cases f;exact .str<|by assumption
  | slice=>simp [SV.sure] at c
  | ptr=>simp [SV.sure] at c
  | own=>simp [SV.sure] at c
 | _=>simp [SV.sure] at c
section
variable {Γ : Ctx} {k : Nat} {L : Sl} {H : Hp} {K : cn} {ops : List Oper} {rest : List Oper}
def HM {f:FuncId} {xs:List Operand} {i:Array TypeId} {ty:TypeId} {d:Nat} {args:List SV} {r:SV} {u:Value} (j:ap ops L g=some true)
  (l:∀ e a w,J0 Γ k L H e a w->O0 Γ.O e w args (xs.map a.eval)) (hc:I3 Γ.dr Γ.P Γ.τ Γ.τok f args (λs=>s=r)) (o:r.sure=some u) (p:SV.U1 0 args=true) (z:Av d Γ.n=true)
  (A:DS false Γ ops rest K k ((d,r)::L) H) :
  DS false Γ ops (⟨some d,.call { callee:=.value (.func f),args:=xs.toArray,argTypes:=i },ty,pos,af,g⟩::rest) K k L H:=by
 refine gj j λe a w m=>?_
 unfold Oper.wp;rw [io hc.1];rw [Oper.upon_enter];refine (hc.NC (τ:=Γ.τ) (τok:=Γ.τok) e Γ.O (λb c=>Nat.lt_of_lt_of_le (m.T1 b c).1 m.size) (m.U6.sub λ_ h=>h.elim) p _<|l e a w m).mono ?_;rintro en w' ⟨r',v,rfl,rfl,c,hlr,hrel⟩;exact⟨k,_,H,e,(m.below c).put (Ab z) (PQ o hrel),A⟩
def yW {S:Nat->Prop} {i n cap:Nat} {te:TypeId} {cs:List SV} {r:List (List D)} (t:Nat) {H':Hp} (B:L.get t=.sl i 0 n cap) (C:S i) (hH:Hp.get H i=some (.M1 te cs)) (E:r.length=n)
  (hc:∀ j (h:j<r.length),∃ id,cs[j]?=some (.loc id 0)/\Je S H id r[j]) (l:∀ p∈H',p∈H/\¬ S p.1) (F:(H'.map (·.1)).Nodup) (G:∀ e,(ah e H).Nodup->(ah e H').Nodup) :
  X7 Γ k L H k ((t,.d (.slice 1 (r.map λds=>[.ptr ds])))::L) H':=by
 intro e a w m;have s:∀ b,Γ.X e H' b->Γ.X e H b:=λb f=>f.imp id λf=>by
  obtain⟨p,c,u⟩:=List.mem_filterMap.1 f;exact List.mem_filterMap.2 ⟨p,(l p c).1,u⟩
 have I:∀ p∈H,S p.1->∀ b,HB.owned e p=some b->¬ Γ.X e H' b:=by
  intro p c J b f o;rcases o with o|o
  ·exact (m.M3 b<|List.mem_filterMap.2 ⟨p,c,f⟩).2 o
  ·obtain⟨q,z,M⟩:=List.mem_filterMap.1 o;exact m.O5 (l q z).1 c (λN=>(l q z).2<|N▸J) M f
 refine⟨e,⟨⟨m.top,λp c=>⟨(m.heap p (l p c).1).1,I4.N1 (Af _) (λ_ _ _=>rfl) (λb _ v=>s b v) p (λ_ _=>rfl) (m.heap p (l p c).1).2⟩,F,G e m.nodup,λb f=>m.M3 b (by
  obtain⟨p,c,u⟩:=List.mem_filterMap.1 f;exact List.mem_filterMap.2 ⟨p,(l p c).1,u⟩),m.os,m.tape,m.output,m.drawn,m.size,m.block,m.T1,m.S4,m.L8,m.anchor⟩,m.defers,m.len,λt'=>?_⟩⟩
 rw [Sl.C1];split
 ·rename_i O;subst O;have A:=m.slot t;rw [B] at A;exact ZF m s I C hH E hc A
 ·exact Rel.N1 (Af _) (λ_ _ _=>rfl) (λb _ v=>s b v) _ _<|m.slot t'
end
section
variable {Γ : Ctx} {k : Nat} {L : Sl} {H : Hp} {K : cn} {ops : List Oper} {rest : List Oper} {t t' ty : TypeId} {x y : Operand}
def BA {d te t2 i off n cap es j a0:Nat} {cs:List SV} {z:SV}
  (ht:Γ.sh t=.slice te) (b6:(Γ.sh te).known=true) (a1:Γ.cells te=es) (b7:Av 0 es=true) (hz:Nat.beq (ai Γ.τ te).zero.length (Γ.cells te)=true) (c0:gp (ai Γ.τ te).zero=true)
  (hx:aj L x=.sl i off n cap) (hH:Hp.get H i=some (.M1 te cs)) (M:off+cap<=cs.length) (hy:aj L y=.sl j 0 1 1) (c1:Hp.get H j=some (.M1 a0 [z])) (C:es=1) (hw:ap ops L g=some true) (hd:Av d Γ.n=true)
  (c2:(n+1)*(ai Γ.τ te).bytes<=140737488355328) (a2:n+1<=maxLen)
  (c3:n+1<=cap->DS false Γ ops rest K k ((d,.sl i off (n+1) cap)::L) (Hp.set H i (.M1 te (nd cs (off+n) [z]))))
  (c4:∀ E,cap<n+1->n+1<=E->E<=maxLen->DS false Γ ops rest K (k+1) ((d,.sl k 0 (n+1) E)::L) ((k,.M1 te ((cs.drop off).take n++[z]++Aq (E-(n+1)) .V1))::H)) :
  DS false Γ ops (⟨some d,.call { callee:=.builtin .append,args:=#[x,y],argTypes:=#[t,t] },t2,pos,af,g⟩::rest) K k L H:=by
 have M:off+cap*es<=cs.length:=by rw [C,Dq];exact M
 refine gj hw λe a w m=>?_
 obtain⟨p,zv,hi,c5,hs,N,a3⟩:=Ctx.info<|Sh.Y1 b6;have a4:=Ctx.slice ht;obtain⟨c6,e1,e2,o,a5,a9⟩:=Q5 m hx (Vm · _ _ _ _);obtain⟨_,_,_,oy,b0,e3⟩:=Q5 m hy (Vm · _ _ _ _);have e4:=e3 (by omega);subst e4;obtain⟨c,e5,b1,e6⟩:=(m.heap _<|Hp.mem_of c1).2;have b2:=O0.length _ _ b1;obtain⟨f,O,F,Q⟩:=(m.heap _<|Hp.mem_of hH).2;have b3:=O0.length _ _ F;have A:p.size=es:=by rw [hs,a1]
 have g8:=Ab b7;have R:c.length=1*es:=by rw [<- b2,C];rfl
 have u2:∀ q u,c[q]?=some u->w.cell? ((⟨e.β j,0,none⟩:Addr).add q)=some u:=by
  intro q u hq;rw [Addr.Y3,cell_of_row w _ _ _ a0 (0,0) e5];simpa using hq
 have T:=e6;have e7:[z].length=c.length:=b2;have b4:O0 (Γ.X e H) e w [z] c:=b1;by_cases G:n+1<=cap
 ·have U:o=off:=a9 (by omega);subst U;have e9:o+n*p.size+c.length<=f.toArray.size:=by
   rw [R,A,List.size_toArray,<- b3,Nat.add_assoc,<- Nat.add_mul];exact Nat.le_trans (Nat.add_le_add_left (A8 _ G) _) M
  have I:=sr (P:=Γ.P) w t t2 te p a4 hi (e.β i) o n cap te f.toArray O ⟨e.β j,0,none⟩ 1 1 c (by rw [A];exact R) u2 T G e9;have V:(execOp a.eval ⟨some d,.call { callee:=.builtin .append,args:=#[x,y],argTypes:=#[t,t] },t2,pos,af,g⟩).run Γ.P w=.ok (.value<|.slice (some ⟨e.β i,o,none⟩) (n+1) cap) (w.setRow (e.β i) (f.toArray.toList.take (o+n*p.size)++c++f.toArray.toList.drop (o+n*p.size+c.length)).toArray):=by
   simp only [execOp,resolve,invoke,builtin,Sem.run_bind,Sem.run_pure,Result.andThen_ok,D1,A3,Dm,a5,b0,I]
  unfold Oper.wp;rw [V];have J:J0 Γ (lo k) L (Hp.set H i<|.M1 te<|nd cs (o+n*es)<|[z]) e a (w.setRow (e.β i) (f.toArray.toList.take (o+n*p.size)++c++f.toArray.toList.drop (o+n*p.size+c.length)).toArray):=by
   refine m.Ck (b':=.M1 te<|nd cs (o+n*es)<|[z]) hH ?_ rfl rfl rfl (λ_=>Af _) (λg0 _ hc=>setRow_other w _ g0 _<|λh=>hc<|by simp [HB.owned,h]) rfl ?_
   ·simp [World.setRow]
   ·refine⟨_,setRow_heap w (e.β i) f.toArray _ te (0,0) O,?_,λv l=>?_⟩
    ·have g1:∀ b,b<w.heap.size->¬ Γ.X e H b->(w.setRow (e.β i) (f.toArray.toList.take (o+n*p.size)++c++f.toArray.toList.drop (o+n*p.size+c.length)).toArray).heap[b]?=w.heap[b]?:=λb _ N=>setRow_other w _ b _ (λh=>N (.inr (List.mem_filterMap.2 ⟨_,Hp.mem_of hH,by simp [HB.owned,h]⟩)))
     refine O0.N1 (by simp [World.setRow]) g1 (λ_ _ h=>h) _ _ ?_;unfold nd;rw [A,e7];exact O0.append _ _ _ _ (O0.append _ _ _ _ (O0.take _ _ F _) b4)<|O0.drop _ _ F _
    ·simp only [C0] at l;rcases l with (l|l)|l
     ·exact Q v<|Bz l
     ·exact T v l
     ·exact Q v<|B4 l
  exact⟨_,_,_,_,J.put (s:=.sl i o (n+1) cap) (Ab hd) ⟨c6,G,e2,o,rfl,λ_=>rfl⟩,by rw [C,Dq];exact c3 G⟩
 ·have W:cap<n+1:=by omega
  have g2:((f.drop off).take<|n*es).length=n*p.size:=by
   rw [Ap,A9,<- b3,A];have:n*es<=cap*es:=A8 _ e1
   omega
  have g3:∀ j v,((f.drop off).take<|n*es)[j]?=some v->w.cell? ((⟨e.β i,o,none⟩:Addr).add j)=some v:=by
   intro j v B;have b5:j<n*es:=by
    rw [Bf] at B;split at B
    ·assumption
    ·cases B
   have g4:0<cap:=by
    rcases Nat.eq_zero_or_pos n with h|h
    ·rw [h,Nat.zero_mul] at b5;omega
    ·omega
   have U:=a9 g4;subst U;rw [Bf,if_pos b5,Eh] at B;rw [Addr.Y3,cell_of_row w _ _ _ te (0,0) O];simpa using B
  have g5:((n+1:Nat):Int)<=9223372036854775807:=by unfold maxLen at a2;omega
  have I:=run_append_grow (P:=Γ.P) w t t2 te p zv a4 hi c5 ⟨e.β i,o,none⟩ n cap ((f.drop off).take<|n*es) g2 g3 ⟨e.β j,0,none⟩ 1 1 c (by rw [A];exact R) u2 W g5 (growslice_fits W<|by rw [N];exact c2);have Y:=grownCap_ge w (n+1) cap te;have Z:grownCap w (n+1) cap te<=maxLen:=grownCap_le_maxLen w (n+1) cap te a2;generalize grownCap w (n+1) cap te=r at I Y Z;have V:(execOp a.eval ⟨some d,.call { callee:=.builtin .append,args:=#[x,y],argTypes:=#[t,t] },t2,pos,af,g⟩).run Γ.P w=.ok (.value<|.slice (some ⟨w.heap.size,0,none⟩) (n+1) r)
    (w.drew.alloc<|.cells (((f.drop off).take<|n*es).toArray++c.toArray++Builtin.zeroCells zv.cells (r-(n+1))) te):=by
   simp only [execOp,resolve,invoke,builtin,Sem.run_bind,Sem.run_pure,Result.andThen_ok,D1,A3,Dm,a5,b0,I]
  unfold Oper.wp;rw [V];have m1:J0 Γ (lo k) L H e a w.drew:=m.below<|(W4.refl _ _ _).drew;have g6:zv.cells.size=es:=by rw [<- A5,a3,Ao hz,a1]
  have J:=(m1.alloc (ir k) (cs:=(cs.drop off).take (n*es)++[z]++Aq ((r-(n+1))*es) .V1)
   (vs:=(f.drop off).take (n*es)++c++(Builtin.zeroCells zv.cells<|r-(n+1)).toList) te
   (O0.append _ _ _ _ (O0.append _ _ _ _ (O0.take _ _ (O0.drop _ _ (O0.N1 (w:=w) (w':=w.drew) (Af _) (λ_ _ _=>rfl) (λ_ _ h=>h) _ _ F) _) _)<|O0.N1 (w:=w) (w':=w.drew) (Af _) (λ_ _ _=>rfl) (λ_ _ h=>h) _ _ b4)<|Pw _ _<|by rw [A5,size_zeroCells,g6])
   (λv l=>by
    simp only [C0] at l;rcases l with (l|l)|l
    ·exact Q v<|B4<|Bz l
    ·exact T v l
    ·have:=nh l
     rw [a3] at this;exact (ij (X:=Γ.X e H) (e:=e) (w:=w) _ c0).2 v this)).cast<|gv k
  have g7:((f.drop off).take (n*es)++c++(Builtin.zeroCells zv.cells<|r-(n+1)).toList).toArray=((f.drop off).take<|n*es).toArray++c.toArray++Builtin.zeroCells zv.cells (r-(n+1)):=by simp
  rw [g7] at J;refine⟨_,_,_,_,J.put (s:=.sl k 0 (n+1) r) (Ab hd) ⟨.inr rfl,Y,Z,0,?_,λ_=>rfl⟩,by rw [C,Dq,Dq];exact c4 r W Y Z⟩
  show _=Value.slice (some ⟨(e.bind k w.heap.size).β k,0,none⟩) (n+1) r;rw [show (e.bind k w.heap.size).β k=w.heap.size from if_pos rfl]
def Oy {d te t2 es j p:Nat} {h:SV}
  (I:Γ.sh t=.slice te) (J:(Γ.sh te).known=true) (r:Γ.cells te=es) (M:Av 0 es=true) (N:Nat.beq (ai Γ.τ te).zero.length (Γ.cells te)=true) (O:gp (ai Γ.τ te).zero=true)
  (Q:aj L x=.Q1) (R:aj L y=.sl j 0 1 1) (T:Hp.get H j=some (.M1 p [h])) (z:es=1) (U:ap ops L g=some true) (V:Av d Γ.n=true)
  (b6:(ai Γ.τ te).bytes<=140737488355328)
  (W:∀ i,1<=i->i<=maxLen->DS false Γ ops rest K (k+1) ((d,.sl k 0 1 i)::L) ((k,.M1 te ([h]++Aq (i-1) .V1))::H)) :
  DS false Γ ops (⟨some d,.call { callee:=.builtin .append,args:=#[x,y],argTypes:=#[t,t] },t2,pos,af,g⟩::rest) K k L H:=by
 refine gj U λe a w m=>?_
 obtain⟨A,zv,Y,Z,hs,hb,B⟩:=Ctx.info<|Sh.Y1 J;have a0:=Ctx.slice I;have a1:=vK m Q;obtain⟨_,_,_,oy,a2,a3⟩:=Q5 m R (Vm · _ _ _ _);have a4:=a3 (by omega);subst a4;obtain⟨b,a5,C,a9⟩:=(m.heap _<|Hp.mem_of T).2;have E:=O0.length _ _ C;have b0:A.size=es:=by rw [hs,r]
 have b7:=Ab M;have u1:b.length=1*es:=by rw [<- E,z];rfl
 have u2:∀ q u,b[q]?=some u->w.cell? ((⟨e.β j,0,none⟩:Addr).add q)=some u:=by
  intro q u hq;rw [Addr.Y3,cell_of_row w _ _ _ p (0,0) a5];simpa using hq
 have u3:=a9;have c0:[h].length=b.length:=E;have b1:O0 (Γ.X e H) e w [h] b:=C;have F:=run_append_nil (P:=Γ.P) (w:=w) t t2 te A zv a0 Y Z ⟨e.β j,0,none⟩ 1 1 b (by rw [b0];exact u1) u2 (by omega) (by omega) (by rw [hb];omega);have l:=grownCap_ge w 1 0 te;have o:grownCap w 1 0 te<=maxLen:=grownCap_le_maxLen w 1 0 te (by unfold maxLen;omega);generalize grownCap w 1 0 te=c at F l o;have b2:(execOp a.eval ⟨some d,.call { callee:=.builtin .append,args:=#[x,y],argTypes:=#[t,t] },t2,pos,af,g⟩).run Γ.P w=.ok (.value<|.slice (some ⟨w.heap.size,0,none⟩) 1 c)
   (w.drew.alloc<|.cells (b.toArray++Builtin.zeroCells zv.cells (c-1)) te):=by
  simp only [execOp,resolve,invoke,builtin,Sem.run_bind,Sem.run_pure,Result.andThen_ok,D1,A3,Dm,a1,a2,F]
 unfold Oper.wp;rw [b2];have m1:J0 Γ (lo k) L H e a w.drew:=m.below<|(W4.refl _ _ _).drew;have b3:zv.cells.size=es:=by rw [<- A5,B,Ao N,r]
 have G:=(m1.alloc (ir k) (cs:=[h]++Aq ((c-1)*es) .V1)
  (vs:=b++(Builtin.zeroCells zv.cells<|c-1).toList) te
  (O0.append _ _ _ _ (O0.N1 (w:=w) (w':=w.drew) (Af _) (λ_ _ _=>rfl) (λ_ _ b4=>b4) _ _ b1)<|Pw _ _<|by rw [A5,size_zeroCells,b3])
  (λv f=>by
   simp only [C0] at f;rcases f with f|f
   ·exact u3 v f
   ·have:=nh f
    rw [B] at this;exact (ij (X:=Γ.X e H) (e:=e) (w:=w) _ O).2 v this)).cast<|gv k
 have b5:(b++(Builtin.zeroCells zv.cells<|c-1).toList).toArray=b.toArray++Builtin.zeroCells zv.cells (c-1):=by simp
 rw [b5] at G;refine⟨_,_,_,_,G.put (s:=.sl k 0 1 c) (Ab V) ⟨.inr rfl,l,o,0,?_,λ_=>rfl⟩,by rw [z,Dq];exact W c l o⟩
 show _=Value.slice (some ⟨(e.bind k w.heap.size).β k,0,none⟩) 1 c;rw [show (e.bind k w.heap.size).β k=w.heap.size from if_pos rfl]
end
def lE (g:Gr):List D:=[.ptr [.slice 1 (g.1.map aq),.slice 1<|g.2.map aq]]
def elG (g:Gr):SV:=.d (.ptr [.slice 1 (g.1.map aq),.slice 1<|g.2.map aq])
def GR {X e w} {ds:List D} {v:Value} (h:Q0 X w v (.ptr ds)):Rel X e w (.pd ds) v:=by
 cases h with
 | ptr c d f i l=>exact⟨_,_,rfl,f,d,λj b=>⟨c j,i j b,l j b⟩⟩
def yT {Γ:Ctx} {k:Nat} {L:Sl} {H:Hp} (t:Nat) {ds:List D} (c:L.get t=.d (.ptr ds)):X7 Γ k L H k ((t,.pd ds)::L) H:=by
 intro e a w m;refine⟨e,⟨m.toHeap,m.defers,m.len,λt'=>?_⟩⟩
 rw [Sl.C1];split
 ·rename_i f;subst f;have b:=m.slot t;rw [c] at b;exact GR b
 ·exact m.slot t'
attribute [local irreducible] DW DS DL DQ Ev X1 I3 du bl DT
def zG (a:List Int) (c:Nat) (f:c<=a.length) (g:Gr):Fn 149 ([elG g]++[.pd [.slice 1 (a.map aq)],.pd [.int .i64 c]]) (λr=>r=.b (decide (g.1=a.take c))):=by
 refine J2 func149 ?_;intro O h i j;have l:(a.map aq).length=a.length:=Aa _;have d:=Om g.1<|a.take c;refine ag (yT 0 rfl) ?_;repeat' (first|refine zr ?_|refine z22 ?_ d|fail)
 exact bi rfl rfl
def OB {f:FuncId} {caps:List SV} (p:Gr->Bool) (l:List (Gr)) (m:SV.U1 0 caps=true) (o:∀ x∈l,Fn f (elG x::caps) (λr=>r=.b (p x))):Fn 148 [.s 1 (l.map lE),.fn f caps] (λr=>r=.i (mv p l)):=by
 refine J2 func148 ?_;intro O v z A;refine cm (t:=0) rfl λc=>?_
 refine zS ?_;refine ae (ι:=Nat) (λi=>⟨0,[(0,.s 1<|l.map lE),(1,.fn f caps),(7,.i l.length),(8,.i i)],[]⟩)
  (λi=>i<=l.length/\∀ j (n:j<l.length),j<i->p l[j]=false) (λi=>l.length-i) 0 ⟨Ai _,λj _ h=>absurd h<|A2 j⟩
  (bk id ⟨rfl,congrArg (SV.fn f) (SV.O4 caps).symm,by simp;rfl,rfl,trivial⟩ trivial (by simp [Sl.low,SV.low,m]) rfl rfl rfl rfl rfl) ?_
 rintro i ⟨h1,h2⟩;refine zS ?_;refine a6 rfl (λh=>?_)<|λh=>?_
 ·have d:i<l.length:=by omega
  have u:=o l[i]<|Ah d;repeat' (first|refine zs ?_|(apply mi;(iterate 4 exact rfl);apply u;exact rfl;(assumption);exact rfl;rintro _ rfl))
  refine ee rfl (λc=>?_)<|λc=>?_
  ·refine zR ?_;exact bh rfl (kr h2 d c).symm
  ·refine zS ?_;exact⟨i+1,⟨d,ja h2 d c⟩,bk id ⟨rfl,congrArg (SV.fn f) (SV.O4 caps).symm,rfl,rfl,trivial⟩ trivial (by simp [Sl.low,SV.low,m]) rfl rfl rfl rfl rfl,by omega⟩
 ·refine zR ?_;exact bh rfl (j7 λj n=>h2 j n<|by omega).symm
end
section
open Go Go.RowKit
variable [Y0]
section
variable {Γ : Ctx} {k : Nat} {L : Sl} {H : Hp} {K : cn} {ops : List Oper} {rest : List Oper} {q : Bool} {x y : Operand}
def GY {d t t2 ty:Nat} {m n:Int} (c:aj L x=.i m) (f:aj L y=.i n) (h:de x=true) (j:de y=true) (l:ap ops L g=some true) (o:Av d Γ.n=true)
  (p:DS q Γ ops rest K k ((d,.i (Ql m n))::L) H):DS q Γ ops (⟨some d,.call { callee:=.builtin .min,args:=#[x,y],argTypes:=#[t,t2] },ty,pos,af,g⟩::rest) K k L H:=by
 refine iv (s:=.i<|Ql m n) (λe a w b=>⟨.int .i64 (Ql m n),λ_ _ _ _ r _=>?_,Q0.int ?_⟩) l o p
 ·simp [execOp,resolve,invoke,builtin,R8 b c,R8 b f,Builtin.min_,Builtin.min2,Ql]
 ·have u:=qP b h c;have v:=qP b j f;unfold Ql;split<;>assumption
def HY {d t t2 ty:Nat} {m n:Int} (c:aj L x=.i m) (f:aj L y=.i n) (h:de x=true) (j:de y=true) (l:ap ops L g=some true) (o:Av d Γ.n=true)
  (p:DS q Γ ops rest K k ((d,.i (Rl m n))::L) H):DS q Γ ops (⟨some d,.call { callee:=.builtin .max,args:=#[x,y],argTypes:=#[t,t2] },ty,pos,af,g⟩::rest) K k L H:=by
 refine iv (s:=.i<|Rl m n) (λe a w b=>⟨.int .i64 (Rl m n),λ_ _ _ _ r _=>?_,Q0.int ?_⟩) l o p
 ·simp [execOp,resolve,invoke,builtin,R8 b c,R8 b f,Builtin.max_,Builtin.max2,Rl]
 ·have u:=qP b h c;have v:=qP b j f;unfold Rl;split<;>assumption
end
def UB {f:Int->Int->Int} {x:Int} {l:List Int} {i:Nat} (hi:i<l.length):(l.take (i+1)).foldl f x=f ((l.take i).foldl f x) l[i]:=by rw [Am hi,List.foldl_append];rfl
def bN {l:List Int} {i:Nat} (hi:i<l.length):(l.take (i+1)).sum=(l.take i).sum+l[i]:=by rw [Am hi,List.sum_append];simp
def SQ:∀ (l:List Int),(∀ x∈l,-1000000<=x/\x<=1000000)->-1000000*(l.length:Int)<=l.sum/\l.sum<=1000000*(l.length:Int)
 | [],_=>by simp
 | x::l,h=>by
  have c:=SQ l λy b=>h y (Ak _ b)
  have d:=h x<|Ac ..
  rw [List.sum_cons,Ba];omega
attribute [local irreducible] DW DS DL DQ Ev X1 I3 du bl DT
def WX (x:Int) (l:List Int):Fn 196 [.s 1 ((x::l).map aq)] (λr=>r=.i (RV (x::l))):=by
 refine J2 func196 ?_;intro O j m n;have o:((x::l).map aq).length=l.length+1:=Aa _;refine po (t:=0) rfl<|λp=>?_;refine zS ?_;all_goals try omega
 refine ae (ι:=Nat) (λi=>⟨0,[(0,.s 1<|(x::l).map aq),(3,.i<|(l.take i).foldl Ql x),(4,.i ((i+1:Nat):Int))],[]⟩)
  (λi=>i<=l.length) (λi=>l.length-i) 0 (Ai _) (er id) ?_
 intro i c;dsimp only at c ⊢;by_cases b:i<l.length
 ·have d:=UB (f:=Ql) (x:=x) b;repeat' (first|(refine GY rfl rfl rfl rfl rfl rfl ?_)|(first|refine zr ?_|(refine zm ?_ ?_<;>intro h)|fail))
  all_goals try omega
  exact⟨i+1,b,er id ⟨rfl,by rw [d];rfl,rfl,trivial⟩,by omega⟩
 ·rw [Aj<|by omega];repeat' (first|refine zr ?_|(refine zm ?_ ?_<;>intro h)|omega)
  exact⟨.inl rfl,_,rfl,rfl,rfl⟩
def XX (x:Int) (l:List Int):Fn 197 [.s 1 ((x::l).map aq)] (λr=>r=.i (TV (x::l))):=by
 refine J2 func197 ?_;intro O j m n;have o:((x::l).map aq).length=l.length+1:=Aa _;refine po (t:=0) rfl<|λp=>?_;refine zS ?_;all_goals try omega
 refine ae (ι:=Nat) (λi=>⟨0,[(0,.s 1<|(x::l).map aq),(3,.i<|(l.take i).foldl Rl x),(4,.i ((i+1:Nat):Int))],[]⟩)
  (λi=>i<=l.length) (λi=>l.length-i) 0 (Ai _) (er id) ?_
 intro i c;dsimp only at c ⊢;by_cases b:i<l.length
 ·have d:=UB (f:=Rl) (x:=x) b;repeat' (first|(refine HY rfl rfl rfl rfl rfl rfl ?_)|(first|refine zr ?_|(refine zm ?_ ?_<;>intro h)|fail))
  all_goals try omega
  exact⟨i+1,b,er id ⟨rfl,by rw [d];rfl,rfl,trivial⟩,by omega⟩
 ·rw [Aj<|by omega];repeat' (first|refine zr ?_|(refine zm ?_ ?_<;>intro h)|omega)
  exact⟨.inl rfl,_,rfl,rfl,rfl⟩
def VO (T0:Int) (l:List Int) (n:l≠[]) (d:∀ x∈l,-1000000<=x/\x<=1000000) (A:l.length<=1000000):Fn 150 [.i T0,.s 1 (l.map aq)] (λr=>r=.M2 [.i (Xg T0 l),.b (IU T0 l)]):=by
 refine J2 func150 ?_;intro O B C E;have o:(l.map aq).length=l.length:=Aa _;have f:=WX (l.headD 0) l.tail;have h:=XX (l.headD 0) l.tail;rw [show l.headD 0::l.tail=l by cases l with|nil=>exact absurd rfl n|cons x l=>rfl] at f h;have p:=sq l.sum;repeat' ((fail_if_success (apply jm 8));(first|refine zr ?_|refine z21 ?_ f|refine z21 ?_ h|(refine zm ?_ ?_<;>intro j)|fail))
 ·exact⟨.inl rfl,.M2 [.i (l.map aq).length,.b true],rfl,rfl,by unfold Xg IU;simp_all⟩
 ·exact⟨.inl rfl,.M2 [.i (RV l),.b true],rfl,rfl,by unfold Xg IU;simp_all⟩
 ·exact⟨.inl rfl,.M2 [.i (TV l),.b true],rfl,rfl,by unfold Xg IU;simp_all⟩
 refine po (t:=1) rfl<|λF=>?_;repeat' fail
 refine ae (ι:=Nat) (λi=>⟨0,[(1,.s 1<|l.map aq),(6,.i (l.take i).sum),(22,.s 1<|l.map aq),(23,.i l.length),(24,.i i)],[]⟩)
  (λi=>i<=l.length) (λi=>l.length-i) 0 (Ai _) (er id ⟨rfl,rfl,rfl,by rw [<- o];rfl,rfl,trivial⟩) ?_
 intro i u;dsimp only at u ⊢;by_cases c:i<l.length
 ·have v:=bN c;have z:=SQ (l.take<|i+1) λx m=>d x (Bz m)
  have m:=d l[i]<|Ah c;rw [Ap] at z;repeat' (first|refine zs ?_|(refine zm ?_ ?_<;>intro j)|omega)
  exact⟨i+1,c,er id ⟨rfl,by rw [v];rfl,rfl,rfl,rfl,trivial⟩,by omega⟩
 ·rw [Aj<|by omega];repeat' (first|refine zr ?_|refine z21 ?_ p|(refine zm ?_ ?_<;>intro j)|omega)
  exact⟨.inl rfl,.M2 [.i l.sum,.b<|Q3 l.sum],rfl,rfl,by unfold Xg IU;simp_all⟩
end
end Go.Proofs.YtapciiffpnociabGreat
