/- Several texts in one: WirC GxElm RelP RelA RelO ScoP ScoE GxNil StrA RelD ShS GxRow GxLaw GxSrt RelS GxWin. Condition: none. -/
import Derived.Test.YtapciiffpnociabGreatM06
import Derived.Shelf.SlSortCmp.NoneTotal
import Derived.ProofKit
set_option linter.all false
set_option maxHeartbeats 8000000
open Array renaming getElem?_eq_getElem→D5,getElem?_modify→Em,getElem?_toList→Bt,toArray_toList→G1
open Bool renaming and_eq_true→Ae,false_or→Ci,or_eq_true→Ei
open List renaming append_nil→Bn,drop_eq_getElem_cons→An,drop_of_length_le→Ar,eq_nil_of_length_eq_zero→Bg,ext_getElem?→Ce,filter_cons→B7,flatten_cons→Ds,foldl_cons→Bi,getD→A4,getElem?_append_left→Bj,getElem?_append_right→A7,getElem?_eq_getElem→Ad,getElem?_eq_none→Be,getElem?_set→En,getElem?_take→Bf,length_cons→Ba,length_map→Aa,map_cons→A3,mem_append→C0,mem_append_left→Ax,mem_append_right→Bv,mem_cons→Bl,mem_cons_of_mem→Ak,mem_cons_self→Ac,replicate→Aq,set_append_right→Gv,set_cons_zero→Hk,take_append_drop→Dl,take_of_length_le→Aj,take_succ_eq_append_getElem→Am
open Nat renaming add_mul→Bq,beq→Az,blt→Av,div_lt_of_lt_mul→Fh,eq_of_beq_eq_true→Ao,exists_eq_add_of_le→Gh,le_of_ble_eq_true→Ab,le_of_eq→Gm,le_refl→Af,le_trans→Aw,lt_of_lt_of_le→As,mod_lt→F2,mul_comm→Hu,mul_le_mul_right→A8,not_lt_zero→A2,pos_of_ne_zero→Hl,zero_add→C4,zero_le→Ai
open Option renaming bind_eq_some_iff→Gi
open Go
variable {pos:String} {af:Array Edge} {g:Option (Nat×Bool)}
open Go.Proofs.Tryz
namespace Go.Proofs.YtapciiffpnociabGreat
open Go Go.RowKit
variable [Y0]
attribute [local irreducible] DW DS DL DQ Ev X1 I3 du bl DT
def uf (n a b:Int):Fn 80 [.i n,.i a,.i b] (λr=>r=.b (L5 n a b)):=tq n a b
def TG (n:Int):Fn 81 [.i n] (λr=>r=.b (Q3 n)):=by
 refine J2 func81 ?_;intro O c d f;repeat' (first|refine zr ?_|refine z31 ?_ (hc:=by apply uf)|fail)
 exact bi rfl rfl
def kM (i:Z1):Fn 76 [o5 i] (λr=>r=.b (Zo i)):=by
 refine J2 func76 ?_;intro O c d f;repeat' (first|refine zr ?_|refine z31 ?_ (hc:=by apply uf)|(refine zm ?_ ?_<;>intro h)|fail)
 all_goals exact bi rfl<|by unfold Zo;simp [*]
def Vz {α:Type} {p:α->Bool} {l:List α} {i:Nat} (hi:i<l.length):(l.drop i).all p=(p l[i]&&(l.drop (i+1)).all p):=by rw [An hi];rfl
def DE {α:Type} {p:α->Bool} {l:List α} {i:Nat} (hi:l.length<=i):(l.drop i).all p=true:=by rw [Ar hi];rfl
def uC (l:List Z1):Fn 77 [.s 2 (l.map ay)] (λr=>r=.b (l.all Zo)):=by
 refine J2 func77 ?_;intro O j m n;refine cm (t:=0) rfl λc=>?_
 refine zS ?_;refine ae (ι:=Nat) (λi=>⟨0,[(0,.s 2<|l.map ay),(3,.i i)],[]⟩)
  (λi=>i<=l.length/\l.all Zo=(l.drop i).all Zo) (λi=>l.length-i) 0 ⟨Ai _,rfl⟩
  (er id) ?_
 rintro i ⟨h1,h2⟩;refine zS ?_;refine a6 rfl (λh=>?_)<|λh=>?_
 ·have d:i<l.length:=by rw [Aa] at h;omega
  have f:=Vz (p:=Zo) d;repeat' (first|refine zs ?_|refine z31 ?_ (hc:=by apply kM)|fail)
  refine ee rfl (λc=>?_)<|λc=>?_
  ·refine zR ?_;exact bi rfl<|by rw [h2,f];simp at c;rw [c];rfl
  ·refine zS ?_;exact⟨i+1,⟨d,by rw [h2,f];simp at c;rw [c];rfl⟩,er id,by omega⟩
 ·refine zR ?_;exact bi rfl<|by rw [h2,DE<|by rw [Aa] at h;omega]
def Ww (a b:Z1):Fn 73 [o5 a,o5 b] (λr=>r=.i (b9 a b)):=by
 refine J2 func73 ?_;intro O c d f;repeat' (first|refine zr ?_|(refine zm ?_ ?_<;>intro h)|fail)
 all_goals
  refine bh rfl ?_;unfold b9 fi;repeat' split
  all_goals first|rfl|(simp_all<;>omega)
def Vw (l:List Z1):Fn 78 [.s 2 (l.map ay)] (λr=>r=.b (dl b9 l)):=by
 refine J2 func78 ?_;intro O m n o;refine cm (t:=0) rfl λc=>?_
 refine zS ?_;refine ae (ι:=Nat) (λi=>⟨0,[(0,.s 2<|l.map ay),(3,.i<|(i:Int)+1)],[]⟩)
  (λi=>i<=l.length/\dl b9 l=dl b9 (l.drop i)) (λi=>l.length-i) 0 ⟨Ai _,rfl⟩
  (er id) ?_
 rintro i ⟨h1,h2⟩;refine zS ?_;refine a6 rfl (λh=>?_)<|λh=>?_
 ·have d:i+1<l.length:=by have:=h;rw [Aa] at this;omega
  have e0:∀ (j:Nat) (f:j<l.length),j=i->l[j]'f=l[i]'(by omega):=by rintro j f rfl;rfl
  repeat' (first|refine zs ?_|refine z32 ?_ (hc:=by apply Ww)|fail)
  refine a6 rfl (λc=>?_)<|λc=>?_
  ·refine zR ?_;rw [e0 _ _<|by omega] at c;exact bi rfl<|by rw [h2,vh d<|by omega]
  ·refine zS ?_;rw [e0 _ _<|by omega] at c;exact⟨i+1,⟨by omega,by rw [h2,K9 d<|by omega]⟩,er id,by omega⟩
 ·refine zR ?_;exact bi rfl<|by rw [h2,vg<|by have:=h;rw [Aa] at this;omega]
def va {x y:Z1} {b:Bool} (h:(decide (x.J1=y.J1)&&(decide (x.L1=y.L1)&&true))=b):Z1.same x y=b:=by rw [<- h];unfold Z1.same;rw [Bool.and_true]
def CF {x y:Z1} {b:Bool} (h:(!(decide (x.J1=y.J1)&&(decide (x.L1=y.L1)&&true))) = !b):Z1.same x y=b:=by have c:=congrArg (λq=>!q) h;simp only [Bool.not_not] at c;exact va c
def uM {x y:U0} {b:Bool} (h:decide (dg x y≠0) = !b):U0.same x y=b:=by unfold U0.same;cases b<;>simpa using h
def ZG (l:List Z1) (y:Z1):Fn 79 [.s 2 (l.map ay),o5 y] (λr=>r=.b (l.any λx=>x.same y)):=by
 refine J2 func79 ?_;intro O m n o;refine cm (t:=0) rfl λc=>?_
 refine zS ?_;refine ae (ι:=Nat) (λi=>⟨1,[(0,.s 2<|l.map ay),(3,.loc 0 0),(5,.i i)],[(0,.M1 31 [.i y.J1,.i y.L1])]⟩)
  (λi=>i<=l.length/\∀ j (f:j<l.length),j<i->Z1.same l[j] y=false) (λi=>l.length-i) 0 ⟨Ai _,λj _ h=>absurd h<|A2 j⟩
  (er id) ?_
 rintro i ⟨h1,h2⟩;refine zS ?_;refine a6 rfl (λh=>?_)<|λh=>?_
 ·have d:i<l.length:=by rw [Aa] at h;omega
  refine zS ?_;refine ee rfl (λc=>?_)<|λc=>?_
  ·refine zR ?_;exact bi rfl (RW (p:=λx=>x.same y) d<|va c).symm
  ·refine zS ?_;exact⟨i+1,⟨d,ja (p:=λx=>x.same y) h2 d<|va c⟩,er id,by omega⟩
 ·refine zR ?_;exact bi rfl (any_none λj f=>h2 j f<|by rw [Aa] at h;omega).symm
def DV {l m:List Int} {i:Nat} (h1:i<l.length) (b:i<m.length) (h:l[i]<m[i]):dy (l.drop i) (m.drop i) = -1:=by
 have e:fi l[i] m[i] = -1:=by unfold fi;rw [if_pos h]
 rw [Kc h1 b,e];rfl
def EV {l m:List Int} {i:Nat} (h1:i<l.length) (b:i<m.length) (h:m[i]<l[i]):dy (l.drop i) (m.drop i)=1:=by
 have e:fi l[i] m[i]=1:=by unfold fi;rw [if_neg (by omega),if_pos h]
 rw [Kc h1 b,e];rfl
def FV {l m:List Int} {i:Nat} (h1:i<l.length) (b:i<m.length) (h:l[i]=m[i]):dy (l.drop i) (m.drop i)=dy (l.drop (i+1)) (m.drop (i+1)):=by rw [Kc h1 b,h,if_pos<|Vc _]
def KM (a b:Int):(fi a b=0)=(a=b):=by unfold fi;rw [eq_iff_iff];split<;>(try split)<;>simp<;>omega
def xw (a b:U0):Fn 82 [jt a,jt b] (λr=>r=.i (dg a b)):=by
 refine J2 func82 ?_;intro O h j l;refine zS ?_;refine a6 rfl (λc=>?_)<|λc=>?_
 ·repeat' (first|refine zr ?_|(refine zm ?_ ?_<;>intro d)|fail)
  all_goals exact bh rfl<|by unfold dg;rw [if_neg<|by rw [KM];exact c];unfold fi;repeat' split;all_goals first|rfl|omega
 ·have f:dg a b=dy a.args b.args:=by unfold dg;rw [if_pos<|by rw [KM];exact Decidable.not_not.1 c]
  refine zS ?_;refine ae (ι:=Nat) (λi=>⟨2,[(2,.loc 0 0),(3,.loc 1 0),(5,.i i)],[(0,.M1 95 [.i a.N0,.s 1<|a.args.map aq]),(1,.M1 95 [.i b.N0,.s 1<|b.args.map aq])]⟩)
   (λi=>i<=a.args.length/\i<=b.args.length/\dg a b=dy (a.args.drop i) (b.args.drop i)) (λi=>a.args.length-i) 0 ⟨Ai _,Ai _,f⟩
   (er id) ?_
  rintro i ⟨h1,h2,h3⟩;refine pE 0 1 rfl rfl λm=>?_
  have n:(a.args.map aq).length=a.args.length:=Aa _;have o:(b.args.map aq).length=b.args.length:=Aa _;repeat' (first|refine zr ?_|(refine zm ?_ ?_<;>intro d)|fail)
  all_goals first
   | (refine bh rfl<|Eq.trans ?_ h3.symm;refine (DV ?_ ?_ ?_).symm<;>first|assumption|omega)
   | (refine bh rfl<|Eq.trans ?_ h3.symm;refine (EV ?_ ?_ ?_).symm<;>first|assumption|omega)
   | (refine bh rfl<|Eq.trans ?_ h3.symm;refine (xB ?_ ?_).symm<;>omega)
   | (refine bh rfl<|Eq.trans ?_ h3.symm;refine (wB ?_ ?_).symm<;>omega)
   | (refine bh rfl<|Eq.trans ?_ h3.symm;refine (lG ?_ ?_).symm<;>omega)
   | (refine⟨i+1,⟨?_,?_,h3.trans<|FV ?_ ?_ ?_⟩,er id,?_⟩<;>omega)
def Ue (l m:List (Z1)):Fn 72 [.s 2 (l.map ay),.s 2 (m.map ay)] (λr=>r=.b (e8 Z1.same l m)):=by
 refine J2 func72 ?_;intro O p u v;refine cm (t:=0) rfl λc=>?_
 refine zS ?_;refine a6 rfl (λh=>?_)<|λh=>?_
 ·have n:l.length≠m.length:=by rw [Aa,Aa] at h;omega
  refine zR ?_;exact bi rfl (vb _ _ _ n).symm
 ·have z:l.length=m.length:=by rw [Aa,Aa] at h;omega
  refine zS ?_;refine ae (ι:=Nat) (λi=>⟨0,[(0,.s 2<|l.map ay),(1,.s 2<|m.map ay),(5,.i i)],[]⟩)
   (λi=>i<=l.length/\e8 Z1.same l m=e8 Z1.same (l.drop i) (m.drop i)) (λi=>l.length-i) 0 ⟨Ai _,rfl⟩
   (er id) ?_
  rintro i ⟨h1,h2⟩;refine zS ?_;refine a6 rfl (λh=>?_)<|λh=>?_
  ·have f:i<l.length:=by rw [Aa] at h;omega
   have o:i<m.length:=by omega
   have j:=xm Z1.same l m i f o;refine zS ?_;refine ee rfl (λc=>?_)<|λc=>?_
   ·have d:Z1.same l[i] m[i]=false:=by exact CF c
    refine zR ?_;exact bi rfl<|by rw [h2,j,d];rfl
   ·have d:Z1.same l[i] m[i]=true:=by exact CF c
    refine zS ?_;exact⟨i+1,⟨f,by rw [h2,j,d];rfl⟩,er id,by omega⟩
  ·refine zR ?_;exact bi rfl<|by rw [h2,Vb _ _ _ _ (by rw [Aa] at h;omega)<|by rw [Aa] at h;omega]
def mn (l m:List (U0)):Fn 43 [.s 2 (l.map aa),.s 2 (m.map aa)] (λr=>r=.b (e8 U0.same l m)):=by
 refine J2 func43 ?_;intro O p u v;refine cm (t:=0) rfl λc=>?_
 refine zS ?_;refine a6 rfl (λh=>?_)<|λh=>?_
 ·have n:l.length≠m.length:=by rw [Aa,Aa] at h;omega
  refine zR ?_;exact bi rfl (vb _ _ _ n).symm
 ·have z:l.length=m.length:=by rw [Aa,Aa] at h;omega
  refine zS ?_;refine ae (ι:=Nat) (λi=>⟨0,[(0,.s 2<|l.map aa),(1,.s 2<|m.map aa),(5,.i i)],[]⟩)
   (λi=>i<=l.length/\e8 U0.same l m=e8 U0.same (l.drop i) (m.drop i)) (λi=>l.length-i) 0 ⟨Ai _,rfl⟩
   (er id) ?_
  rintro i ⟨h1,h2⟩;refine zS ?_;refine a6 rfl (λh=>?_)<|λh=>?_
  ·have f:i<l.length:=by rw [Aa] at h;omega
   have o:i<m.length:=by omega
   have j:=xm U0.same l m i f o;repeat' (first|refine zs ?_|refine z32 ?_ (hc:=by apply xw)|fail)
   refine ee rfl (λc=>?_)<|λc=>?_
   ·have d:U0.same l[i] m[i]=false:=by exact uM c
    refine zR ?_;exact bi rfl<|by rw [h2,j,d];rfl
   ·have d:U0.same l[i] m[i]=true:=by exact uM c
    refine zS ?_;exact⟨i+1,⟨f,by rw [h2,j,d];rfl⟩,er id,by omega⟩
  ·refine zR ?_;exact bi rfl<|by rw [h2,Vb _ _ _ _ (by rw [Aa] at h;omega)<|by rw [Aa] at h;omega]
end Go.Proofs.YtapciiffpnociabGreat
namespace Go.Proofs.YtapciiffpnociabGreat
open Go Go.RowKit
variable [Y0]
section
variable {Γ : Ctx} {k : Nat -> Prop} {L : Sl} {H : Hp} {K : cn} {ops : List Oper} {rest : List Oper} {a : Act} {w : World} {e : Env} {t t' ty : TypeId} {x y : Operand}
end
section
variable {Γ : Ctx} {k : Nat} {L : Sl} {H : Hp} {K : cn} {ops : List Oper} {rest : List Oper} {t t' ty : TypeId} {x y : Operand} {q : Bool}
def kw (a:Nat):((a+1:Nat):Int)-1=(a:Int):=by omega
def mc {α:Type} {f:α->List D} {l:List α} {j o:Nat} {u v:α} {new:List D} (h:jg (f u) o new=f v):(l.map f).set j (jg (f u) o new)=(l.set j v).map f:=by rw [h,List.map_set]
def nM {α:Type} {f:α->List D} {l:List α} {n:Int} {j N:Nat} (b:n=(j:Int)):(((l.map f).take ((N:Int)).toNat).drop n.toNat)=((l.take N).drop j).map f:=by subst b;simp
def pm {α:Type} {f:α->List D} {l:List α} {n:Int} {j:Nat} (b:n=(j:Int)):(((l.map f).take n.toNat).drop (0:Int).toNat)=(l.take j).map f:=by subst b;simp
def mh {te tb:TypeId} {i j es o:Nat} {xs ys:List (List D)} {s:SV} {ds new:List D} {H':Hp} (d:aj L x=.P3 i j es o) (hH:Hp.get H i=some (.row tb es xs)) (c:xs[j]?=some ds)
  (f:aj L y=s) (h:GK s=some new) (l:xs.set j (jg ds o new)=ys) (b:zd H i (.row tb es ys) some=some H') (m:de y=true) (n:(ai Γ.τ te).sh.known=true) (p:Az new.length (ai Γ.τ te).cells=true) (r:Nat.ble (o+new.length) es=true)
  (u:ap ops L g=some true) (v:DS false Γ ops rest K k L H'):DS false Γ ops (⟨none,.store te x y,ty,pos,af,g⟩::rest) K k L H:=by
 have z:j<xs.length:=(List.getElem?_eq_some_iff.1 c).1;have A:=(List.getElem?_eq_some_iff.1 c).2;subst l;rw [<- A] at b;rw [k9] at b;cases b;exact Va u (Pl d hH z f m h n p r) v
def qp {d es:Nat} {xs ys:List (List D)} {lo hi:Option Operand} {n m':Int} (c:aj L x=.d (.slice es xs)) (f:(ai Γ.τ t).sh=.slice t') (hc:(ai Γ.τ t').cells=es) (h:(ai Γ.τ t').sh.known=true)
  (i:yb (lo.map (aj L))=some n) (j:ks xs.length (hi.map (aj L))=some m') (b:0<=n/\n<=m'/\m'<=xs.length) (l:(xs.take m'.toNat).drop n.toNat=ys) (m:ap ops L g=some true) (o:Av d Γ.n=true)
  (p:DS q Γ ops rest K k ((d,.d (.slice es ys))::L) H):DS q Γ ops (⟨some d,.slice t x lo hi none,ty,pos,af,g⟩::rest) K k L H:=by
 subst l;exact iv (WB f hc h c i j b.1 b.2.1 b.2.2) m o p
def KH (ys:List (List D)) {d n:Nat} {te:TypeId} {x y:Operand} {m':Int} {b:Value} {c:D} (f:aj L x=.d (.int .i64 m')) (h:aj L y=.d (.int .i64 m')) (i:m'=(n:Int)) (j:(ai Γ.τ t).sh=.slice te)
  (l:(ai Γ.τ te).sh.known=true) (m:(ai Γ.τ te).cells=1) (o:(ai Γ.τ te).zero=[b]) (p:S6 b=.d c) (r:gp (ai Γ.τ te).zero=true) (s:(ai Γ.τ te).bytes*n<=281474976710656) (u:n<=maxLen) (v:Aq n [c]=ys)
  (z:ap ops L g=some true) (A:Av d Γ.n=true) (B:DS false Γ ops rest K (k+1) ((d,.row k)::L) ((k,.row te 1 ys)::H)):DS false Γ ops (⟨some d,.makeSlice t x y,ty,pos,af,g⟩::rest) K k L H:=by
 subst v;exact Va z ((iX (ir k) j l m o p r f h i s u A).cast<|gv k) B
def aR (i es:Nat) (xs:List (List D)):SV->SV
 | .row j=>match Az j i with|true=>.d (.slice es xs)|false=>.row j
 | s=>s
def vL (i es:Nat) (xs:List (List D)):List SV->List SV
 | []=>[]
 | s::l=>aR i es xs s::vL i es xs l
def AF:SV->Bool
 | .d (.int _ _)=>true
 | .d (.bool _)=>true
 | .d (.str _)=>true
 | .M2 []=>true
 | _=>false
def Vt {X Y:Nat->Prop} {e e':Env} {w w':World} {s:SV} {v:Value} (h:AF s=true) (b:Rel X e w s v):Rel Y e' w' s v:=by
 cases s with
 | d x =>
  cases x with
  | slice=>cases h
  | ptr=>cases h
  | own=>cases h
  | _=>cases b<;>constructor<;>assumption
 | M2 c =>
  cases c with
  | nil=>obtain⟨f,i,j⟩:=b;cases f with|nil=>exact⟨[],i,trivial⟩|cons=>exact j.elim
  | cons=>cases h
 | _=>cases h
def XT {f:FuncId} {xs:List Operand} {u:Array TypeId} {ty:TypeId} {d i es:Nat} {te:TypeId} {ds:List (List D)} {args:List SV} {R:SV->Prop} (z:ap ops L g=some true)
  (hH:Hp.get H i=some (.row te es ds)) (A:vL i es ds (mt L xs)=args) (hc:I3 Γ.dr Γ.P Γ.τ Γ.τok f args R) (B:dz xs=true) (C:SV.U1 0 args=true) (E:Av d Γ.n=true) (F:∀ r,R r->AF r=true)
  (o:∀ r,R r->DL Γ ops rest K k ((d,r)::L) H) :
  DL Γ ops (⟨some d,.call { callee:=.value (.func f),args:=xs.toArray,argTypes:=u },ty,pos,af,g⟩::rest) K k L H:=by
 refine gj z λe a w m=>?_
 obtain⟨G,I⟩:=m.del i;have J:∀ (l:List SV) (c:List Value),O0 (Γ.X e H) e w l c->O0 (Γ.X e<|Hp.del H i) e w (vL i es ds l) c:=by
  intro l;induction l with
  | nil=>intro c h;cases c<;>exact h
  | cons s l ih =>
   intro c h;cases c with
   | nil=>exact h.elim
   | cons v c =>
    refine⟨?_,ih c h.2⟩
    have o:Rel (Γ.X e<|Hp.del H i) e w s v:=Rel.N1 (Af _) (λ_ _ _=>rfl) (λb _ h=>I b h) _ _ h.1;unfold aR;split
    ·rename_i j;cases p:Az j i with
     | true =>
      have:=Ao p
      subst this;rw [show v=e.η j from h.1.2.1];exact qz m hH
     | false=>exact o
    ·exact o
 unfold Oper.wp;rw [io hc.1];rw [Oper.upon_enter];refine (hc.use (τ:=Γ.τ) (τok:=Γ.τok) (Γ:=Γ) G C _<|A▸J _ _ (ga m xs B)).mono ?_;rintro en w' ⟨r,v,hR,rfl,p,hlr,hrel⟩;exact⟨k,_,H,e,(m.below p).put (Ab E) (Vt (F r hR) hrel),o r hR⟩
def QT (i:Nat) {f:FuncId} {xs:List Operand} {b:Array TypeId} {ty:TypeId} {d es:Nat} {te:TypeId} {ds:List (List D)} {args:List SV} {R:SV->Prop} (hc:I3 Γ.dr Γ.P Γ.τ Γ.τok f args R)
  (hH:Hp.get H i=some (.row te es ds)) (c:vL i es ds (mt L xs)=args) (h:∀ r,R r->AF r=true) (j:ap ops L g=some true) (l:dz xs=true) (m:SV.U1 0 args=true) (o:Av d Γ.n=true)
  (p:∀ r,R r->DS false Γ ops rest K k ((d,r)::L) H):DS false Γ ops (⟨some d,.call { callee:=.value (.func f),args:=xs.toArray,argTypes:=b },ty,pos,af,g⟩::rest) K k L H:=
 XT j hH c hc l m o h p
def ig (t j:Nat) {c:Code} {Q:ey} {es:Nat} {ss:List SV} {xs:List (List D)} (h:L.get t=.agg ss) (f:ss[j]?=some (.d (.slice es xs))) (i:xs.length<=9223372036854775807->DW Γ c Q k L H):DW Γ c Q k L H:=by intro e a w m;have b:=m.slot t;rw [h] at b;obtain⟨p,_,l⟩:=b;obtain⟨v,_,n⟩:=O0.get _ _ l j _ f;obtain⟨r,s,_,u,o,_⟩:=Q0.R4 n;exact i (by unfold maxLen at o;omega) e a w m
def AM (id:Nat) {c y:Code} {Q:ey} (h:DW Γ (.seq (.block id c) y) Q k L H):DW Γ (.seq (.block id c) y) Q k L H:=h
def jm (id:Nat) {ops:Array Oper} {b:Bool} {x z:Code} {Q:ey} (h:DW Γ (.seq (.seq (.region id ops b) x) z) Q k L H):DW Γ (.seq (.seq (.region id ops b) x) z) Q k L H:=h
def fh (id:Nat) {ops:Array Oper} {b:Bool} {x:Code} {Q:ey} (h:DW Γ (.seq (.region id ops b) x) Q k L H):DW Γ (.seq (.region id ops b) x) Q k L H:=h
def my {ι:Type} {c y:Code} {Q:ey} (I:ι->St) (pre:ι->Prop) (d:DW Γ c (du (λk' L' H'=>∃ i,pre i/\X7 Γ k' L' H' (I i).k (I i).L (I i).H) Q) k L H) (f:∀ i,pre i->DW Γ y Q (I i).k (I i).L (I i).H):DW Γ (.seq c y) Q k L H:=by
 intro e a w m;refine wpIn_seq<|wpIn_mono (d e a w m) ?_;rintro h a' w' (⟨k',L',H',b,m',hq⟩|hf)
 ·cases h with
  | normal =>
   obtain⟨i,j,l⟩:=hq;obtain⟨n,o⟩:=l b a' w' m';exact f i j n a' w' o
  | _=>exact .inl ⟨k',L',H',b,m',hq⟩
 ·obtain⟨v,k',L',H',b,rfl,r⟩:=hf;exact .inr ⟨v,k',L',H',b,rfl,r⟩
def ot {b c:Nat} {d f:Sl} {i j:Hp} (h:X7 Γ k L H b d i) (g:X7 Γ b d i c f j):X7 Γ k L H c f j:=λe a w m =>
 let ⟨l,n⟩:=h e a w m
 g l a w n
end
def Z4 (l:List U0) (f:U0):Bool:=l.any λx=>decide (dg x f=0)
def s7 (l:List U0) (f:U0):Nat->Nat
 | 0=>0
 | n+1=>match l[n]? with
  | some x=>if 0<dg x f then s7 l f n else n+1
  | none=>n+1
def ye (l:List U0) (f:U0):List U0:=if Z4 l f then l else l.take (s7 l f l.length)++f::l.drop (s7 l f l.length)
def bg (l:List U0):List U0:=l.foldl ye []
def Nw {l:List U0} {f:U0} {n:Nat} (h:n<l.length):s7 l f (n+1)=if 0<dg l[n] f then s7 l f n else n+1:=by rw [s7,Ad h]
def US (l:List U0) (f:U0):(ye l f).length<=l.length+1:=by
 unfold ye;split
 ·omega
 ·simp;omega
def rN {l:List U0} {i:Nat} (h:i<l.length):(l.take (i+1)).foldl ye []=ye ((l.take i).foldl ye []) l[i]:=by rw [Am h,List.foldl_append];rfl
def U8:∀ (l o:List U0),(l.foldl ye o).length<=l.length+o.length
 | [],o=>by simp
 | x::l,o=>by
  have:=U8 l (ye o x)
  have:=US o x
  rw [Bi,Ba]
  omega
def OI {α:Type} {l:List α} {y:α} {k:Nat} (h:k<l.length):(l.take (k+1)++y::l.drop (k+1)).set (k+1) l[k]=l.take k++l[k]::l.drop k:=by
 have b:(l.take<|k+1).length=k+1:=by simp;omega
 rw [Gv _ _ (by omega),b,Nat.sub_self,Hk,Am h,List.append_assoc,An h];rfl
def nN {α:Type} {l:List α} {y:α} {k:Nat} (h:k<l.length):(l.take (k+1)++y::l.drop (k+1))[k]?=some l[k]:=by rw [Bj (by simp;omega),Bf,if_pos (by omega),Ad h]
def YA {α:Type} {l:List α} {y x:α} {k:Nat} (h:k<=l.length):(l.take k++y::l.drop k).set k x=l.take k++x::l.drop k:=by
 have b:(l.take k).length=k:=by simp;omega
 rw [Gv _ _ (by omega),b,Nat.sub_self,Hk]
attribute [local irreducible] DW DS DL DQ Ev X1 I3 du bl DT
def Yf (l:List U0) (f:U0):Fn 133 [.s 2 (l.map aa),jt f] (λr=>r=.b (Z4 l f)):=by
 refine J2 func133 ?_;intro O h j m;have n:(l.map aa).length=l.length:=Aa _;refine po (t:=0) rfl<|λo=>?_;unfold Z4;refine zS ?_;refine ae (ι:=Nat) (λi=>⟨1,[(0,.s 2<|l.map aa),(3,.loc 0 0),(4,.b false),(5,.i i)],[(0,.M1 95 [.i f.N0,.s 1<|f.args.map aq])]⟩)
  (λi=>i<=l.length/\(l.any λx=>decide (dg x f=0))=((l.drop i).any λx=>decide (dg x f=0))) (λi=>l.length-i) 0 ⟨Ai _,rfl⟩ (er id) ?_
 rintro i ⟨g1,g2⟩;by_cases c:i<l.length
 ·have w:=xw l[i] f;rw [An c,List.any_cons] at g2;generalize dg l[i] f=q at w g2;repeat' (first|refine zr ?_|refine z22 ?_ w|(refine zm ?_ ?_<;>intro d)|fail)
  all_goals first
   | omega
   | (refine bi rfl ?_;rw [g2];simp_all;done)
   | exact⟨i+1,⟨by omega,by rw [g2];simp_all⟩,er id,by show l.length-(i+1)<l.length-i;omega⟩
 ·rw [Ar<|by omega] at g2;repeat' (first|refine zr ?_|(refine zm ?_ ?_<;>intro d)|fail)
  all_goals first
   | omega
   | exact bi rfl g2.symm
def u9 (l:List U0) (C:l.length<=4398046511104):Fn 84 [.s 2 (l.map aa)] (λr=>r=.s 2 ((bg l).map aa)):=by
 refine J2 func84 ?_;intro O E F G;have I:(l.map aa).length=l.length:=Aa _;refine zS ?_;refine ag (ce (t:=3) 95 2 rfl) ?_;refine ae (ι:=Nat×List U0) (λx=>⟨1,[(0,.s 2<|l.map aa),(3,.row 0),(4,.i x.1)],[(0,.row 95 2<|x.2.map aa)]⟩)
  (λx=>x.1<=l.length/\x.2=(l.take x.1).foldl ye []) (λx=>l.length-x.1) (0,[]) ⟨Ai _,rfl⟩ (er id) ?_
 rintro⟨i,o⟩ ⟨z,h⟩;dsimp only at z h ⊢;have lo:(o.map aa).length=o.length:=Aa _;have J:o.length<=i:=by
  have:=U8 (l.take i) []
  rw [<- h] at this;simp at this;omega
 by_cases A:i<l.length
 ·have f:=rN (l:=l) A;rw [<- h] at f;repeat' (first|refine zr ?_|(refine zm ?_ ?_<;>intro n)|omega)
  refine QT 0 (Yf o l[i]) rfl rfl (by rintro _ rfl;rfl) rfl rfl rfl rfl ?_;rintro _ rfl;cases p:Z4 o l[i] with
  | true =>
   have j:ye o l[i]=o:=by unfold ye;rw [if_pos p]
   refine zS ?_;exact⟨(i+1,o),⟨by dsimp only;omega,by dsimp only;rw [f,j]⟩,er id,by show l.length-(i+1)<l.length-i;omega⟩
  | false =>
   have j:ye o l[i]=o.take (s7 o l[i] o.length)++l[i]::o.drop (s7 o l[i] o.length):=by unfold ye;rw [p];rfl
   rw [j] at f;refine zS ?_;have B:o.map aa++[[D.int .i64 l[i].N0,D.slice 1<|l[i].args.map aq]]=(o.take o.length++l[i]::o.drop o.length).map aa:=by
    rw [Aj (Af _),Ar (Af _),List.map_append];rfl
   rw [B];refine ae (ι:=Nat×List U0) (λx=>⟨2,[(0,.s 2<|l.map aa),(3,.row 1),(4,.i i),(5,.i x.1)],[(1,.row 95 2<|x.2.map aa)]⟩)
    (λx=>x.1<=o.length/\s7 o l[i] o.length=s7 o l[i] x.1/\∃ y,x.2=o.take x.1++y::o.drop x.1) (λx=>x.1) (o.length,o.take o.length++l[i]::o.drop o.length) ⟨Af _,rfl,_,rfl⟩
    (by rw [lo];exact er id) ?_
   rintro⟨k,b⟩ ⟨m,c,y,d⟩;dsimp only at m c d ⊢;have M:(b.map aa).length=b.length:=Aa _;have N:b.length=o.length+1:=by rw [d];simp;omega
   cases k with
   | zero =>
    repeat' (first|refine z0 ?_|apply i7|(apply mh;exact rfl;exact rfl;(apply k0;(omega));exact rfl;exact rfl;(exact mc rfl);(iterate 6 exact rfl))|refine zs ?_|omega)
    refine⟨(i+1,b.set 0 l[i]),⟨by dsimp only;omega,?_⟩,er (λ_=>1),by show l.length-(i+1)<l.length-i;omega⟩
    dsimp only;rw [f,c,d,YA m];rfl
   | succ k =>
    have u:b[k]'(by omega)=o[k]'(by omega):=by
     have:=nN (l:=o) (y:=y) (k:=k)<|by omega
     rw [<- d,Ad<|by omega] at this;injection this
    have w:=xw (b[k]'(by omega)) l[i];rw [Nw (by omega),<- u] at c;repeat' (first|refine z0 ?_|apply i7|(apply mh;exact rfl;exact rfl;(apply k0;(omega));exact rfl;exact rfl;(exact mc rfl);(iterate 6 exact rfl))|refine zs ?_|refine z22 ?_ w|(refine zm ?_ ?_<;>intro n)|omega)
    ·rw [if_pos<|by assumption] at c;simp only [kw];refine⟨(k,b.set (k+1)<|b[k]'(by omega)),⟨by dsimp only;omega,c,b[k]'(by omega),?_⟩,er id,by show k<k+1;omega⟩
     have v:=OI (l:=o) (y:=y) (k:=k) (by omega);rw [<- d] at v;dsimp only;rw [u];exact v
    ·rw [if_neg<|by assumption] at c;refine⟨(i+1,b.set (k+1) l[i]),⟨by dsimp only;omega,?_⟩,er (λ_=>1),by show l.length-(i+1)<l.length-i;omega⟩
     dsimp only;rw [f,c,d,YA m]
 ·repeat' (first|refine zs ?_|(refine zm ?_ ?_<;>intro n)|omega)
  refine ag (ck 2 rfl rfl rfl) ?_;repeat' (apply cr)
  have:o=bg l:=by rw [h,Aj<|by omega];rfl
  rw [<- this];exact⟨.inl rfl,_,rfl,rfl,rfl⟩
def Wc (a b:Int):fi a b = - fi b a:=by unfold fi;split<;>split<;>(try split)<;>omega
def P8 {a b:Int}:fi a b<0↔a<b:=by
 unfold fi;split
 ·rename_i h;simp [h]
 ·rename_i h;split<;>simp [h]
def ms:∀ (l m:List Int),dy l m = - dy m l
 | [],[]=>rfl
 | [],_::_=>rfl
 | _::_,[]=>rfl
 | a::l,b::m=>by
  unfold dy
  rw [Wc a b]
  by_cases h:fi b a=0
  ·rw [h,if_pos (by omega),if_pos rfl];exact ms l m
  ·rw [if_neg (by omega),if_neg h]
def Q9:∀ {l m:List Int},dy l m=0->l=m
 | [],[],_=>rfl
 | [],_::_,h=>by unfold dy at h;omega
 | _::_,[],h=>by unfold dy at h;omega
 | a::l,b::m,h=>by
  unfold dy at h
  split at h
  ·rename_i c;rw [sg c,Q9 h]
  ·rename_i c;exact absurd h c
def xy:∀ {l m n:List Int},dy l m<0->dy m n<0->dy l n<0
 | [],[],_,h,_=>by unfold dy at h;omega
 | _::_,[],_,h,_=>by unfold dy at h;omega
 | [],_::_,[],_,h=>by unfold dy at h;omega
 | [],_::_,_::_,_,_=>by unfold dy;omega
 | _::_,_::_,[],_,h=>by unfold dy at h;omega
 | a::l,b::m,c::n,h,g=>by
  unfold dy at h g ⊢
  by_cases f:fi a b=0
  ·have:=sg f;subst this
   rw [if_pos f] at h
   by_cases d:fi a c=0
   ·rw [if_pos d] at g ⊢;exact xy h g
   ·rw [if_neg d] at g ⊢;exact g
  ·rw [if_neg f] at h
   by_cases d:fi b c=0
   ·have:=sg d;subst this
    rw [if_neg f];exact h
   ·rw [if_neg d] at g
    have j:=P8.1 h
    have o:=P8.1 g
    have i:fi a c<0:=P8.2<|by omega
    rw [if_neg<|by omega];exact i
def sc (a b:U0):dg a b = - dg b a:=by
 unfold dg;rw [Wc a.N0 b.N0];by_cases h:fi b.N0 a.N0=0
 ·rw [h,if_pos (by omega),if_pos rfl];exact ms _ _
 ·rw [if_neg (by omega),if_neg h]
def sx {a b:U0} (h:dg a b=0):a=b:=by
 unfold dg at h;split at h
 ·rename_i c;cases a;cases b;simp only at h c ⊢;rw [sg c,Q9 h]
 ·rename_i c;exact absurd h c
def n5 {a b c:U0} (h:dg a b<0) (g:dg b c<0):dg a c<0:=by
 unfold dg at h g ⊢;by_cases f:fi a.N0 b.N0=0
 ·rw [if_pos f] at h;rw [sg f];by_cases d:fi b.N0 c.N0=0
  ·rw [if_pos d] at g ⊢;exact xy h g
  ·rw [if_neg d] at g ⊢;exact g
 ·rw [if_neg f] at h;by_cases d:fi b.N0 c.N0=0
  ·rw [<- sg d,if_neg f];exact h
  ·rw [if_neg d] at g;have j:=P8.1 h;have l:=P8.1 g;have i:fi a.N0 c.N0<0:=P8.2 (by omega);rw [if_neg<|by omega];exact i
def PL {a b c:U0} (h:0<=dg a b) (g:0<=dg b c):0<=dg a c:=by
 by_cases d:dg a b=0
 ·rw [sx d];exact g
 ·by_cases f:dg b c=0
  ·rw [<- sx f];exact h
  ·have i:dg b a<0:=by rw [sc];omega
   have j:dg c b<0:=by rw [sc];omega
   have:=n5 j i
   rw [sc] at this;omega
def I':Go.Sort.SWO (ltOf dg) where
 irrefl x:=by unfold ltOf;rw [ol];rfl
 trans x y z h g:=decide_eq_true<|n5 (of_decide_eq_true h)<|of_decide_eq_true g
 ntrans x y z h g:=by
  have h:=of_decide_eq_false h;have g:=of_decide_eq_false g;exact decide_eq_false<|by have:=PL (a:=x) (b:=y) (c:=z) (by omega) (by omega);omega
structure I6 where
 var:Int
 n:Int
structure T2 where
 R0:Int
 op:Int
 N0:Int
 D0:List I6
structure O3 where
 N0:Int
 D0:List I6
 T0:Int
 body:List T2
 vars:Int
structure R3 where
 F0:List Int
 Z0:List ByteArray
 M0:List O3
def bp {α:Type} (f:α->Int):List α->Int
 | []=>0
 | x::l=>if f x≠0 then f x else bp f l
def gg {α:Type} {f:α->Int} {l:List α} {i:Nat} (hi:i<l.length):bp f (l.drop i)=if f l[i]≠0 then f l[i] else bp f (l.drop (i+1)):=by rw [An hi];rfl
def iu {α:Type} {f:α->Int} {l:List α} {i:Nat} (hi:l.length<=i):bp f (l.drop i)=0:=by rw [Ar hi];rfl
def k7 (f:Nat->Int):Nat->Nat->Int
 | _,0=>0
 | i,k+1=>if f i≠0 then f i else k7 f (i+1) k
def Mp {f:Nat->Int} {n i:Nat} (h:i<n):k7 f i (n-i)=if f i≠0 then f i else k7 f (i+1) (n-(i+1)):=by rw [show n-i=(n-(i+1))+1 by omega];rfl
def Qx {f:Nat->Int} {n i:Nat} (h:n<=i):k7 f i (n-i)=0:=by rw [show n-i=0 by omega];rfl
def yz (b:Int) (t:I6):Int:=if L5 t.var (-1) (b-1)=false then 5 else if Q3 t.n=false∨(0<=t.var/\t.n≠0) then 3 else 0
def p8 (b:Int) (l:List I6):Int:=bp (yz b) l
def jX (b n:Int):Bool:=if b=3 then L5 n 1 4 else if b=4 then L5 n 5 7 else decide (n=0)
def nf (b:List Int) (c:Int) (l:T2):Int:=
 if L5 l.R0 1 4=false then 7
 else if jX l.R0 l.op=false then 3
 else if l.R0=1∨l.R0=2 then
  if L5 l.N0 0 ((b.length:Int)-1)=false then 5
  else if (l.D0.length:Int)≠b.getD l.N0.toNat 0 then 1
  else p8 c l.D0
 else if l.N0≠0∨(l.D0.length:Int)≠l.R0-1 then 1
 else p8 c l.D0
def S5 (bs:List Bool) (t:I6):Bool:=decide (t.var<0)||bs.getD t.var.toNat false
def kj (bs:List Bool) (t:I6):List Bool:=if t.var<0 then bs else bs.set t.var.toNat true
def co (bs:List Bool) (l:T2):Bool:=decide (l.R0=1)||(decide (l.R0=4)&&(l.D0.take 2).all (S5 bs))
def ef (l:T2):List I6:=if l.R0=1 then l.D0 else l.D0.drop 2
def nr (bs:List Bool) (l:T2):List Bool:=if co bs l then (ef l).foldl kj bs else bs
def jq (body:List T2) (bs:List Bool):List Bool:=body.foldl nr bs
def gz (body:List T2):Nat->List Bool->List Bool
 | 0,b=>b
 | n+1,b=>gz body n (jq body b)
def yt (r:O3):List Bool:=gz r.body (r.body.length+1)<|Aq r.vars.toNat false
def uc (r:O3):Bool:=(yt r).all id
def pu (b:List Int) (r:O3):Int:=
 if L5 r.N0 0 ((b.length:Int)-1)=false then 5
 else if (r.D0.length:Int)≠b.getD r.N0.toNat 0 then 1
 else if L5 r.vars 0 8=false then 3
 else if p8 r.vars r.D0≠0 then p8 r.vars r.D0
 else if L5 r.T0 0 4=false then 7
 else if r.T0≠0/\(r.D0.length=0∨r.body.length=0) then 1
 else if 4<r.body.length then 2
 else if bp (nf b r.vars) r.body≠0 then bp (nf b r.vars) r.body
 else if uc r=false then 4
 else 0
def s0 (b:ByteArray->Bool) (p:R3) (i:Nat):Int:=
 if L5 (p.F0.getD i 0) 0 3=false then 3
 else if b (p.Z0.getD i ⟨#[]⟩)=false then 1
 else if (p.Z0.take i).any (λs=>decide (s=p.Z0.getD i ⟨#[]⟩)) then 6
 else 0
def dn (b:ByteArray->Bool) (p:R3):Int:=
 if 10<p.F0.length∨12<p.M0.length then 2
 else if p.Z0.length≠p.F0.length then 1
 else if k7 (s0 b p) 0 p.Z0.length≠0 then k7 (s0 b p) 0 p.Z0.length
 else bp (pu p.F0) p.M0
def z8 (bs:List Bool) (t:I6):(kj bs t).length=bs.length:=by unfold kj;split<;>simp
def Tk:∀ (l:List I6) (bs:List Bool),(l.foldl kj bs).length=bs.length
 | [],_=>rfl
 | t::l,bs=>by rw [Bi,Tk l,z8]
def mI (bs:List Bool) (l:T2):(nr bs l).length=bs.length:=by unfold nr;split;exact Tk _ _;rfl
def Qg:∀ (body:List T2) (bs:List Bool),(jq body bs).length=bs.length
 | [],_=>rfl
 | l::body,bs=>by
  have:=Qg body (nr bs l)
  rw [mI] at this
  exact this
def wy (body:List T2):∀ (n:Nat) (bs:List Bool),(gz body n bs).length=bs.length
 | 0,_=>rfl
 | n+1,bs=>by rw [gz,wy body n,Qg]
def O7 (a b:List Bool):Prop:=a.length=b.length/\∀ i,a.getD i false=true->b.getD i false=true
def O7.refl (a:List Bool):O7 a a:=⟨rfl,λ_ h=>h⟩
def O7.trans {a b c:List Bool} (h:O7 a b) (g:O7 b c):O7 a c:=⟨h.1.trans g.1,λi d=>g.2 i<|h.2 i d⟩
def gV (bs:List Bool) (t:I6):O7 bs (kj bs t):=by
 refine⟨(z8 _ _).symm,λi h=>?_⟩
 unfold kj;split
 ·exact h
 ·simp only [A4,En] at h ⊢;split
  ·rename_i b;rw [b];by_cases c:i<bs.length
   ·simp [c]
   ·rw [Be<|by omega] at h;cases h
  ·exact h
def nj:∀ (l:List I6) (bs:List Bool),O7 bs (l.foldl kj bs)
 | [],bs=>O7.refl bs
 | t::l,bs=>(gV bs t).trans (nj l _)
def PM (bs:List Bool) (l:T2):O7 bs (nr bs l):=by unfold nr;split;exact nj _ _;exact O7.refl _
def wx:∀ (body:List T2) (bs:List Bool),O7 bs (jq body bs)
 | [],bs=>O7.refl bs
 | l::body,bs=>(PM bs l).trans (wx body _)
def vr {a b:List Bool} (h:O7 a b) {t:I6} (c:S5 a t=true):S5 b t=true:=by unfold S5 at c ⊢;rw [Ei] at c ⊢;exact c.imp id<|h.2 _
def yk {a b:List Bool} (h:O7 a b) {l:T2} (c:co a l=true):co b l=true:=by unfold co at c ⊢;simp only [Ei,Ae,List.all_eq_true] at c ⊢;exact c.imp id fun⟨d,f⟩=>⟨d,λt i=>vr h<|f t i⟩
def r9 {bs:List Bool} {t:I6} (h:S5 bs t=true):kj bs t=bs:=by
 unfold S5 at h;unfold kj;split
 ·rfl
 ·rename_i d;rw [decide_eq_false d,Ci] at h;simp only [A4] at h;cases c:bs[t.var.toNat]? with
  | none=>rw [c] at h;cases h
  | some b =>
   rw [c] at h;simp only [Option.getD_some] at h;subst h;have j:=(List.getElem?_eq_some_iff.1 c).1;refine Ce λi=>?_
   rw [En];split
   ·rename_i f;subst f;exact c.symm
   ·rfl
def Ot:∀ {l:List I6} {bs:List Bool},(∀ t∈l,S5 bs t=true)->l.foldl kj bs=bs
 | [],_,_=>rfl
 | t::l,bs,h=>by
  rw [Bi,r9 (h t (Ac ..))]
  exact Ot λx b=>h x (Ak _ b)
def W5 (v:Nat) (t:I6):Prop:=t.var<(v:Int)
def iV {bs:List Bool} {t:I6} (h:W5 bs.length t):S5 (kj bs t) t=true:=by
 unfold S5 kj;unfold W5 at h;split
 ·rename_i b;rw [decide_eq_true b];rfl
 ·rename_i b;rw [decide_eq_false b,Ci];simp only [A4,En];have:t.var.toNat<bs.length:=by omega
  simp [this]
def o8:∀ {l:List I6} {bs:List Bool},(∀ t∈l,W5 bs.length t)->∀ t∈l,S5 (l.foldl kj bs) t=true
 | [],_,_,t,b=>by simp at b
 | x::l,bs,h,t,b=>by
  rw [Bi]
  rcases List.mem_cons.1 b with rfl|b
  ·exact vr (nj l _) (iV (h t (Ac ..)))
  ·exact o8 (bs:=kj bs x) (λy c=>by rw [z8];exact h y<|Ak _ c) t b
def iQ {bs:List Bool} {l:T2} (h:co bs l=true->∀ t∈ef l,S5 bs t=true):nr bs l=bs:=by
 unfold nr;split
 ·rename_i b;exact Ot<|h b
 ·rfl
def Kb:∀ {body:List T2} {bs:List Bool},(∀ l∈body,co bs l=true->∀ t∈ef l,S5 bs t=true)->jq body bs=bs
 | [],_,_=>rfl
 | l::body,bs,h=>by
  show jq body (nr bs l)=bs
  rw [iQ (h l (Ac ..))]
  exact Kb λx b=>h x (Ak _ b)
def Lb:∀ {body:List T2} {bs:List Bool},(∀ l∈body,∀ t∈ef l,W5 bs.length t)->∀ l∈body,co bs l=true->∀ t∈ef l,S5 (jq body bs) t=true
 | [],_,_,l,b,_,_,_=>by simp at b
 | x::body,bs,c,l,b,d,t,f=>by
  show S5 (jq body (nr bs x)) t=true
  rcases List.mem_cons.1 b with rfl|b
  ·refine vr (wx body _) ?_
   unfold nr
   rw [if_pos d]
   exact o8 (c l (Ac ..)) t f
  ·exact Lb (bs:=nr bs x) (λy h z i=>by rw [mI];exact c y (Ak _ h) z i) l b (yk (PM bs x) d) t f
def vo (body:List T2) (bs:List Bool):Nat:=(body.filter<|co bs).length
def Qf {a b:List Bool} (h:O7 a b):∀ (body:List T2),vo body a<=vo body b
 | []=>Af _
 | l::body=>by
  have ih:=Qf h body
  unfold vo at ih ⊢
  rw [B7,B7]
  cases c:co a l with
  | true=>rw [yk h c];simpa using ih
  | false =>
   cases d:co b l with
   | true=>simp;omega
   | false=>simpa using ih
def Tv {a b:List Bool} (h:O7 a b):∀ {body:List T2},vo body b<=vo body a->∀ l∈body,co b l=true->co a l=true
 | [],_,l,f,_=>by simp at f
 | x::body,c,l,f,i=>by
  have ih:=Qf h body
  have j:=@Tv a b h body
  unfold vo at c ih j
  rw [B7,B7] at c
  rcases List.mem_cons.1 f with rfl|f
  ·cases d:co a l with
   | true=>rfl
   | false=>rw [i,d] at c;simp at c;omega
  ·refine j ?_ l f i
   cases d:co a x with
   | true=>rw [d,yk h d] at c;simpa using c
   | false =>
    cases m:co b x with
    | true=>rw [d,m] at c;simp at c;omega
    | false=>rw [d,m] at c;simpa using c
def n9 (body:List T2):∀ (n:Nat) (bs:List Bool),gz body (n+1) bs=jq body (gz body n bs)
 | 0,_=>rfl
 | n+1,bs=>by rw [gz,n9 body n];rfl
def Pz {body:List T2} {bs:List Bool} (d:∀ l∈body,∀ t∈ef l,W5 bs.length t):∀ n,jq body (gz body n bs)=gz body n bs∨n+1<=vo body (gz body n bs)
 | 0=>by
  by_cases h:vo body bs=0
  ·left
   refine Kb λl b c=>?_
   have:l∈body.filter (co bs):=List.mem_filter.2 ⟨b,c⟩
   unfold vo at h
   rw [Bg h] at this
   simp at this
  ·right;show 1<=vo body bs;omega
 | n+1=>by
  rcases Pz d n with h|h
  ·left;rw [n9,h,h]
  ·have f:=wx body (gz body n bs)
   have o:=Qf f body
   by_cases i:vo body (jq body<|gz body n bs)<=vo body (gz body n bs)
   ·left
    rw [n9]
    refine Kb λl b c=>?_
    exact Lb (λx j t m=>by rw [wy];exact d x j t m) l b<|Tv f i l b c
   ·right;rw [n9];omega
def Vp {body:List T2} {bs:List Bool} (b:∀ l∈body,∀ t∈ef l,W5 bs.length t):jq body (gz body body.length bs)=gz body body.length bs:=by
 rcases Pz b body.length with h|h
 ·exact h
 ·have:=List.length_filter_le (co<|gz body body.length bs) body
  unfold vo at h;omega
def Yc {body:List T2} {bs:List Bool} (h:jq body bs=bs):∀ n,gz body n bs=bs
 | 0=>rfl
 | n+1=>by rw [gz,h,Yc h n]
def Zc (body:List T2):∀ (m n:Nat) (bs:List Bool),gz body (m+n) bs=gz body n (gz body m bs)
 | 0,n,bs=>by rw [C4];rfl
 | m+1,n,bs=>by rw [show m+1+n=(m+n)+1 by omega,gz,gz,Zc body m n]
def wV {r:O3} (i:∀ l∈r.body,∀ t∈ef l,W5 r.vars.toNat t) {m:Nat} (h:jq r.body (gz r.body m (Aq r.vars.toNat false))=gz r.body m (Aq r.vars.toNat false)):gz r.body m (Aq r.vars.toNat false)=yt r:=by
 have f:=Vp (body:=r.body) (bs:=Aq r.vars.toNat false) (by rw [List.length_replicate];exact i);unfold yt;rw [n9,f];rcases Nat.le_total m r.body.length with b|b
 ·obtain⟨d,c⟩:=Gh b;rw [c,Zc,Yc h]
 ·obtain⟨d,c⟩:=Gh b;rw [c,Zc,Yc f]
def cu (b:Bool):List D:=[.bool b]
def qn (s:ByteArray):List D:=[.str s]
def a7 (t:I6):List D:=[.int .i64 t.var,.int .i64 t.n]
def bf (l:T2):List D:=[.int .i64 l.R0,.int .i64 l.op,.int .i64 l.N0,.slice 2<|l.D0.map a7]
def dq (r:O3):List D:=[.int .i64 r.N0,.slice 2 (r.D0.map a7),.int .i64 r.T0,.slice 4 (r.body.map bf),.int .i64 r.vars]
abbrev rX (t:I6):SV:=.agg [.i t.var,.i t.n]
abbrev bC (l:T2):SV:=.agg [.i l.R0,.i l.op,.i l.N0,.s 2 (l.D0.map a7)]
abbrev th (r:O3):SV:=.agg [.i r.N0,.s 2 (r.D0.map a7),.i r.T0,.s 4 (r.body.map bf),.i r.vars]
abbrev gy (p:R3):SV:=.agg [.s 1 (p.F0.map aq),.s 1 (p.Z0.map qn),.s 5 (p.M0.map dq)]
def gr (n a b:Int):Fn 181 [.i n,.i a,.i b] (λr=>r=.b (L5 n a b)):=by
 refine J2 func181 ?_;intro O c d f;unfold L5;repeat' (first|refine zr ?_|(refine zm ?_ ?_<;>intro h)|fail)
 all_goals exact bi rfl<|by simp_all<;>omega
def sq (n:Int):Fn 162 [.i n] (λr=>r=.b (Q3 n)):=by
 refine J2 func162 ?_;intro O c d f;unfold Q3;repeat' (first|refine zr ?_|refine z31 ?_ (hc:=by apply gr)|fail)
 exact bi rfl rfl
def rZ (c n:Int):Fn 237 [.i c,.i n] (λr=>r=.b (jX c n)):=by
 refine J2 func237 ?_;intro O d f h;unfold jX;repeat' (first|refine zr ?_|refine z31 ?_ (hc:=by apply gr)|(refine zm ?_ ?_<;>intro j)|fail)
 all_goals exact bi rfl<|by simp_all<;>omega
def kF (l:List I6) (b:Int) (f:0<=b) (h:b<=8):Fn 206 [.s 2 (l.map a7),.i b] (λr=>r=.i (p8 b l)):=by
 refine J2 func206 ?_;intro O j m o;have p:(l.map a7).length=l.length:=Aa _;unfold p8;refine zS ?_;refine po (t:=7) rfl<|λu=>?_;refine ae (ι:=Nat) (λi=>⟨0,[(1,.i b),(4,.i 0),(7,.s 2<|l.map a7),(8,.i (l.map a7).length),(9,.i i)],[]⟩)
  (λi=>i<=l.length/\bp (yz b) l=bp (yz b) (l.drop i)) (λi=>l.length-i) 0 ⟨Ai _,rfl⟩ (er id) ?_
 rintro i ⟨g1,g2⟩;by_cases d:i<l.length
 ·rw [gg d,show yz b l[i]=if L5 l[i].var (-1) (b-1)=false then 5 else if Q3 l[i].n=false∨(0<=l[i].var/\l[i].n≠0) then 3 else 0 from rfl] at g2;repeat' (first|refine zr ?_|refine z31 ?_ (hc:=by apply gr)|refine z31 ?_ (hc:=by apply sq)|(refine zm ?_ ?_<;>intro c)|fail)
  all_goals first
   | exact absurd c<|by omega
   | exact bh rfl<|by rw [g2];simp_all<;>omega
   | exact⟨i+1,⟨by omega,by rw [g2];simp_all<;>omega⟩,er id,by show l.length-(i+1)<l.length-i;omega⟩
 ·rw [iu<|by omega] at g2;repeat' (first|refine zr ?_|refine z31 ?_ (hc:=by apply gr)|refine z31 ?_ (hc:=by apply sq)|(refine zm ?_ ?_<;>intro c)|fail)
  all_goals first
   | exact absurd c<|by omega
   | exact bh rfl g2.symm
end Go.Proofs.YtapciiffpnociabGreat
namespace Go.Proofs.YtapciiffpnociabGreat
open Go Go.RowKit
variable [Y0]
section
variable {Γ : Ctx} {k : Nat} {L : Sl} {H : Hp} {K : cn} {ops : List Oper} {rest : List Oper} {t t' ty : TypeId} {x y : Operand}
def Ua {d te:TypeId} {es:Nat} (b:(ai Γ.τ t).sh=.slice te) (c:(ai Γ.τ te).sh.known=true) (f:(ai Γ.τ te).cells=es) (h:Av 0 es=true) (i:gp (ai Γ.τ te).zero=true) (j:Az (ai Γ.τ te).zero.length (ai Γ.τ te).cells=true) (l:Av d Γ.n=true) (m:ap ops L g=some true)
  (o:DS false Γ ops rest K (k+1) ((d,.row k)::L) ((k,.row te es [])::H)):DS false Γ ops (⟨some d,.buildSlice t 0 #[],ty,pos,af,g⟩::rest) K k L H:=
 Va m ((UR (ir k) b c f h i j l).cast<|gv k) o
def Ly {d te:TypeId} {es:Nat} {xs:List (List D)} (h:aj L x=.d (.slice es xs)) (b:aj L y=.Q1) (i:(ai Γ.τ t).sh=.slice te) (f:Av d Γ.n=true) (j:ap ops L g=some true)
  (h1:xs=[]->DS false Γ ops rest K k ((d,.d (.bool true))::L) H) (l:DS false Γ ops rest K k ((d,.d (.bool false))::L) H):DS false Γ ops (⟨some d,.binOp .eql t x y t',ty,pos,af,g⟩::rest) K k L H:=by
 refine gj j λe a w m=>?_
 obtain⟨c,o,p,_,_,r⟩:=(Q5 m h (ow · _ _)).R4;have u:a.eval y=.slice none 0 0:=by
  have z:Nq y:=by
   cases y with
   | const v=>simp only [aj] at b;unfold S6 at b;split at b<;>simp_all [Nq,NY]
   | _=>trivial
  have:=m.op y z
  rw [b] at this;exact this
 have A:(execOp a.eval ⟨some d,.binOp .eql t x y t',ty,pos,af,g⟩).run Γ.P w=.ok (.value<|.bool c.isNone) w:=by
  simp [execOp,p,u,eqGuard,Lib.run_eql_slice_nil w t te c xs.length o 0 0<|Ctx.slice i]
 unfold Oper.wp;rw [A];cases c with
 | none=>exact⟨k,_,H,e,m.put (s:=.d<|.bool true) (v:=.bool true) (Ab f) .bool,h1<|r rfl⟩
 | some B=>exact⟨k,_,H,e,m.put (s:=.d<|.bool false) (v:=.bool false) (Ab f) .bool,l⟩
end
attribute [local irreducible] DW DS DL DQ Ev X1 I3 du bl DT
def jG (x:Int):N7 (aq x) (aq x):=⟨.inr ⟨rfl,rfl⟩,trivial⟩
def Vy (l:List (Int)) (c:l.length<=17592186044416):Fn 151 [.s 1 (l.map aq)] (λr=>r=.d (.own Y0.B (.slice 1 (l.map aq)))):=by
 refine J2 func151 ?_;intro O f i j;have m:(l.map aq).length=l.length:=Aa _;refine zS ?_;refine Ly rfl rfl rfl rfl rfl (λh=>?_) ?_
 ·have b:l=[]:=List.map_eq_nil_iff.1 h;subst b;refine zS ?_;refine ag (ea 2 1 rfl) ?_;refine zR ?_;exact⟨.inl rfl,_,rfl,rfl,rfl⟩
 ·repeat' (first|(apply Ua;(iterate 8 exact rfl))|(first|refine zs ?_|fail))
  refine ag (ka (xs:=l.map aq) 2 (bm jG _) rfl rfl rfl) ?_;repeat' (apply cr)
  exact⟨.inl rfl,_,rfl,rfl,rfl⟩
def UP (l:List (Int)) (b:l.length<=17592186044416):Fn 151 [.s 1 (l.map aq)] (λr=>r=.s 1 (l.map aq)):=(Vy l b).Z5
def iy (f:U0):List D:=[.int .i64 f.N0,.own Y0.B<|.slice 1<|f.args.map aq]
abbrev Zx (f:U0):SV:=.agg [.i f.N0,.d (.own Y0.B (.slice 1 (f.args.map aq)))]
def Rh (f:U0):N7 (iy f) (aa f):=⟨.inr ⟨rfl,rfl⟩,.inl rfl,trivial⟩
def JF (a b:U0):Fn 195 [jt a,jt b] (λr=>r=.b (decide (dg a b=0))):=by
 refine J2 func195 ?_;intro O c d f;have w:=Jc a b;repeat' (first|refine zr ?_|refine z21 ?_ w|fail)
 exact bi rfl rfl
def tN (a:U0):Fn 146 [jt a] (λr=>r=.b true):=by refine J2 func146 ?_;intro O c d f;refine zR ?_;exact bi rfl rfl
def ML (a:U0) (h:a.args.length<=17592186044416):Fn 175 [jt a] (λr=>r=Zx a):=by
 refine J2 func175 ?_;intro O b c d;have w:=Vy a.args h;repeat' (first|refine zr ?_|refine z22 ?_ w|fail)
 exact⟨.inl rfl,_,rfl,rfl,rfl⟩
end Go.Proofs.YtapciiffpnociabGreat
namespace Go.Proofs
open Go.Shelf
def Od:Go.Shelf.Ren:=⟨fun|6=>193|15=>192|14=>230|28=>228|29=>229|20=>249|21=>250|22=>251|23=>252|24=>253|25=>254|26=>255|27=>256|46=>262|47=>245|48=>246|49=>263|50=>264|57=>268|n=>n,fun|22=>33|24=>95|25=>138|3=>3|39=>175|0=>0|53=>174|55=>261|4=>4|46=>254|45=>253|50=>179|5=>5|9=>9|66=>273|70=>277|76=>288|77=>234|n=>n,fun|n=>n⟩
def jN:Go.Proofs.SlLaysF0.n6 prog Od:={
 mixed:=by kernel_rfl
 f6:=⟨f193.name,by decide,func193.trans<|congrArg some<|by kernel_rfl⟩
 f14:=⟨f230.name,by decide,func230.trans<|congrArg some<|by kernel_rfl⟩
 f15:=func192.trans<|congrArg some<|by kernel_rfl
 f20:=⟨f249.name,by decide,func249.trans<|congrArg some<|by kernel_rfl⟩
 f21:=⟨f250.name,by decide,func250.trans<|congrArg some<|by kernel_rfl⟩
 f22:=⟨f251.name,by decide,func251.trans<|congrArg some<|by kernel_rfl⟩
 f23:=⟨f252.name,by decide,func252.trans<|congrArg some<|by kernel_rfl⟩
 f24:=⟨f253.name,by decide,func253.trans<|congrArg some<|by kernel_rfl⟩
 f25:=⟨f254.name,by decide,func254.trans<|congrArg some<|by kernel_rfl⟩
 f26:=⟨f255.name,by decide,func255.trans<|congrArg some<|by kernel_rfl⟩
 f27:=⟨f256.name,by decide,func256.trans<|congrArg some<|by kernel_rfl⟩
 f28:=func228.trans<|congrArg some<|by kernel_rfl
 f29:=func229.trans<|congrArg some<|by kernel_rfl
 f46:=⟨f262.name,by decide,func262.trans<|congrArg some<|by kernel_rfl⟩
 f47:=func245.trans<|congrArg some<|by kernel_rfl
 f48:=func246.trans<|congrArg some<|by kernel_rfl
 f49:=⟨f263.name,by decide,func263.trans<|congrArg some<|by kernel_rfl⟩
 f50:=⟨f264.name,by decide,func264.trans<|congrArg some<|by kernel_rfl⟩
 f57:=⟨f268.name,by decide,func268.trans<|congrArg some<|by kernel_rfl⟩
 t0:=underlying0
 a0:=isAgg0
 z0:=sizeOf0
 v0:=zeroValue0
 t3:=underlying3
 a3:=isAgg3
 z3:=sizeOf3
 v3:=zeroValue3
 t4:=underlying4
 a4:=isAgg4
 z4:=sizeOf4
 v4:=zeroValue4
 t5:=underlying5
 a5:=isAgg5
 z5:=sizeOf5
 v5:=zeroValue5
 t9:=underlying9
 a9:=isAgg9
 z9:=sizeOf9
 v9:=zeroValue9
 t22:=underlying33
 a22:=isAgg33
 z22:=sizeOf33
 v22:=zeroValue33
 t25:=underlying138
 a25:=isAgg138
 z25:=sizeOf138
 v25:=zeroValue138
 t39:=underlying175
 a39:=isAgg175
 z39:=sizeOf175
 v39:=zeroValue175
 t45:=underlying253
 a45:=isAgg253
 z45:=sizeOf253
 v45:=zeroValue253
 t46:=underlying254
 a46:=isAgg254
 z46:=sizeOf254
 v46:=zeroValue254
 t50:=underlying179
 a50:=isAgg179
 z50:=sizeOf179
 v50:=zeroValue179
 t53:=underlying174
 a53:=isAgg174
 z53:=sizeOf174
 v53:=zeroValue174
 t55:=underlying261
 a55:=isAgg261
 z55:=sizeOf261
 v55:=zeroValue261
 t66:=underlying273
 a66:=isAgg273
 z66:=sizeOf273
 v66:=zeroValue273
 t70:=underlying277
 a70:=isAgg277
 z70:=sizeOf277
 v70:=zeroValue277
 t76:=underlying288
 a76:=isAgg288
 z76:=sizeOf288
 v76:=zeroValue288
 t77:=underlying234
 a77:=isAgg234
 z77:=sizeOf234
 v77:=zeroValue234 }
def Yg:Go.Shelf.Ren:=⟨fun|6=>141|15=>192|14=>191|28=>228|29=>229|20=>220|21=>221|22=>222|23=>223|24=>224|25=>225|26=>226|27=>227|46=>244|47=>245|48=>246|49=>247|50=>248|57=>261|n=>n,fun|22=>77|24=>22|25=>186|3=>3|39=>175|0=>0|53=>174|55=>261|4=>4|46=>254|45=>253|50=>179|5=>5|9=>9|66=>273|70=>277|76=>288|77=>234|n=>n,fun|n=>n⟩
def VQ:Go.Proofs.SlLaysF.n6 prog Yg:={
 mixed:=by kernel_rfl
 f6:=⟨f141.name,by decide,func141.trans<|congrArg some<|by kernel_rfl⟩
 f14:=⟨f191.name,by decide,func191.trans<|congrArg some<|by kernel_rfl⟩
 f15:=func192.trans<|congrArg some<|by kernel_rfl
 f20:=⟨f220.name,by decide,func220.trans<|congrArg some<|by kernel_rfl⟩
 f21:=⟨f221.name,by decide,func221.trans<|congrArg some<|by kernel_rfl⟩
 f22:=⟨f222.name,by decide,func222.trans<|congrArg some<|by kernel_rfl⟩
 f23:=⟨f223.name,by decide,func223.trans<|congrArg some<|by kernel_rfl⟩
 f24:=⟨f224.name,by decide,func224.trans<|congrArg some<|by kernel_rfl⟩
 f25:=⟨f225.name,by decide,func225.trans<|congrArg some<|by kernel_rfl⟩
 f26:=⟨f226.name,by decide,func226.trans<|congrArg some<|by kernel_rfl⟩
 f27:=⟨f227.name,by decide,func227.trans<|congrArg some<|by kernel_rfl⟩
 f28:=func228.trans<|congrArg some<|by kernel_rfl
 f29:=func229.trans<|congrArg some<|by kernel_rfl
 f46:=⟨f244.name,by decide,func244.trans<|congrArg some<|by kernel_rfl⟩
 f47:=func245.trans<|congrArg some<|by kernel_rfl
 f48:=func246.trans<|congrArg some<|by kernel_rfl
 f49:=⟨f247.name,by decide,func247.trans<|congrArg some<|by kernel_rfl⟩
 f50:=⟨f248.name,by decide,func248.trans<|congrArg some<|by kernel_rfl⟩
 f57:=⟨f261.name,by decide,func261.trans<|congrArg some<|by kernel_rfl⟩
 t0:=underlying0
 a0:=isAgg0
 z0:=sizeOf0
 v0:=zeroValue0
 t3:=underlying3
 a3:=isAgg3
 z3:=sizeOf3
 v3:=zeroValue3
 t4:=underlying4
 a4:=isAgg4
 z4:=sizeOf4
 v4:=zeroValue4
 t5:=underlying5
 a5:=isAgg5
 z5:=sizeOf5
 v5:=zeroValue5
 t9:=underlying9
 a9:=isAgg9
 z9:=sizeOf9
 v9:=zeroValue9
 t22:=underlying77
 a22:=isAgg77
 z22:=sizeOf77
 v22:=zeroValue77
 a24:=isAgg22
 z24:=sizeOf22
 t25:=underlying186
 a25:=isAgg186
 z25:=sizeOf186
 v25:=zeroValue186
 t39:=underlying175
 a39:=isAgg175
 z39:=sizeOf175
 v39:=zeroValue175
 t45:=underlying253
 a45:=isAgg253
 z45:=sizeOf253
 v45:=zeroValue253
 t46:=underlying254
 a46:=isAgg254
 z46:=sizeOf254
 v46:=zeroValue254
 t50:=underlying179
 a50:=isAgg179
 z50:=sizeOf179
 v50:=zeroValue179
 t53:=underlying174
 a53:=isAgg174
 z53:=sizeOf174
 v53:=zeroValue174
 t55:=underlying261
 a55:=isAgg261
 z55:=sizeOf261
 v55:=zeroValue261
 t66:=underlying273
 a66:=isAgg273
 z66:=sizeOf273
 v66:=zeroValue273
 t70:=underlying277
 a70:=isAgg277
 z70:=sizeOf277
 v70:=zeroValue277
 t76:=underlying288
 a76:=isAgg288
 z76:=sizeOf288
 v76:=zeroValue288
 t77:=underlying234
 a77:=isAgg234
 z77:=sizeOf234
 v77:=zeroValue234 }
end Go.Proofs
namespace Go.Proofs.YtapciiffpnociabGreat
open Go Go.RowKit
variable [Y0]
inductive RT where
 | bool
 | int (k:IntKind)
 | str
 | slice (cells bytes:Nat) (e:RT)
 | struct (fs:List RT)
mutual
def RT.size:RT->Nat
 | .struct b=>RT.Tn b
 | .bool=>1
 | .int _=>1
 | .str=>1
 | .slice _ _ _=>1
def RT.Tn:List RT->Nat
 | []=>0
 | r::b=>r.size+RT.Tn b
end
mutual
def iA (P:Program):RT->TypeId->Bool
 | .bool,t=>match P.underlying t with|some .bool=>true|_=>false
 | .int k,t=>match P.underlying t with|some (.int h)=>Wn k h|_=>false
 | .str,t=>match P.underlying t with|some .string=>true|_=>false
 | .slice c b e,t=>match P.underlying t with
  | some (.slice d)=>Az (P.cellsOf d) c&&(Az (P.bytesOf d) b&&(Av 0 c&&(Az e.size c&&iA P e d)))
  | _=>false
 | .struct f,t=>match P.underlying t with
  | some (.struct i)=>bZ P f i.toList 0&&Az (P.cellsOf t) (RT.Tn f)
  | _=>false
def bZ (P:Program):List RT->List Field->Nat->Bool
 | [],[],_=>true
 | r::b,f::c,o=>Az f.offset o&&(Az (P.cellsOf f.type) r.size&&(iA P r f.type&&bZ P b c (o+r.size)))
 | _,_,_=>false
end
mutual
def zi (R:Nat):RT->List D->Prop
 | .bool,d=>∃ b,d=[.bool b]
 | .int k,d=>∃ n,(Lit.int k n).wf=true/\d=[.int k n]
 | .str,d=>∃ s:ByteArray,s.size<=R/\d=[.str s]
 | .slice c b e,d=>∃ l:List (List D),l.length*b<=R/\l.length<=maxLen/\d=[.slice c l]/\∀ x∈l,zi R e x
 | .struct f,d=>SY R f d
def SY (R:Nat):List RT->List D->Prop
 | [],c=>c=[]
 | r::d,c=>∃ a b,c=a++b/\zi R r a/\SY R d b
end
abbrev TyD:=zi reachBytes
section
variable {H : Type} {enc : TypeId×Value -> H} {P : Program} {w : World} {R : Nat}
def Tp {o:Nat} {a:Addr} {n:Nat} {vs:List Value} (h:w.cells? o a n=some vs):vs.length=n/\∀ j,j<n->∃ v,vs[j]?=some v/\w.cell? (a.add j)=some v:=by
 unfold World.cells? at h;split at h
 ·have p:∀ (l:List Nat) (vs:List Value),(l.mapM λi=>w.cell?<|a.add i)=some vs->vs.length=l.length/\∀ (j i:Nat),l[j]?=some i->∃ v,vs[j]?=some v/\w.cell? (a.add i)=some v:=by
   intro l;induction l with
   | nil=>intro vs h;simp at h;subst h;exact⟨rfl,λj i b=>by simp at b⟩
   | cons x l ih =>
    intro vs h;rw [List.mapM_cons] at h;cases c:w.cell? (a.add x) with
    | none=>simp [c] at h
    | some v =>
     cases d:(l.mapM λi=>w.cell?<|a.add i) with
     | none=>simp [c,d] at h
     | some r =>
      simp [c,d] at h;subst h;obtain⟨f,m⟩:=ih r d;refine⟨by simp [f],λj i b=>?_⟩
      cases j with
      | zero=>simp at b;subst b;exact⟨v,rfl,c⟩
      | succ j=>simpa using m j i (by simpa using b)
  obtain⟨f,m⟩:=p _ _ h;exact⟨by simpa using f,λj b=>m j j<|by simp [b]⟩
 ·cases h
def LK {a:Addr} {v:Value} (h:w.cell? a=some v):a.spot=none/\a.block<w.heap.size:=by
 unfold World.cell? at h;split at h
 ·rename_i b;split at h
  ·cases h
  ·rename_i c;exact⟨by simpa using c,(Array.getElem?_eq_some_iff.1 b).1⟩
 ·cases h
def UW (a:Addr):(a.add 0).add 0=a:=by simp [Go.Addr.add]
def IE (w:World) (cs:List Value) (xs:List D):Prop:=cs.length=xs.length/\∀ (j:Nat) (u:Value),cs[j]?=some u->∃ x,xs[j]?=some x/\Q0 (λ_=>False) w u x
def IE.append {cs cs':List Value} {xs f:List D} (h:IE w cs xs) (l:IE w cs' f):IE w (cs++cs') (xs++f):=by
 obtain⟨i,m⟩:=h;obtain⟨n,o⟩:=l;refine⟨by simp [i,n],λj u b=>?_⟩
 by_cases p:j<cs.length
 ·rw [Bj p] at b;obtain⟨x,c,d⟩:=m j u b;exact⟨x,by rw [Bj<|by omega];exact c,d⟩
 ·rw [A7<|by omega] at b;obtain⟨x,c,d⟩:=o _ u b;exact⟨x,by rw [A7 (by omega),<- i];exact c,d⟩
def zk {e:TypeId}:∀ {l:List (DataW H)} {d:DataW H},d∈l->∀ n∈d.weights P e,n∈DataW.weightsAll P e l
 | [],_,h,_,_=>by simp at h
 | x::l,d,h,n,b=>by
  simp only [DataW.weightsAll,C0]
  rcases List.mem_cons.1 h with rfl|h
  ·exact .inl b
  ·exact .inr (zk h n b)
mutual
def nD (a1:w.heap.size<=Y0.F):∀ (r:RT) (t:TypeId) (J:Nat) (cs:List Value) (x:DataW H×List MemPlace),iA P r t=true->DataW.trod enc P w 0 (λ_=>true) true J t cs=some x->(∀ n∈x.1.weights P t,n<=R) ->
  ∃ xs,zi R r xs/\IE w cs xs
 | .bool,t,J,cs,x,d,h,_=>by
  have p:P.underlying t=some .bool:=by
   unfold iA at d;split at d<;>first|assumption|cases d
  obtain⟨b,rfl,rfl⟩:=DataW.trod_bool p h;refine⟨[.bool b],⟨b,rfl⟩,rfl,λj u f=>?_⟩
  cases j with
  | zero=>simp at f;subst f;exact⟨_,rfl,.bool⟩
  | succ j=>simp at f
 | .int k,t,J,cs,x,d,h,_=>by
  have p:P.underlying t=some (.int k):=by
   unfold iA at d;split at d
   ·rename_i k' N;rw [N,qa d]
   ·cases d
  obtain⟨n,rfl,rfl,C⟩:=DataW.trod_int p h;refine⟨[.int k n],⟨n,C,rfl⟩,rfl,λj u f=>?_⟩
  cases j with
  | zero=>simp at f;subst f;exact⟨_,rfl,.int C⟩
  | succ j=>simp at f
 | .str,t,J,cs,x,d,h,C=>by
  have p:P.underlying t=some .string:=by
   unfold iA at d;split at d<;>first|assumption|cases d
  obtain⟨s,rfl,rfl,hs⟩:=DataW.trod_string p h;have hr:s.size<=R:=by
   have:=C s.data.toList.length<|by simp [DataW.weights]
   simpa using this
  refine⟨[.str s],⟨s,hr,rfl⟩,rfl,λj u f=>?_⟩
  cases j with
  | zero=>simp at f;subst f;exact⟨_,rfl,.str hs⟩
  | succ j=>simp at f
 | .slice c b e,t,J,cs,x,d,h,C=>by
  obtain⟨A,p,V,a9,b0,e6,b1⟩:∃ A,P.underlying t=some (.slice A)/\P.cellsOf A=c/\P.bytesOf A=b/\0<c/\e.size=c/\iA P e A=true:=by
   unfold iA at d;split at d
   ·rename_i A p;simp only [Ae] at d;exact⟨A,p,Ao d.1,Ao d.2.1,Ab d.2.2.1,Ao d.2.2.2.1,d.2.2.2.2⟩
   ·cases d
  rcases DataW.trod_slice p h with ⟨rfl,rfl⟩|⟨a,B,a2,O,rest,n,_,rfl,rfl,_,b2,b3,e7,b4,b5,_⟩
  ·refine⟨[.slice c []],⟨[],by simp,by simp,rfl,by simp⟩,rfl,λj u f=>?_⟩
   cases j with
   | zero=>simp at f;subst f;exact⟨_,rfl,.nil⟩
   | succ j=>simp at f
  ·obtain⟨e9,b6⟩:=b5 rfl;have a3:∀ i,i<a2->∃ z y,w.cells? 0 (a.add<|i*c) c=some z/\DataW.trod enc P w 0 (λ_=>true) true n A z=some y/\(∀ o:i<B,O[i]?=some y):=by
    intro i o;by_cases a4:i<B
    ·have Q:=b4 i a4;have W:O[i]?=some (O[i]'(by omega)):=Ad (by omega);rw [V,W,Gi] at Q;obtain⟨z,G,S⟩:=Q;exact⟨z,_,G,S,λ_=>W⟩
    ·have Q:=b6 (i-B) (by omega);have W:rest[i-B]?=some (rest[i-B]'(by omega)):=Ad (by omega);rw [show B+(i-B)=i by omega,V,W,Gi] at Q;obtain⟨z,G,S⟩:=Q;exact⟨z,_,G,S,λh=>absurd h a4⟩
   have b7:∀ m,m<=B->∃ l:List (List D),l.length=m/\(∀ x∈l,zi R e x)/\∀ i (o:i<m),∃ z I,w.cells? 0 (a.add<|i*c) c=some z/\l[i]?=some I/\IE w z I:=by
    intro m;induction m with
    | zero=>intro _;exact⟨[],rfl,by simp,λi o=>by omega⟩
    | succ m ih =>
     intro hm;obtain⟨l,T,l2,l3⟩:=ih (by omega);obtain⟨z,y,G,S,g3⟩:=a3 m (by omega);have hy:=g3 (by omega);have c1:y.1∈O.map (·.1):=List.mem_map.2 ⟨y,List.mem_of_getElem? hy,rfl⟩;obtain⟨I,t1,t2⟩:=nD a1 e A n z y b1 S λk N=>C k<|by
      simp only [DataW.weights,p,Bl,C0];exact .inr<|.inl<|zk c1 k N
     refine⟨l++[I],by simp [T],λx E=>?_,λi o=>?_⟩
     ·rcases List.mem_append.1 E with E|E
      ·exact l2 x E
      ·simp at E;subst E;exact t1
     ·by_cases c2:i<m
      ·obtain⟨c3,c4,q1,Y,q3⟩:=l3 i c2;exact⟨c3,c4,q1,by rw [Bj<|by omega];exact Y,q3⟩
      ·have:i=m:=by omega
       subst this;exact⟨z,I,G,by rw [A7 (by omega),T];simp,t2⟩
   obtain⟨l,T,l2,l3⟩:=b7 B<|Af _;have c5:l.length*b<=R:=by
    have:=C ((O.length+rest.length)*P.bytesOf A)<|by
     simp only [DataW.weights,p,Aa,Bl,true_or]
    rw [a9] at this;refine Aw (A8 b ?_) this;omega
   refine⟨[.slice c l],⟨l,c5,by omega,rfl,l2⟩,rfl,λj u f=>?_⟩
   cases j with
   | succ j=>simp at f
   | zero =>
    simp at f;subst f;refine⟨_,rfl,?_⟩
    by_cases c6:a2=0
    ·have h0:B=0:=by omega
     subst c6;subst h0;have:l=[]:=Bg T
     subst this;exact .zero
    ·obtain⟨c0,y0,G,_,_⟩:=a3 0 (by omega);obtain⟨v0,_,a5⟩:=(Tp G).2 0 b0;rw [Nat.zero_mul,UW] at a5;obtain⟨s5,s2⟩:=LK a5;obtain⟨ab,ao,g0⟩:=a;simp only at s5 s2;subst s5;have a0:∀ i (o:i<l.length),(l[i]'o).length=c/\∀ j (f:j<(l[i]'o).length),∃ v,w.cell? ⟨ab,ao+i*c+j,none⟩=some v/\Q0 (λ_=>False) w v ((l[i]'o)[j]'f):=by
      intro i o;obtain⟨z,I,q1,Y,q3,q4⟩:=l3 i (by omega);have e1:l[i]'o=I:=by rw [Ad o] at Y;exact Option.some.inj Y
      subst e1;obtain⟨r1,r2⟩:=Tp q1;refine⟨by omega,λj f=>?_⟩
      obtain⟨v,U,Z⟩:=r2 j (by omega);obtain⟨xx,x1,x2⟩:=q4 j v U;rw [Addr.Y3,Addr.Y3] at Z;have e2:(l[i]'o)[j]'f=xx:=by rw [Ad f] at x1;exact Option.some.inj x1
      exact⟨v,Z,e2▸x2⟩
     refine Q0.slice (X:=λ_=>False) (λi j=>(w.cell? ⟨ab,ao+i*c+j,none⟩).getD undef) T.symm b2 b3 (λh=>h) s2 (λi o=>(a0 i o).1) (λi o j f=>?_) (λi o j f=>?_)<|λhF=>absurd s2<|by omega
     ·obtain⟨v,U,_⟩:=(a0 i o).2 j f;rw [U];rfl
     ·obtain⟨v,U,Z⟩:=(a0 i o).2 j f;rw [U];exact Z
 | .struct fs,t,J,cs,x,d,h,C=>by
  obtain⟨M,p,hf,V⟩:∃ M,P.underlying t=some (.struct M)/\bZ P fs M.toList 0=true/\P.cellsOf t=RT.Tn fs:=by
   unfold iA at d;split at d
   ·rename_i M p;simp only [Ae] at d;exact⟨M,p,d.1,Ao d.2⟩
   ·cases d
  obtain⟨xs,n,_,rfl,e3,e4,E⟩:=DataW.trod_struct p h;obtain⟨ys,y1,y2⟩:=nG a1 fs M.toList 0 n cs xs hf (λi e5 o=>E i e5<|by simpa using o) (by simpa using e4) (by rw [e3,V];omega)<|λk N=>C k<|by
   simp only [DataW.weights,p];exact N
  exact⟨ys,y1,by simpa using y2⟩
def nG (s:w.heap.size<=Y0.F):∀ (rs:List RT) (b:List Field) (o n:Nat) (cs:List Value) (xs:List (DataW H×List MemPlace)),bZ P rs b o=true ->
  (∀ (i:Nat) (f:Field),b[i]?=some f->DataW.trod enc P w 0 (λ_=>true) true n f.type ((cs.drop f.offset).take (P.cellsOf f.type))=xs[i]?)->xs.length=b.length->cs.length=o+RT.Tn rs ->
  (∀ k∈DataW.weightsEach P (b.map (·.type)) (xs.map (·.1)),k<=R)->∃ ys,SY R rs ys/\IE w (cs.drop o) ys
 | [],b,o,n,cs,xs,c,_,_,d,_=>by
  refine⟨[],rfl,?_,λj u v=>?_⟩
  ·simp [RT.Tn] at d ⊢;omega
  ·rw [List.drop_eq_nil_of_le (by simp [RT.Tn] at d;omega)] at v;simp at v
 | r::rs,[],o,n,cs,xs,c,_,_,_,_=>by simp [bZ] at c
 | r::rs,f::b,o,n,cs,xs,c,z,A,d,B=>by
  simp only [bZ,Ae] at c;obtain⟨h,l,G,I⟩:=c;have h:=Ao h;have l:=Ao l;cases xs with
  | nil=>simp at A
  | cons y ys =>
   have m:=z 0 f rfl;simp only [List.getElem?_cons_zero] at m;rw [h,l] at m;simp only [RT.Tn] at d;obtain⟨C,J,M⟩:=nD s r f.type n _ y G m λk p=>B k (by
    simp only [A3,DataW.weightsEach,C0];exact .inl p)
   obtain⟨E,N,O⟩:=nG s rs b (o+r.size) n cs ys I (λi g Q=>by simpa using z (i+1) g (by simpa using Q)) (by simpa using A) (by omega) (λk p=>B k (by
    simp only [A3,DataW.weightsEach,C0];exact .inr p))
   refine⟨C++E,⟨C,E,rfl,J,N⟩,?_⟩
   have:=M.append O
   have S:(cs.drop o).take r.size++cs.drop (o+r.size)=cs.drop o:=by
    rw [<- List.drop_drop];exact Dl _ _
   rw [S] at this;exact this
end
end
end Go.Proofs.YtapciiffpnociabGreat
namespace Go.Proofs.YtapciiffpnociabGreat
open Go Go.RowKit Go.ChangeShapes Go.WideShapes
section
variable [Y0]
def RT.arg:RT->List D->SV
 | .struct _,b=>.agg (b.map .d)
 | _,[x]=>.d x
 | _,_=>.V1
def OE (R:Nat):List RT->List SV->Prop
 | [],b=>b=[]
 | r::d,b=>∃ c l,b=r.arg c::l/\zi R r c/\OE R d l
abbrev AX:=OE reachBytes
def YI (P:Program):List RT->List TypeId->Bool
 | [],[]=>true
 | r::b,t::c=>iA P r t&&YI P b c
 | _,_=>false
section
variable {H : Type} {enc : TypeId×Value -> H} {P : Program} {R : Nat}
def PF {W:World} {e:Env}:∀ (cs:List Value) (xs:List D),IE W cs xs->O0 (λ_=>False) e W (xs.map .d) cs
 | [],[],_=>trivial
 | [],_::_,h=>by have:=h.1;simp at this
 | _::_,[],h=>by have:=h.1;simp at this
 | c::cs,x::xs,h=>by
  obtain⟨i,b⟩:=h
  refine⟨?_,PF cs xs ⟨by simpa using i,λj u l=>by simpa using b (j+1) u (by simpa using l)⟩⟩
  obtain⟨y,f,m⟩:=b 0 c rfl
  simp at f
  subst f
  exact m
def Mh {W:World} {e:Env} {v:Value} {x:D} (h:IE W [v] [x]):Rel (λ_=>False) e W (.d x) v:=by obtain⟨y,b,c⟩:=h.2 0 v rfl;simp at b;subst b;exact c
def nR {t:TypeId} (h:iA P .bool t=true):P.underlying t=some .bool:=by unfold iA at h;split at h<;>first|assumption|cases h
def rV {t:TypeId} (h:iA P .str t=true):P.underlying t=some .string:=by unfold iA at h;split at h<;>first|assumption|cases h
def sV {t:TypeId} {k:IntKind} (h:iA P (.int k) t=true):P.underlying t=some (.int k):=by
 unfold iA at h;split at h
 ·rename_i c b;rw [b,qa h]
 ·cases h
def AN {t:TypeId} {c b:Nat} {e:RT} (h:iA P (.slice c b e) t=true):∃ te,P.underlying t=some (.slice te):=by
 unfold iA at h;split at h
 ·rename_i te d;exact⟨te,d⟩
 ·cases h
def bJ {t:TypeId} {b:List RT} (h:iA P (.struct b) t=true):∃ c,P.underlying t=some (.struct c):=by
 unfold iA at h;split at h
 ·rename_i d f;exact⟨d,f⟩
 ·cases h
def mU {W:World} {e:Env} {o:Nat} (p:W.heap.size<=Y0.F):∀ (r:RT) (t:TypeId) (v:Value) (d:DataW H) (ps:List MemPlace),iA P r t=true->DataW.Trod enc P W 0 (λ_=>true) true t v d ps->Value.okWide P W .any o t v ->
  (∀ n∈d.weights P t,n<=R)->∃ xs,zi R r xs/\Rel (λ_=>False) e W (r.arg xs) v:=by
 intro r t v d ps f ⟨fuel,hd⟩ hok hw;obtain⟨xs,h,i⟩:=nD p r t fuel v.cells.toList (d,ps) f hd hw;refine⟨xs,h,?_⟩
 cases r with
 | bool =>
  obtain⟨b,rfl⟩:=okWide_bool (nR f) hok;obtain⟨m,rfl⟩:=h;exact Mh i
 | int k =>
  obtain⟨b,rfl⟩:=okWide_int (sV f) hok;obtain⟨m,_,rfl⟩:=h;exact Mh i
 | str =>
  obtain⟨b,rfl⟩:=okWide_string (rV f) hok;obtain⟨m,_,rfl⟩:=h;exact Mh i
 | slice c b el =>
  obtain⟨u,j⟩:=AN f;obtain⟨a,n,z,rfl⟩:=okWide_slice j hok;obtain⟨l,_,_,rfl,_⟩:=h;exact Mh i
 | struct A =>
  obtain⟨B,j⟩:=bJ f;obtain⟨s,rfl,_⟩:=okWide_struct j hok;exact⟨s.toList,by simp,PF _ _ i⟩
def tC {W:World} {e:Env} {u:Nat} (m:W.heap.size<=Y0.F):∀ (rs:List RT) (c:List TypeId) (vs:List Value) (ds:List (DataW H)) (ps:List MemPlace),YI P rs c=true->DataW.TrodAll enc P W 0 (λ_=>true) true c vs ds ps ->
  (∀ (j:Nat) t v,c[j]?=some t->vs[j]?=some v->Value.okWide P W .any u t v)->(∀ n∈DataW.weightsEach P c ds,n<=R)->∃ f,OE R rs f/\O0 (λ_=>False) e W f vs
 | [],[],vs,ds,ps,_,h,_,_=>by
  obtain⟨rfl,rfl,rfl⟩:=trodAll_nil h
  exact⟨[],rfl,trivial⟩
 | [],_::_,_,_,_,b,_,_,_=>by simp [YI] at b
 | _::_,[],_,_,_,b,_,_,_=>by simp [YI] at b
 | r::rs,t::c,vs,ds,ps,b,h,o,i=>by
  obtain⟨v,z,d,A,p,q,rfl,rfl,rfl,B,C⟩:=trodAll_cons h
  simp only [YI,Ae] at b
  simp only [DataW.weightsEach,C0] at i
  obtain⟨s,E,G⟩:=mU (e:=e) m r t v d p b.1 B (o 0 t v rfl rfl) λn l=>i n<|.inl l
  obtain⟨f,I,J⟩:=tC (e:=e) m rs c z A q b.2 C (λj t v M N=>o (j+1) t v (by simpa using M)<|by simpa using N) λn l=>i n<|.inr l
  exact⟨r.arg s::f,⟨s,f,rfl,E,I⟩,G,J⟩
def TF (P:Program) (b:List TypeId):Bool:=b.all λt=>P.readableRec t&&Av t P.types.size
def Sz {W i:World} {j:Nat->Bool} (l:laidOutB P=true) (hb:Below W.heap.size W i):∀ (c:List TypeId) (vs:List Value) (ds:List (DataW H)) (ps:List MemPlace),TF P c=true ->
  DataW.TrodAll enc P W 0 (λ_=>true) true c vs ds ps->(∀ p∈ps,p.block<W.heap.size)->(∀ p∈ps,j p.block=true)->DataW.TrodAll enc P i 0 j true c vs ds ps
 | [],vs,ds,ps,_,h,_,_=>by
  obtain⟨rfl,rfl,rfl⟩:=trodAll_nil h
  rfl
 | t::c,vs,ds,ps,f,h,m,n=>by
  obtain⟨v,o,d,r,p,q,rfl,rfl,rfl,s,u⟩:=trodAll_cons h
  simp only [TF,List.all_cons,Ae] at f
  refine⟨p,q,?_,Sz l hb c o r q (by simpa [TF] using f.2) u (λx b=>m x<|Bv _ b) (λx b=>n x<|Bv _ b),rfl⟩
  exact WideElems.Trod_stays l f.1.1 (Ab f.1.2) s (λx b=>hb.same<|m x<|Ax _ b) λx b=>n x<|Ax _ b
def LS {f:Func} {s:ChangeSpec} {i o r:Bool} {W j:World} {args:Array Value} {ds gs:List (DataW H)} {u:List MemPlace} {tb:TypeId}
  (l:s.vars=[]) (c:DataW.Whole enc P f.params.toList s.vars i W args.toList ds gs u) (b:gs=[]->s.fn H (ds++gs) = { results:=[.lit (.bool true)],args:=ds })
  (v:f.resultTypes = #[tb]) (z:P.underlying tb=some .bool) (A:laidOutB P=true) (B:TF P f.params.toList=true) (hb:Below W.heap.size W j) :
  s.post enc P f i o r false W args (.bool true) j:=by
 have C:=c;have m:=λp E=>c.lt p E
 obtain⟨p,q,F,n,rfl,G,I⟩:=c;rw [l] at n;obtain⟨rfl,rfl⟩:=trodVars_none n;have b:=b rfl;refine⟨ds,[],p++[],[],p,[],C,?_,?_,?_,hb.frame _,λh=>by cases h⟩
 ·rw [v,b];exact trodAll_mk1<|shut_bool z true
 ·rw [b];exact Sz A hb _ _ _ _ B F (λx d=>m x<|Ax _ d) λx d=>by simpa using m x (Ax _ d)
 ·rw [l,b];rfl
def aU {τ τok} {e:Env} {W:World} {n J K1}:∀ b,Ctx.X ⟨P,τ,τok,λ_=>False,W,λb=>b∈ah e [],n,J,K1,none,da,true,false⟩ e [] b->False:=by
 rintro b (h|h)
 ·exact h
 ·simp [ah] at h
def uO {τ:List (Nat×TI)} {τok:c8 P τ} {f:FuncId} {rs:List RT} {c:List TypeId} {args:Array Value} {ds:List (DataW H)} {ps:List MemPlace} {W:World} {z:Nat}
  (hc:∀ i,OE R rs i->I3 false P τ τok f i (λr=>r=.d (.bool true))) (hb:YI P rs c=true) (A:DataW.TrodAll enc P W 0 (λ_=>true) true c args.toList ds ps)
  (C:∀ (j:Nat) t v,c[j]?=some t->args.toList[j]?=some v->Value.okWide P W .any z t v) (E:∀ n∈DataW.weightsEach P c ds,n<=R) (m:Y0.B=0) (o:Y0.F=W.heap.size) :
  Calls P f args W λs l=>s=.returned (.bool true)/\Below W.heap.size W l:=by
 let e:Env:=⟨λ_=>0,λ_=>undef,lo 0⟩
 obtain⟨i,G,I⟩:=tC (e:=e) (Gm o.symm) rs c args.toList ds ps hb A C E;have u:=(hc i G).2 (λ_=>False) e W args.toList ?_ ?_
 ·rw [G1] at u;refine Calls.mono u ?_;rintro s l ⟨k',r,H',e',v,⟨rfl,_,rfl⟩,rfl,hH,hr⟩;have J:Q0 _ l v (.bool true):=hr;cases J;exact⟨rfl,⟨hH.os,hH.tape,hH.output,hH.size,λb hb=>hH.block b hb<|by simp [ah]⟩⟩
 ·exact { top:=λ_=>Iff.rfl,heap:=(λp M=>nomatch M),ids:=.nil,nodup:=.nil,M3:=(λb hb=>nomatch hb),os:=rfl,tape:=rfl,output:=rfl,drawn:=(λ_=>Af _),size:=Af _,block:=(λ_ _ _=>rfl),T1:=(λ_ h=>h.elim),S4:=⟨Aw (Gm m) (Ai _),Gm o,λ_ _=>Aw (Gm m)<|Ai _⟩,L8:=(λ_ h=>nomatch h),anchor:=(λ_ h=>nomatch h) }
 ·exact O0.N1 (Af _) (λ_ _ _=>rfl) (λb _ N=>aU b N) _ _ I
end
end
section
variable {H : Type} {enc : TypeId×Value -> H} {P : Program} {R : Nat}
def law_lifted {C:Checked} {τ:List (Nat×TI)} {τok:c8 C.prog τ} {n:Os} (I:n.Started) {f:FuncId} {b:Func} {s:ChangeSpec} {A:List PathCond} {o J M:Bool} {rs:List RT} {tb:TypeId}
  (own:ownKnob C.prog.godebug=none) (N:C.prog.inits.idxOf? f=none) (O:C.prog.funcs[f]?=some b)
  (Q:∃ (w:World) (j:Tape) (i:Input),w.os=n/\(w.forCall j i).Shaped C.prog/\i.vars=[]/\Input.okWide C.prog (w.forCall j i) .any w.heap.size f i /\
   s.pre6 enc C.prog b A o (w.forCall j i).memory i.args/\({}:Assume).holds C.prog (lone (Frame.enter C.prog f i.args .normal) [] (w.forCall j i)))
  (l:s.vars=[]) (S:s.plain.varTypes C.prog=[]) (T:∀ (ds:List (DataW H)),ds.length=b.params.toList.length->s.fn H ds = { results:=[.lit (.bool true)],args:=ds })
  (U:b.resultTypes = #[tb]) (V:C.prog.underlying tb=some .bool) (X:laidOutB C.prog=true) (Y:TF C.prog b.params.toList=true) (hb:YI C.prog rs b.params.toList=true)
  (hc:∀ [Y0] (m),AX rs m->I3 false C.prog τ τok f m (λr=>r=.d (.bool true))) :
  ReturnsInHanded {} C n f .any (s.pre6 enc C.prog b A o) (s.post enc C.prog b o J M false):=by
 refine returnsInHanded_of_change_sized own I N O Q ?_;intro W a3 args ds gs a4 Z B _ E _;obtain⟨p,q,F,G,a5,a9,b0⟩:=id B;rw [l] at G;obtain⟨rfl,rfl⟩:=trodVars_none G;rw [S,Bn,Bn] at E;have a0:∀ (c:List TypeId) (u:List Value) (ds:List (DataW H)) (z:List MemPlace),DataW.TrodAll enc C.prog W 0 (λ_=>true) true c u ds z->ds.length=c.length:=by
  intro c;induction c with
  | nil=>intro u ds z h;obtain⟨rfl,rfl,rfl⟩:=trodAll_nil h;rfl
  | cons t c ih =>
   intro u ds z h;obtain⟨v,b1,d,b2,p,q,rfl,rfl,rfl,h1,h2⟩:=trodAll_cons h;simp [ih _ _ _ h2]
 letI:Y0:=⟨0,W.heap.size⟩
 refine (uO (λm h=>hc m h) hb F (λa1 t v ht l=>Z a1 t v (by simpa using ht)<|by simpa using l) (λa2 hn=>by simpa using List.all_eq_true.1 E a2 hn) rfl rfl).mono ?_;rintro en W' ⟨rfl,hbl⟩;exact⟨_,rfl,LS l B (λ_=>by rw [Bn];exact T ds<|a0 _ _ _ _ F) U V X Y hbl⟩
end
end Go.Proofs.YtapciiffpnociabGreat
namespace Go.Proofs.YtapciiffpnociabGreat
open Go Go.RowKit Go.Sort Go.Shelf
variable [Y0]
section
variable {β : Type}
structure V4 (X:Nat->Prop) (w:World) (es:Nat) (enc:β->List D) where
 x:β
 vs:List Value
 len:vs.length=es
 one:∀ v∈vs,v.oneCell'=true
 UZ:∀ j (hj:j<(enc x).length),∃ v,vs[j]?=some v/\Q0 X w v (enc x)[j]
def RD {α:Type} [Inhabited α] (enc:α->List Value) (k:Nat) (f:∀ x,(enc x).length=k) (d:Array α) (t:Nat) (b:t<d.size*k) :
  (flatK enc k d).toList[t]?=(enc (d[t/k]'(Fh (by rw [Hu];exact b))))[t%k]?:=by
 have i:0<k:=Hl λh=>by subst h;simp at b
 have j:t/k<d.size:=Fh (by rw [Hu];exact b);have c:t%k<(enc d[t/k]).length:=by rw [f];exact F2 _ i
 rw [Bt,D5 (by simpa using b),Ad c];simp only [flatK,Array.getElem_map,Array.getElem_range];rw [getElem!_pos d _ j,getElem!_pos (enc d[t/k]) _ c]
def KI {α:Type} [Inhabited α] {w:World} {g n:Nat} {f:Array Obj} {b:Array Value} {e:TypeId} {c:Nat×Nat} (enc:α->List Value) (k:Nat) (d:Array α) (hb:w.heap[g]?=some (.cells b e c)) :
  (sortWorldK enc k w g 0 n d f).heap[g]?=some (.cells (putCells id 0 (flatK enc k d) b) e c):=by
 have h:g<w.heap.size:=(Array.getElem?_eq_some_iff.1 hb).1;unfold sortWorldK putRowK;rw [heap_grow_old _ _<|by simpa using h];simp [putRow,mapBlock,Sort.ahead,Em,hb,onCells]
def zx {α:Type} [Inhabited α] {w:World} {g n:Nat} {c:Array Obj} (enc:α->List Value) (k:Nat) (d:Array α) {b:Nat} (hb:b<w.heap.size) (f:b≠g) :
  (sortWorldK enc k w g 0 n d c).heap[b]?=w.heap[b]?:=by
 unfold sortWorldK putRowK;rw [heap_grow_old _ _<|by simpa using hb];have:g≠b:=λh=>f h.symm
 simp [putRow,mapBlock,Sort.ahead,Em,this]
def Se {α:Type} [Inhabited α] {w:World} {g n:Nat} {b:Array Obj} (enc:α->List Value) (k:Nat) (d:Array α):w.heap.size<=(sortWorldK enc k w g 0 n d b).heap.size:=by unfold sortWorldK putRowK;simp
def Ws (b F:Array Value) (h:F.size<=b.size):(putCells id 0 F b).toList.take F.size=F.toList:=by
 apply Ce;intro j;by_cases c:j<F.size
 ·rw [List.getElem?_take_of_lt c,Bt,Bt];simp [putCells,c,show j<b.size by omega]
 ·rw [List.getElem?_take_eq_none (by omega),Be<|by simp;omega]
def eH {W w':World} (c:w'.os=W.os) (d:w'.tape=W.tape) (f:w'.output=W.output) (j:W.drawn<=w'.drawn) (l:W.heap.size<=w'.heap.size) (hb:∀ b,b<W.heap.size->w'.heap[b]?=W.heap[b]?) :
  ∃ q m,w'=grow (W.drewN q) m:=by
 refine⟨w'.drawn-W.drawn,w'.heap.extract W.heap.size,?_⟩
 obtain⟨n,o,p,r,s⟩:=w';simp only at c d f j l hb;subst c;subst d;subst f;unfold grow World.drewN;simp only [World.mk.injEq,true_and,and_true];refine⟨?_,by omega⟩
 apply Array.ext_getElem?;intro i;rw [Array.getElem?_append];split
 ·rename_i h;exact hb i h
 ·rename_i h;rw [Array.getElem?_extract];split
  ·congr 1;omega
  ·rw [Array.getElem?_eq_none<|by omega]
def La {α h:Type} {f:α->List h} {k:Nat} (b:∀ x,(f x).length=k):∀ (d:List α) (i j:Nat) (hi:i<d.length),j<k->(d.map f).flatten[i*k+j]?=(f (d[i]'hi))[j]?
 | [],_,_,hi,_=>by simp at hi
 | x::d,0,j,_,c=>by
  rw [A3,Ds,Nat.zero_mul,C4,Bj (by rw [b];exact c)];rfl
 | x::d,i+1,j,hi,c=>by
  have l:(i+1)*k+j=k+(i*k+j):=by rw [Bq];omega
  rw [A3,Ds,l,A7 (by rw [b];omega),b,Nat.add_sub_cancel_left,La b d i j (by simpa using hi) c];rfl
def Ka {α c:Type} {f:α->List c} {k:Nat} (b:∀ x,(f x).length=k):∀ (d:List α),(d.map f).flatten.length=d.length*k
 | []=>by simp
 | x::d=>by rw [A3,Ds,List.length_append,b,Ka b d,Ba,Bq];omega
def Ox {α:Type} [Inhabited α] (enc:α->List Value) (k:Nat) (b:∀ x,(enc x).length=k) (d:Array α):(flatK enc k d).toList=(d.toList.map enc).flatten:=by
 apply Ce;intro t;by_cases c:t<d.size*k
 ·have i:0<k:=Hl λh=>by subst h;simp at c
  have j:t/k<d.size:=Fh (by rw [Hu];exact c);rw [RD enc k b d t c];have f:=La b d.toList (t/k) (t%k) (by simpa using j)<|F2 _ i;rw [Nat.div_add_mod'] at f;rw [f];simp
 ·rw [Be (by simp;omega),Be<|by rw [Ka b];simp;omega]
def LD {X:Nat->Prop} {w:World} {es:Nat} {enc:β->List D} (o:∀ x,(enc x).length=es):∀ (l:List β) (b:List Value),b.length=l.length*es->(∀ v∈b,v.oneCell'=true) ->
  (∀ i (hi:i<l.length) j (c:j<(enc l[i]).length),∃ v,b[i*es+j]?=some v/\Q0 X w v ((enc l[i])[j]'c))->∃ d:List (V4 X w es enc),d.map V4.x=l/\(d.map V4.vs).flatten=b
 | [],b,h,_,_=>⟨[],rfl,by simp at h;subst h;rfl⟩
 | x::l,b,h,p,r=>by
  have z:b.length=es+l.length*es:=by rw [h,Ba,Bq];omega
  obtain⟨d,s,u⟩:=LD (X:=X) (w:=w) o l (b.drop es) (by rw [List.length_drop];omega) (λv f=>p v<|List.mem_of_mem_drop f)<|λi hi j c=>by
   obtain⟨v,m,n⟩:=r (i+1) (by simpa using hi) j (by simpa using c);refine⟨v,?_,n⟩
   rw [List.getElem?_drop,<- m];congr 1;rw [Bq];omega
  refine⟨⟨x,b.take es,by rw [List.length_take];omega,λv f=>p v (List.mem_of_mem_take f),λj c=>?_⟩::d,by rw [A3,s],by rw [A3,Ds,u,Dl]⟩
  obtain⟨v,m,n⟩:=r 0 (by simp) j (by simpa using c);refine⟨v,?_,n⟩
  rw [Bf,if_pos<|by rw [<- o x];exact c];simpa using m
def Jw:∀ (ds:List D),SV.U1 0 (ds.map .d)=true
 | []=>rfl
 | d::ds=>by simp [SV.U1,SV.low,Jw ds]
def gJ {X:Nat->Prop} {e:Env} {w:World}:∀ (ds:List D) (vs:List Value),vs.length=ds.length->(∀ j (f:j<ds.length),∃ v,vs[j]?=some v/\Q0 X w v ds[j])->O0 X e w (ds.map .d) vs
 | [],[],_,_=>trivial
 | [],_::_,h,_=>by simp at h
 | _::_,[],h,_=>by simp at h
 | d::ds,v::vs,h,i=>⟨by obtain⟨l,b,c⟩:=i 0 (by simp);cases b;exact c,gJ ds vs (by simpa using h) λj f=>by
   obtain⟨l,b,c⟩:=i (j+1) (by simpa using f);exact⟨l,by simpa using b,by simpa using c⟩⟩
variable {P : Program} {τ : List (Nat×TI)} {τok : c8 P τ} {ρ : Ren}
def gN (L:SlLaysF0.n6 P ρ) (es:Nat) (aE:∀ w,(isAgg (ρ.t 24)).run P w=.ok true w) (zE:∀ w,(Go.sizeOf (ρ.t 24)).run P w=.ok es w) (enc:β->List D) (F:∀ x,(enc x).length=es) (A:β->β->Int) (S:SWO (ltOf A)) (g:Nat)
  (hc:∀ a b,I3 true P τ τok g [.agg ((enc a).map .d),.agg ((enc b).map .d)] (λr=>r=.d (.int .i64 (A a b)))) (te:TypeId) (l:List β) (hl:l.length<4611686018427387904)
  {X:Nat->Prop} {e:Env} {w:World} {i:Nat} (c0:∀ c,HB.owned e (i,.row te es (l.map enc))=some c->X c) (c1:∀ b,X b->b<w.heap.size) (c2:I4 X e w (i,.row te es (l.map enc))) (c3:S7 P (λ_=>False) w) :
  Calls P (ρ.f 6) #[e.η i,.func (.func g) #[] #[]] w λM w'=>M=.returned (.tuple #[])/\w.heap.size<=w'.heap.size/\w'.os=w.os/\w'.tape=w.tape/\w'.output=w.output /\
   (∀ c,c<w.heap.size->HB.owned e (i,.row te es (l.map enc))≠some c->w'.heap[c]?=w.heap[c]?)/\∃ T:List β,T.Perm l/\T.Pairwise (λa b=>A b a ≥ 0)/\I4 X e w' (i,.row te es (T.map enc)):=by
 obtain⟨N,U,c4,a1,a2⟩:=c2;by_cases O:l=[]
 ·subst O;obtain⟨p,B,s⟩:∃ p B,e.η i=.slice p 0 B:=by
   rcases U.2 with ⟨s,_⟩|⟨o,B,a3,s,_⟩
   ·exact⟨_,_,s⟩
   ·exact⟨_,_,s⟩
  rw [s];refine (AnyF.slices_SortFunc_none { L with } p B _ w).mono ?_;rintro M w' ⟨rfl,rfl⟩;exact⟨rfl,Af _,rfl,rfl,rfl,λ_ _ _=>rfl,[],.refl _,.nil,N,U,c4,a1,a2⟩
 ·have a4:0<l.length:=List.length_pos_iff.2 O;have lm:(l.map enc).length=l.length:=Aa _;obtain⟨a5,a9⟩:=U;rw [lm] at a5 a9;rcases a9 with ⟨_,h⟩|⟨o,B,a3,s,_,Q,b0,c5,b1,c6⟩
  ·omega
  have e1:o<w.heap.size:=(Array.getElem?_eq_some_iff.1 Q).1;have b2:∀ (m:List (List D)),HB.owned e (i,.row te es m)=some o:=λm=>by simp [HB.owned,s,Value.ownBlock]
  have b3:X o:=c0 o<|b2 _;obtain⟨d,d1,d2⟩:=LD (X:=X) (w:=w) (enc:=enc) F l N a5 a1<|λi C j n=>by
   obtain⟨v,G,I⟩:=a2 i (by rw [lm];exact C) j (by simpa using n);exact⟨v,G,by simpa using I⟩
  have V:d.length=l.length:=by rw [<- d1,Aa]
  haveI:Inhabited (V4 X w es enc):=⟨d[0]'(by omega)⟩
  have J:∀ x:V4 X w es enc,x.vs.length=es:=λx=>x.len
  have hF:(flatK V4.vs es d.toArray).toList=N:=by rw [Ox _ _ J,<- d2]
  have e2:HoldsK (V4.vs (X:=X) (w:=w) (es:=es) (enc:=enc)) es w o 0 d.toArray:=by
   intro t Y;have e3:t<l.length*es:=by simpa [V] using Y
   have e4:a3[t]?=N[t]?:=by
    rw [<- c6,Bf,if_pos e3,Bt]
   refine⟨?_,by simp [World.frozen?,Q]⟩
   simp only [World.cell?,Q,C4];simp only [Option.isSome_none,Bool.false_eq_true,if_false];rw [e4,<- hF,Bt,D5 Y,getElem!_pos _ t Y];rfl
  have e5:CmpLays P g #[] (V4.vs (X:=X) (w:=w) (es:=es) (enc:=enc)) es (λx y=>A x.x y.x) o 0 d.toArray.size w:=by
   intro m os dk g9 x y;generalize hW:sortWorldK V4.vs es w o 0 m dk os=W;have Z:w.heap.size<=W.heap.size:=hW▸Se _ _ _;have e6:∀ b,b<w.heap.size->¬ X b->W.heap[b]?=w.heap[b]?:=λb u hx=>hW▸zx _ _ _ u λh=>hx<|h▸b3
   have e7:∀ b,X b->b<W.heap.size:=λb u=>As (c1 b u) Z
   have b4:∀ z:V4 X w es enc,O0 X e W ((enc z.x).map .d) z.vs:=λz=>gJ _ _ (by rw [z.len,F]) λj n=>by
    obtain⟨v,G,I⟩:=z.UZ j n;exact⟨v,G,Q0.N1 Z e6 (λ_ _ h=>h) I⟩
   have hk:=(hc x.x y.x).2 X (e.V2 id 0) W [.agg x.vs.toArray,.agg y.vs.toArray] ⟨λ_=>Iff.rfl,by simp,by simp,by simp [ah],by simp [ah],rfl,rfl,rfl,λ_=>Af _,Af _,λ_ _ _=>rfl,λb u=>⟨e7 b u,by simp [ah]⟩,(c3.grow Z).sub (by simp [ah]),λj n=>absurd n (A2 j),λj n=>absurd n<|A2 j⟩ ?_
   ·refine hk.mono ?_;rintro M w' ⟨k',r,H',e',v,⟨rfl,hlr,rfl⟩,rfl,hH2,e9⟩;refine⟨?_,eH hH2.os hH2.tape hH2.output (hH2.drawn rfl) hH2.size λb u=>hH2.block b u<|by simp [ah]⟩
    cases e9;rfl
   ·have g0:∀ b,Ctx.X ⟨P,τ,τok,X,W,λb=>b∈ah (e.V2 id 0) [],0,0,(e.V2 id 0).an,none,da,true,true⟩ (e.V2 id 0) [] b↔X b:=λb=>by unfold Ctx.X;simp [ah]
    refine O0.N1 (Af _) (λ_ _ _=>rfl) (λb _ h=>(g0 b).1 h) _ _ (X:=X) (w:=W) ?_;exact⟨⟨x.vs,rfl,O0.env _ _ (Jw _)<|b4 x⟩,⟨y.vs,rfl,O0.env _ _ (Jw _)<|b4 y⟩,trivial⟩
  have g1:SWO (ltOf λx y:V4 X w es enc=>A x.x y.x):=⟨λx=>S.irrefl x.x,λx y z=>S.trans x.x y.x z.x,λx y z=>S.ntrans x.x y.x z.x⟩
  have eg:∀ b5 w,(callFunc g b5).run P w=.ok (.enter g b5) w:=I9 ((if h:l.length=0 then by omega else (hc (l[0]'a4)<|l[0]'a4).1));have hs:=AnyQ.slices_SortFunc L es aE zE (V4.vs (X:=X) (w:=w) (es:=es) (enc:=enc)) J (λx=>x.one) (λx y=>A x.x y.x) g1 g #[] o 0 B d.toArray w eg e5 e2 e1 (by simpa [V] using hl);have a0:d.toArray.size=l.length:=by simpa using V
  rw [a0] at hs;rw [s];refine hs.mono ?_;rintro M w' ⟨rfl,d',m,os,hp,hso,rfl⟩;have E:d'.size=l.length:=hp.1.trans a0;have g2:d'.toList.Perm d:=by
   have:=hp.2.2
   rwa [show d'.extract 0 l.length=d' by rw [<- E];simp,show d.toArray.extract 0 l.length=d.toArray by rw [<- a0];simp] at this
  refine⟨rfl,Se _ _ _,rfl,rfl,rfl,λc hc O=>zx _ _ _ hc λh=>O (by rw [b2,h]),d'.toList.map V4.x,d1▸g2.map _,?_,?_⟩
  ·rw [List.pairwise_map,List.pairwise_iff_getElem];intro i j C n g3;have h1:=hso i j (Ai _) g3 (by simpa [E] using n);rw [getElem!_pos d' i (by simpa using C),getElem!_pos d' j<|by simpa using n] at h1;have h2:¬ A d'[j].x d'[i].x<0:=of_decide_eq_false h1;simp only [Array.getElem_toList];omega
  ·have g4:(d'.toList.map V4.x).length=l.length:=by simp [E]
   have b6:(flatK V4.vs es d').size=l.length*es:=by rw [size_flatK,E]
   have g5:(flatK V4.vs es d').toList=(d'.toList.map V4.vs).flatten:=Ox _ _ J _;refine⟨(d'.toList.map V4.vs).flatten,⟨?_,.inr ⟨o,B,_,s▸?_,Ai _,KI _ _ _ Q,?_,c5,by simp [putCells,b1],?_⟩⟩,?_,?_,?_⟩
   ·rw [Ka J];simp
   ·simp [E]
   ·simp [E];exact b0
   ·rw [Aa,g4,<- b6,Ws _ _ (by rw [b6,b1];exact A8 _ b0),g5]
   ·intro i C;simp [F]
   ·intro v g6;obtain⟨h0,hu,g7⟩:=List.mem_flatten.1 g6;obtain⟨x,_,rfl⟩:=List.mem_map.1 hu;exact x.one v g7
   ·intro i C j n;have g8:i<d'.toList.length:=by simpa using C
    have b7:j<es:=by simpa [F] using n
    obtain⟨v,G,I⟩:=(d'.toList[i]).UZ j (by rw [F];exact b7);refine⟨v,by rw [La J d'.toList i j g8 b7];exact G,?_⟩
    have q3:Q0 X w v (((d'.toList.map V4.x).map enc)[i][j]):=by simpa using I
    exact Q0.N1 (Se _ _ _) (λb u hx=>zx _ _ _ u λh=>hx<|h▸b3) (λb _ h=>h) q3
def yU (P:Program) (f g:FuncId) (te es:Nat) (enc:β->List D) (j:β->β->Int):Prop:=
 ∀ (l:List β),l.length<4611686018427387904->∀ (X:Nat->Prop) (e:Env) (w:World) (i:Nat),(∀ c,HB.owned e (i,.row te es<|l.map enc)=some c->X c)->(∀ b,X b->b<w.heap.size)->I4 X e w (i,.row te es<|l.map enc)->S7 P (λ_=>False) w ->
  Calls P f #[e.η i,.func (.func g) #[] #[]] w λm d=>m=.returned (.tuple #[])/\w.heap.size<=d.heap.size/\d.os=w.os/\d.tape=w.tape/\d.output=w.output /\
   (∀ c,c<w.heap.size->HB.owned e (i,.row te es<|l.map enc)≠some c->d.heap[c]?=w.heap[c]?)/\∃ h:List β,h.Perm l/\h.Pairwise (λa b=>j b a ≥ 0)/\I4 X e d (i,.row te es<|h.map enc)
end
section
variable {Γ : Ctx} {k : Nat} {L : Sl} {H : Hp} {K : cn} {ops : List Oper} {rest : List Oper} {β : Type}
def FM [P7 Γ] {f o:FuncId} {te es:Nat} {enc:β->List D} {p:β->β->Int} (A:yU Γ.P f o te es enc p) (l:List β) {d i:Nat} {x y:Operand} {r:Array TypeId} {ty:TypeId}
  (B:eu Γ.P f=true) (C:aj L x=.row i) (hH:Hp.get H i=some (.row te es (l.map enc))) (E:aj L y=.fn o []) (F:de y=true) (G:ap ops L g=some true) (I:Av d Γ.n=true) (J:l.length<4611686018427387904)
  (M:∀ j:List β,j.Perm l->j.Pairwise (λa b=>p b a ≥ 0)->DS false Γ ops rest K k ((d,.M2 [])::L) (Hp.set H i (.row te es (j.map enc)))) :
  DS false Γ ops (⟨some d,.call { callee:=.value (.func f),args:=#[x,y],argTypes:=r },ty,pos,af,g⟩::rest) K k L H:=by
 refine gj G λe a w m=>?_
 unfold Oper.wp;have N:=io B a [x,y] r (some d) ty pos af g w;rw [show #[x,y]=[x,y].toArray from rfl,N,Oper.upon_enter];obtain⟨Z,O,_⟩:=Q5 m C (nz · _);have u:=m.op y<|cd F;rw [E] at u;obtain⟨v,Q,S⟩:=u;cases v with
 | cons a0 v=>exact S.elim
 | nil =>
  have z:=Hp.mem_of hH;have T:∀ c,HB.owned e (i,.row te es<|l.map enc)=some c->Γ.X e H c:=λc U=>.inr<|List.mem_filterMap.2 ⟨_,z,U⟩
  have V:∀ b,Γ.X e H b->b<w.heap.size:=λb W=>W.elim (λh=>As (m.T1 b h).1 m.size)<|m.lt b
  have Y:=A l J (Γ.X e H) e w i T V (m.heap _ z).2<|m.U6.sub λ_ h=>h.elim;simp only [A3,List.map_nil,O,Q];refine Y.mono ?_;rintro en w' ⟨rfl,h1,h2,h3,h4,h5,j,h6,h7,h8⟩;exact⟨k,_,_,e,(m.Ck (b':=.row te es<|j.map enc) hH h1 h2 h3 h4 P7.any h5 rfl h8).put (s:=.M2 []) (Ab I) ⟨[],rfl,trivial⟩,M j h6 h7⟩
end
open Go Go.RowKit
def VC:yU prog 193 115 95 2 iy dg:=λl c _ _ _ _ d f h i =>
 gN (ρ:=Od) jN 2 isAgg95 sizeOf95 iy (λ_=>rfl) dg I' 115 (λa b=>(Iv true a b).Y6 _ rfl) 95 l c d f h i
end Go.Proofs.YtapciiffpnociabGreat
namespace Go.Proofs.YtapciiffpnociabGreat
open Go Go.RowKit
variable [Y0]
mutual
def SV.Ou (ρ:Nat->Nat):∀ (s:SV),s.low 0=true->s.V2 ρ=s
 | .V1,_=>rfl
 | .d _,_=>rfl
 | .Q1,_=>rfl
 | .pd _,_=>rfl
 | .loc _ _,h=>by simp [SV.low,Av] at h
 | .row _,h=>by simp [SV.low,Av] at h
 | .mp _,h=>by simp [SV.low,Av] at h
 | .md _ _,_=>rfl
 | .P3 _ _ _ _,h=>by simp [SV.low,Av] at h
 | .sl _ _ _ _,h=>by simp [SV.low,Av] at h
 | .R5 _ _ _ _,h=>by simp [SV.low,Av] at h
 | .rg _ _ _,_=>rfl
 | .fn f c,h=>by simp only [SV.V2,SV.Xb ρ c h]
 | .agg b,h=>by simp only [SV.V2,SV.Xb ρ b h]
 | .M2 b,h=>by simp only [SV.V2,SV.Xb ρ b h]
 | .val _,_=>rfl
def SV.Xb (ρ:Nat->Nat):∀ (ss:List SV),SV.U1 0 ss=true->SV.T4 ρ ss=ss
 | [],_=>rfl
 | s::ss,h=>by
  simp only [SV.U1,Ae] at h
  simp only [SV.T4,SV.Ou ρ s h.1,SV.Xb ρ ss h.2]
end
mutual
def SV.xS (k:Nat):∀ (s:SV),s.low 0=true->s.low k=true
 | .V1,_=>rfl
 | .d _,_=>rfl
 | .Q1,_=>rfl
 | .pd _,_=>rfl
 | .loc _ _,h=>by simp [SV.low,Av] at h
 | .row _,h=>by simp [SV.low,Av] at h
 | .mp _,h=>by simp [SV.low,Av] at h
 | .md _ _,_=>rfl
 | .P3 _ _ _ _,h=>by simp [SV.low,Av] at h
 | .sl _ _ _ _,h=>by simp [SV.low,Av] at h
 | .R5 _ _ _ _,h=>by simp [SV.low,Av] at h
 | .rg _ _ _,_=>rfl
 | .fn f c,h=>SV.W7 k c h
 | .agg b,h=>SV.W7 k b h
 | .M2 b,h=>SV.W7 k b h
 | .val _,_=>rfl
def SV.W7 (k:Nat):∀ (ss:List SV),SV.U1 0 ss=true->SV.U1 k ss=true
 | [],_=>rfl
 | s::ss,h=>by
  simp only [SV.U1,Ae] at h ⊢
  exact⟨SV.xS k s h.1,SV.W7 k ss h.2⟩
end
def Ul {k:Nat}:∀ (n:Nat),SV.U1 k (Aq n .V1)=true
 | 0=>rfl
 | n+1=>by
  rw [List.replicate_succ]
  simp only [SV.U1,Ae]
  exact⟨rfl,Ul n⟩
section
variable {P : Program} (w : World)
def sr (t ty e:TypeId) (i:TypeInfo) (n:P.underlying t=some (.slice e)) (hi:P.info? e=some i)
  (g o d h:Nat) (tb:TypeId) (f:Array Value) (p:w.heap[g]?=some (.cells f tb (0,0)))
  (a:Addr) (m c:Nat) (b:List Value) (r:b.length=m*i.size) (s:∀ j u,b[j]?=some u->w.cell? (a.add j)=some u) (h1:∀ u∈b,u.oneCell'=true)
  (v:d+m<=h) (z:o+d*i.size+b.length<=f.size) :
  (Builtin.append_ #[t,t] ty #[.slice (some ⟨g,o,none⟩) d h,.slice (some a) m c]).run P w =
   .ok (.slice (some ⟨g,o,none⟩) (d+m) h) (w.setRow g (f.toList.take (o+d*i.size)++b++f.toList.drop (o+d*i.size+b.length)).toArray):=by
 have A:=run_firstCells_some (P:=P) w i.size m a m c b r s;have l:=run_storeCells_at P g (o+d*i.size) tb b 0 f w p (by simpa using z) h1;simp only [Nat.add_zero] at l;simp [Builtin.append_,run_underlying n,sizeOf,typeInfo,hi,Builtin.lenOf,v,A,Addr.add_lit,l]
end
def nh {z:Array Value} {n:Nat} {v:Value} (h:v∈(Builtin.zeroCells z n).toList):v∈z.toList:=by
 unfold Builtin.zeroCells at h;simp only [Array.toList_map,Array.toList_range,List.mem_map,List.mem_range] at h;obtain⟨i,c,rfl⟩:=h;have d:0<z.size:=by
  rcases Nat.eq_zero_or_pos z.size with b|b
  ·rw [b,Nat.mul_zero] at c;omega
  ·exact b
 have:=F2 i d
 simp [this]
def Pw {X e w}:∀ (n:Nat) (vs:List Value),vs.length=n->O0 X e w (Aq n .V1) vs
 | 0,[],_=>trivial
 | n+1,[],h=>by simp at h
 | 0,_::_,h=>by simp at h
 | n+1,v::vs,h=>⟨trivial,Pw n vs (by simpa using h)⟩
section
variable {Γ : Ctx} {k : Nat} {L : Sl} {H : Hp} {K : cn} {ops : List Oper} {rest : List Oper} {t t' ty : TypeId} {x y : Operand}
def PH {d te es len:Nat} {ps:List (Nat×Operand)} {cs':List SV} (h:Γ.sh t=.slice te) (j:(Γ.sh te).known=true) (l:Γ.cells te=es) (b:Av 0 es=true) (o:gp (ai Γ.τ te).zero=true) (p:Az (ai Γ.τ te).zero.length (Γ.cells te)=true) (r:mr ps=true)
  (c:Nat.ble (len*es) 16777216=true) (u:qm (λi=>some (i*es,es)) (ux (o6 Γ.τ te) (len*es)) (mq L ps)=some cs') (v:ap ops L g=some true) (z:Av d Γ.n=true)
  (A:DS false Γ ops rest K (k+1) ((d,.sl k 0 len len)::L) ((k,.M1 te cs')::H))  :DS false Γ ops (⟨some d,.buildSlice t len ps.toArray,ty,pos,af,g⟩::rest) K k L H:=by
 refine gj v λe a w m=>?_
 obtain⟨F,f2,f3,B⟩:=o9 (ty:=ty) h j l b o p r c u m;unfold Oper.wp;rw [B];have f:=(m.alloc (ir k) te f2 f3).cast<|gv k;rw [G1] at f;have C:len<=maxLen:=by
  have G:=Ab c;have E:=Ab b;have:len<=len*es:=Nat.le_mul_of_pos_right _ E
  unfold maxLen;omega
 refine⟨_,_,_,_,f.put (s:=.sl k 0 len len) (Ab z) ⟨.inr rfl,Af _,C,0,?_,λ_=>rfl⟩,A⟩
 show _=Value.slice (some ⟨(e.bind k w.heap.size).β k,0,none⟩) len len;rw [show (e.bind k w.heap.size).β k=w.heap.size from if_pos rfl]
end
end Go.Proofs.YtapciiffpnociabGreat
