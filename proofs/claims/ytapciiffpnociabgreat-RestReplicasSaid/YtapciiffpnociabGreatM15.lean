/- Several texts in one: DagP SamP DagQ DagA GxMap DagB GxMty DagC DagD. Condition: none. -/
import Derived.Test.YtapciiffpnociabGreatM14
set_option linter.all false
set_option maxHeartbeats 8000000
open Array renaming getElem?_toList→Bt,toList_push→Gf
open Bool renaming and_eq_true→Ae,eq_iff_iff→D6,or_eq_false_iff→G3
open List renaming countP_eq_length_filter→Fq,ext_getElem?→Ce,filter_append→Cf,filter_cons_of_neg→E6,filter_cons_of_pos→Dw,find?_some→Ij,flatten_append→He,foldl_append→Ea,getElem?_map→Bh,getElem_mem→Ah,length→B0,length_append→Ag,length_cons→Ba,length_flatten→Ha,length_map→Aa,length_pos_of_mem→Gs,length_take→Ap,mapM_cons→Fz,map_append→Au,mem_append_left→Ax,mem_append_right→Bv,mem_cons→Bl,mem_cons_of_mem→Ak,mem_cons_self→Ac,mem_of_find?_eq_some→F8,mem_of_getElem?→B2,mem_singleton→A1,pairwise_singleton→Dc,take_of_length_le→Aj,take_succ_eq_append_getElem→Am
open Nat renaming beq→Az,blt→Av,eq_of_beq_eq_true→Ao,le_of_ble_eq_true→Ab,le_refl→Af,lt_of_le_of_lt→Hn,not_lt_zero→A2,zero_le→Ai
open Option renaming map_some→B1
namespace Go.Proofs.YtapciiffpnociabGreat
open Tryz
open Go Go.RowKit
variable {pos:String} {af:Array Edge} {g:Option (Nat×Bool)}
section
variable [Y0]
def cI {a b:Int} (h:fi a b=0):a=b:=by unfold fi at h;split at h<;>(try split at h)<;>omega
def xz (a:Z1):b9 a a=0:=by unfold b9;simp [Vc]
def x5 (a b:Z1):b9 a b = - b9 b a:=by
 unfold b9;rw [Wc a.J1 b.J1,Wc a.L1 b.L1];by_cases h:fi b.J1 a.J1=0
 ·rw [h];simp
 ·rw [if_neg h,if_neg<|by omega]
def mG {a b:Z1} (h:b9 a b=0):a=b:=by
 unfold b9 at h;split at h
 ·rename_i c;cases a;cases b;rw [Z1.mk.injEq];exact⟨cI c,cI h⟩
 ·rename_i c;exact absurd h c
def Uy (a b:Int):(a<b/\fi a b = -1)∨(a=b/\fi a b=0)∨(b<a/\fi a b=1):=by
 unfold fi;split
 ·exact .inl ⟨by assumption,rfl⟩
 ·split
  ·exact .inr<|.inr ⟨by assumption,rfl⟩
  ·exact .inr<|.inl ⟨by omega,rfl⟩
def QR {a b:Z1}:b9 a b<0↔a.J1<b.J1∨(a.J1=b.J1/\a.L1<b.L1):=by unfold b9;rcases Uy a.J1 b.J1 with ⟨f,c⟩|⟨f,c⟩|⟨f,c⟩<;>rcases Uy a.L1 b.L1 with ⟨h,d⟩|⟨h,d⟩|⟨h,d⟩<;>rw [c]<;>simp [d]<;>omega
def oh {a b c:Z1} (h:b9 a b<0) (g:b9 b c<0):b9 a c<0:=by rw [QR] at *;omega
def X3 {a b:Z1}:a.same b=true↔a=b:=by unfold Z1.same;cases a;cases b;simp
def xL (a b:Z1):a.same b=decide (b9 a b=0):=by rw [D6,X3,decide_eq_true_eq];exact⟨λh=>by rw [h];exact xz _,mG⟩
def R1 (l:List X0) (i:Z1):Bool:=l.any λu=>u.id.same i
def Y2 {l:List X0} {i:Z1}:R1 l i=true↔∃ u∈l,u.id=i:=by unfold R1;rw [List.any_eq_true];exact exists_congr λu=>and_congr_right λ_=>X3
def cq (u:X0):List Z1:=u.P0++u.V0
def I2 (l:List X0) (u:X0):Bool:=(cq u).all<|R1 l
def Q6 {l:List X0} {u:X0}:I2 l u=true↔∀ i∈cq u,R1 l i=true:=by unfold I2;exact List.all_eq_true
def W3 (l:List X0):Prop:=l.Pairwise λa b=>b9 a.id b.id<0
def qe {a:Z1} (h:b9 a a<0):False:=by rw [xz] at h;omega
def W3.uniq:∀ {l:List X0},W3 l->∀ {u v:X0},u∈l->v∈l->u.id=v.id->u=v
 | [],_,_,_,h,_,_=>by simp at h
 | x::l,m,u,v,n,o,b=>by
  obtain⟨c,p⟩:=List.pairwise_cons.1 m
  rcases List.mem_cons.1 n with d|f<;>rcases List.mem_cons.1 o with i|j
  ·rw [d,i]
  ·have:=c v j;rw [<- d,b] at this;exact (qe this).elim
  ·have:=c u f;rw [<- i,b] at this;exact (qe this).elim
  ·exact W3.uniq p f j b
def W3.nodup {l:List X0} (h:W3 l):l.Nodup:=List.Pairwise.imp (λh b=>by subst b;exact qe h) h
def Ct:∀ {a b:List X0},W3 a->W3 b->(∀ x,x∈a↔x∈b)->a=b
 | [],[],_,_,_=>rfl
 | [],y::b,_,_,h=>by have:=(h y).2 Ac;simp at this
 | x::a,[],_,_,h=>by have:=(h x).1 Ac;simp at this
 | x::a,y::b,l,m,h=>by
  obtain⟨i,n⟩:=List.pairwise_cons.1 l;obtain⟨j,o⟩:=List.pairwise_cons.1 m;have p:x=y:=by
   rcases List.mem_cons.1 ((h x).1 Ac) with c|c
   ·exact c
   ·rcases List.mem_cons.1 ((h y).2 Ac) with f|f
    ·exact f.symm
    ·exact (qe<|oh (j x c)<|i y f).elim
  subst p;rw [Ct n o λz=>?_];constructor
  ·intro d;rcases List.mem_cons.1 ((h z).1<|Ak _ d) with c|c
   ·subst c;exact (qe<|i z d).elim
   ·exact c
  ·intro d;rcases List.mem_cons.1 ((h z).2<|Ak _ d) with c|c
   ·subst c;exact (qe<|j z d).elim
   ·exact c
def vf:∀ {l:List X0},dl (λa b:X0=>b9 a.id b.id) l=true->W3 l
 | [],_=>.nil
 | [x],_=>Dc _ _
 | x::y::l,h=>by
  unfold dl at h
  rw [Ae,decide_eq_true_eq] at h
  have ih:=vf h.2
  refine List.pairwise_cons.2 ⟨λz c=>?_,ih⟩
  rcases List.mem_cons.1 c with rfl|c
  ·exact h.1
  ·exact oh h.1<|(List.pairwise_cons.1 ih).1 z c
def Nk:∀ {l:List X0},W3 l->dl (λa b:X0=>b9 a.id b.id) l=true
 | [],_=>rfl
 | [x],_=>rfl
 | x::y::l,h=>by
  obtain⟨c,d⟩:=List.pairwise_cons.1 h
  unfold dl
  rw [Ae]
  exact⟨decide_eq_true (c y<|Ac ..),Nk d⟩
def vt:List X0->X0->List X0
 | [],u=>[u]
 | x::l,u=>if b9 u.id x.id<0 then u::x::l else x::vt l u
def K7:∀ {l:List X0} {u x:X0},x∈vt l u↔x=u∨x∈l
 | [],u,x=>by simp [vt]
 | y::l,u,x=>by
  unfold vt
  split
  ·simp
  ·rw [Bl,K7,Bl]
   exact⟨λh=>by rcases h with h|h|h;exact .inr (.inl h);exact .inl h;exact .inr (.inr h),λh=>by rcases h with h|h|h;exact .inr (.inl h);exact .inl h;exact .inr (.inr h)⟩
def Rw:∀ {l:List X0} {u:X0},W3 l->R1 l u.id=false->W3 (vt l u)
 | [],u,_,_=>Dc _ _
 | x::l,u,f,c=>by
  obtain⟨i,j⟩:=List.pairwise_cons.1 f
  unfold R1 at c
  rw [List.any_cons,G3] at c
  unfold vt
  split
  ·rename_i d
   refine List.pairwise_cons.2 ⟨λz b=>?_,f⟩
   rcases List.mem_cons.1 b with rfl|b
   ·exact d
   ·exact oh d<|i z b
  ·rename_i d
   refine List.pairwise_cons.2 ⟨λz b=>?_,Rw j c.2⟩
   rcases K7.1 b with rfl|b
   ·have m:b9 x.id z.id≠0:=λh=>by rw [xL,decide_eq_true h] at c;simp at c
    have:=x5 x.id z.id
    omega
   ·exact i z b
def Ja:∀ (l:List X0) (u:X0),(vt l u).length=l.length+1
 | [],_=>rfl
 | x::l,u=>by
  unfold vt
  split
  ·rfl
  ·rw [Ba,Ja l u,Ba]
inductive Tg (A:List X0):Z1->Prop
 | mk (u:X0) (h:u∈A) (hu:∀ i∈cq u,Tg A i):Tg A u.id
def Tg.mono {A B:List X0} (h:∀ u∈A,u∈B) {i:Z1} (b:Tg A i):Tg B i:=by
 induction b with
 | mk u c _ ih=>exact .mk u (h u c) ih
def Tg.I0 {A:List X0} {i:Z1} (h:Tg A i):∃ u∈A,u.id=i/\∀ j∈cq u,Tg A j:=by
 cases h with
 | mk u b h=>exact⟨u,b,rfl,h⟩
def Tg.CO {A B:List X0} (hc:∀ u∈A,I2 B u=true->u∈B) {i:Z1} (h:Tg A i):R1 B i=true:=by
 induction h with
 | mk u b _ ih=>exact Y2.2 ⟨u,hc u b (Q6.2 ih),rfl⟩
structure X2 where
 I0:List X0
 K0:List X0
structure R2 (A:List X0) (r:X2):Prop where
 sh:W3 r.I0
 sw:W3 r.K0
 all:∀ u,u∈A↔u∈r.I0∨u∈r.K0
 apart:∀ u∈r.I0,∀ v∈r.K0,u.id≠v.id
 dH:∀ u∈r.I0,Tg A u.id
 wait:∀ u∈r.K0,¬ Tg A u.id
def R2.unique {A:List X0} {r s:X2} (h:R2 A r) (g:R2 A s):r=s:=by
 have d:∀ {r s:X2},R2 A r->R2 A s->(∀ u∈r.I0,u∈s.I0)/\∀ u∈r.K0,u∈s.K0:=by
  intro r s h g;refine⟨λu c=>?_,λu c=>?_⟩
  ·rcases (g.all u).1 ((h.all u).2<|.inl c) with b|b
   ·exact b
   ·exact absurd (h.dH u c)<|g.wait u b
  ·rcases (g.all u).1 ((h.all u).2<|.inr c) with b|b
   ·exact absurd (g.dH u b)<|h.wait u c
   ·exact b
 obtain⟨f,i⟩:=d h g;obtain⟨j,l⟩:=d g h;cases r;cases s;rw [X2.mk.injEq];exact⟨Ct h.sh g.sh λx=>⟨f x,j x⟩,Ct h.sw g.sw λx=>⟨i x,l x⟩⟩
def R2.congr {A B:List X0} {r:X2} (c:∀ u,u∈A↔u∈B) (h:R2 A r):R2 B r:=
 ⟨h.sh,h.sw,λu=>(c u).symm.trans (h.all u),h.apart,λu b=>(h.dH u b).mono λu b=>(c u).1 b,λu b d=>h.wait u b<|d.mono λu b=>(c u).2 b⟩
def R2.uniq {A:List X0} {r:X2} (h:R2 A r) {u v:X0} (b:u∈A) (c:v∈A) (d:u.id=v.id):u=v:=by
 rcases (h.all u).1 b with b|b<;>rcases (h.all v).1 c with c|c
 ·exact h.sh.uniq b c d
 ·exact absurd d<|h.apart u b v c
 ·exact absurd d.symm<|h.apart v c u b
 ·exact h.sw.uniq b c d
structure J6 (A:List X0) (r:X2):Prop where
 sh:W3 r.I0
 sw:W3 r.K0
 all:∀ u,u∈A↔u∈r.I0∨u∈r.K0
 apart:∀ u∈r.I0,∀ v∈r.K0,u.id≠v.id
 dH:∀ u∈r.I0,Tg A u.id
def J6.done {A:List X0} {r:X2} (h:J6 A r) (d:∀ u∈r.K0,I2 r.I0 u=false):R2 A r:=by
 refine⟨h.sh,h.sw,h.all,h.apart,h.dH,λu f i=>?_⟩
 have:=i.CO (B:=r.I0) λv b c=>by
  rcases (h.all v).1 b with b|b
  ·exact b
  ·rw [d v b] at c;cases c
 obtain⟨v,b,j⟩:=Y2.1 this;exact h.apart v b u f j
def pM {A:List X0} {r:X2} (h:∀ u∈r.I0,Tg A u.id) {i:Z1} (hi:R1 r.I0 i=true):Tg A i:=by obtain⟨v,b,rfl⟩:=Y2.1 hi;exact h v b
def J6.move {A:List X0} {r:X2} (h:J6 A r) {u:X0} (d:u∈r.K0) (m:I2 r.I0 u=true):J6 A ⟨vt r.I0 u,r.K0.filter λv=>!(v.id.same u.id)⟩:=by
 have n:R1 r.I0 u.id=false:=by
  cases o:R1 r.I0 u.id with
  | false=>rfl
  | true =>
   obtain⟨v,b,c⟩:=Y2.1 o;exact absurd c<|h.apart v b u d
 have f:∀ v,v∈r.K0.filter (λv=>!(v.id.same u.id))↔v∈r.K0/\v≠u:=by
  intro v;rw [List.mem_filter];refine and_congr_right λb=>?_
  rw [Bool.not_eq_true',<- Bool.not_eq_true,X3];exact not_congr ⟨λc=>h.sw.uniq b d c,λc=>by rw [c]⟩
 refine⟨Rw h.sh n,List.Pairwise.filter _ h.sw,λv=>?_,λv b w p=>?_,λv b=>?_⟩
 ·rw [h.all,K7,f];by_cases j:v=u
  ·subst j;simp [d]
  ·simp [j]
 ·obtain⟨l,s⟩:=(f w).1 p;rcases K7.1 b with rfl|b
  ·exact λc=>s<|h.sw.uniq l d c.symm
  ·exact h.apart v b w l
 ·rcases K7.1 b with rfl|b
  ·exact .mk v ((h.all v).2<|.inr d) λi z=>pM h.dH<|Q6.1 m i z
  ·exact h.dH v b
def R2.more {A:List X0} {r:X2} (h:R2 A r) {u:X0} (f:R1 r.I0 u.id=false) (i:R1 r.K0 u.id=false):J6 (u::A) ⟨r.I0,vt r.K0 u⟩:=by
 refine⟨h.sh,Rw h.sw i,λv=>?_,λv b w c d=>?_,λv b=>(h.dH v b).mono λx j=>Ak _ j⟩
 ·rw [Bl,h.all,K7];exact⟨λh=>by rcases h with h|h|h;exact .inr<|.inl h;exact .inl h;exact .inr (.inr h),λh=>by rcases h with h|h|h;exact .inr<|.inl h;exact .inl h;exact .inr<|.inr h⟩
 ·rcases K7.1 c with rfl|c
  ·have:=Y2.2 ⟨v,b,d⟩
   rw [f] at this;cases this
  ·exact h.apart v b w c d
inductive Reach (I0:List X0) (l:List Z1):Z1->Prop
 | base (i:Z1) (h:i∈l) (hi:R1 I0 i=true):Reach I0 l i
 | step (u:X0) (hu:u∈I0) (h:Reach I0 l u.id) (j:Z1) (hj:j∈cq u) (hh:R1 I0 j=true):Reach I0 l j
def Reach.I0 {I0:List X0} {l:List Z1} {i:Z1} (h:Reach I0 l i):R1 I0 i=true:=by cases h<;>assumption
def Reach.trans {I0:List X0} {l:List Z1} {u:X0} (d:u∈I0) (h:Reach I0 l u.id) {j:Z1} (f:Reach I0 (cq u) j):Reach I0 l j:=by
 induction f with
 | base i b c=>exact .step u d h i b c
 | step v m _ j b c ih=>exact .step v m ih j b c
def Reach.first {I0:List X0} (o:W3 I0) {l:List Z1} {i:Z1} (h:Reach I0 l i):∃ j∈l,∃ v∈I0,v.id=j/\(i=j∨Reach I0 (cq v) i):=by
 induction h with
 | base i c d =>
  obtain⟨v,f,m⟩:=Y2.1 d;exact⟨i,c,v,f,m,.inl rfl⟩
 | step u n _ k c d ih =>
  obtain⟨j,p,v,f,m,b⟩:=ih;refine⟨j,p,v,f,m,.inr ?_⟩
  rcases b with b|b
  ·have r:=o.uniq n f<|b.trans m.symm;subst r;exact .base k c d
  ·exact .step u n b k c d
def tE {I0:List X0} (f:W3 I0) {i:Z1} (h:Tg I0 i):∀ u∈I0,u.id=i->¬ Reach I0 (cq u) u.id:=by
 induction h with
 | mk w o _ ih =>
  intro u d p l;have r:=f.uniq d o p;subst r;obtain⟨j,c,v,m,n,b⟩:=l.first f;rcases b with b|b
  ·exact ih j c u d b l
  ·refine ih j c v m n ?_;have s:R1 I0 v.id=true:=Y2.2 ⟨v,m,rfl⟩;rw [<- n] at c;exact .step u d b v.id c s
def bI (I0:List X0) (c:X0->Bool):Nat:=(I0.filter c).length
def JK {I0:List X0} {c d:X0->Bool} (h:∀ u∈I0,c u=true->d u=true) (i:∃ u∈I0,c u=false/\d u=true):bI I0 c<bI I0 d:=by
 unfold bI;obtain⟨x,i,p,r⟩:=i;obtain⟨a,b,rfl⟩:=List.append_of_mem i;have m:∀ l:List X0,(∀ u∈l,c u=true->d u=true)->(l.filter c).length<=(l.filter d).length:=by
  intro l;induction l with
  | nil=>intro _;exact Af _
  | cons y l ih =>
   intro n;have ih:=ih λu f=>n u<|Ak _ f
   have s:=n y<|Ac ..;cases j:c y with
   | true=>rw [Dw j,Dw (s j),Ba,Ba];omega
   | false =>
    rw [E6<|by rw [j];simp];cases o:d y with
    | true=>rw [Dw o,Ba];omega
    | false=>rw [E6<|by rw [o];simp];exact ih
 rw [Cf,Cf,E6 (by rw [p];simp),Dw r,Ag,Ag,Ba];have:=m a λu f=>h u<|Ax _ f
 have:=m b λu f=>h u<|Bv _<|Ak _ f
 omega
def Uh {I0:List X0} (j:∀ u∈I0,I2 I0 u=true) (m:∀ u∈I0,¬ Reach I0 (cq u) u.id):∀ u∈I0,Tg I0 u.id:=by
 classical
 have o:∀ (n:Nat) (u:X0),u∈I0->bI I0 (λv=>decide (Reach I0 (cq u) v.id))<=n->Tg I0 u.id:=by
  intro n;induction n with
  | zero =>
   intro u c f;refine .mk u c λi d=>?_
   obtain⟨v,b,rfl⟩:=Y2.1<|Q6.1 (j u c) i d;exfalso;have:v∈I0.filter (λv=>decide (Reach I0 (cq u) v.id)):=List.mem_filter.2 ⟨b,decide_eq_true<|.base v.id d<|Y2.2 ⟨v,b,rfl⟩⟩
   have:=Gs this
   unfold bI at f;omega
  | succ n ih =>
   intro u c f;refine .mk u c λi d=>?_
   obtain⟨v,b,rfl⟩:=Y2.1<|Q6.1 (j u c) i d;have l:Reach I0 (cq u) v.id:=.base v.id d<|Y2.2 ⟨v,b,rfl⟩;refine ih v b<|Nat.le_of_lt_succ<|Nat.lt_of_lt_of_le (JK (λw _ h=>?_) ⟨v,b,?_,?_⟩) f
   ·exact decide_eq_true<|l.trans b<|of_decide_eq_true h
   ·exact decide_eq_false<|m v b
   ·exact decide_eq_true l
 exact λu c=>o _ u c<|Af _
def SO (x y:U0):U0.same x y=true↔x=y:=by unfold U0.same;rw [decide_eq_true_eq];exact⟨sx,λh=>by rw [h];exact ol y⟩
def Zw {a b:List X0} (h:∀ u,u∈a↔u∈b) (i:Z1):R1 a i=R1 b i:=by rw [D6,Y2,Y2];exact exists_congr λu=>and_congr_left λ_=>h u
def vw (a b:List X0) (i:Z1):R1 (a++b) i=(R1 a i||R1 b i):=by unfold R1;rw [List.any_append]
structure TY (r:X2):Prop where
 sh:W3 r.I0
 sw:W3 r.K0
 apart:∀ u∈r.I0,∀ v∈r.K0,u.id≠v.id
abbrev X2.both (r:X2):List X0:=r.I0++r.K0
def R2.bY {A:List X0} {r:X2} (h:R2 A r) {i:Z1} (c:Tg A i):R1 r.I0 i=true:=by
 obtain⟨u,f,d,_⟩:=c.I0;rcases (h.all u).1 f with b|b
 ·exact Y2.2 ⟨u,b,d⟩
 ·exact absurd (d▸c)<|h.wait u b
def R2.ready {A:List X0} {r:X2} (h:R2 A r) {u:X0} (b:u∈r.I0):I2 r.I0 u=true:=by obtain⟨v,c,d,f⟩:=(h.dH u b).I0;have j:=h.uniq ((h.all u).2<|.inl b) c d.symm;subst j;exact Q6.2 λi l=>h.bY<|f i l
def R2.der {A:List X0} {r:X2} (h:R2 A r) {i:Z1} (d:Tg A i):Tg r.I0 i:=by
 induction d with
 | mk u c f ih =>
  rcases (h.all u).1 c with b|b
  ·exact .mk u b ih
  ·exact absurd (Tg.mk u c f)<|h.wait u b
def R2.bO {A:List X0} {r:X2} (h:R2 A r) {u:X0} (b:u∈r.K0):I2 r.I0 u=false:=by
 cases c:I2 r.I0 u with
 | false=>rfl
 | true=>exact absurd (Tg.mk u ((h.all u).2<|.inr b) λi d=>pM h.dH<|Q6.1 c i d)<|h.wait u b
def R2.pre {A:List X0} {r:X2} (h:R2 A r):TY r:=⟨h.sh,h.sw,h.apart⟩
def R2.self {A:List X0} {r:X2} (h:R2 A r):R2 r.both r:=h.congr λu=>(h.all u).trans List.mem_append.symm
def J6.ends {A:List X0}:∀ {r:X2},J6 A r->∃ s,R2 A s:=by
 have i:∀ (n:Nat) (r:X2),r.K0.length<=n->J6 A r->∃ s,R2 A s:=by
  intro n;induction n with
  | zero =>
   intro r j h;refine⟨r,h.done λu b=>?_⟩
   have:=Gs b
   omega
  | succ n ih =>
   intro r j h;by_cases f:∃ u∈r.K0,I2 r.I0 u=true
   ·obtain⟨u,b,l⟩:=f;refine ih _ ?_<|h.move b l;have:(r.K0.filter λv=>!(v.id.same u.id)).length<r.K0.length:=by
     have:=JK (I0:=r.K0) (c:=λv=>!(v.id.same u.id)) (d:=λ_=>true) (λ_ _ _=>rfl) ⟨u,b,by rw [Z1.T3];rfl,rfl⟩
     unfold bI at this;rw [List.filter_eq_self.2 λ_ _=>rfl] at this;exact this
    dsimp only;omega
   ·refine⟨r,h.done λu b=>?_⟩
    cases m:I2 r.I0 u with
    | false=>rfl
    | true=>exact absurd ⟨u,b,m⟩ f
 exact fun {r} h=>i _ r (Af _) h
def R2.add {A:List X0} {r:X2} (h:R2 A r) {u:X0} (c:R1 A u.id=false):J6 (u::A) ⟨r.I0,vt r.K0 u⟩/\∃ s,R2 (u::A) s:=by
 have d:R1 r.I0 u.id=false/\R1 r.K0 u.id=false:=by
  rw [Zw (b:=r.both) λu=>(h.all u).trans List.mem_append.symm,vw,G3] at c;exact c
 have:=h.more d.1 d.2
 exact⟨this,this.ends⟩
def ub (A:List X0):List X0->Option (List X0)
 | []=>some A
 | u::l=>if R1 A u.id then ub A l else if 200<=A.length then none else ub (u::A) l
open Go Go.RowKit
def M9 (l:List X0) (i:Z1):Nat:=l.countP λu=>decide (b9 u.id i<0)
def JL {l:List X0} {i:Z1} {n:Nat} (j:n<=l.length) (h1:∀ p (b:p<l.length),p<n->b9 l[p].id i<0) (d:∀ p (b:p<l.length),n<=p->0<=b9 l[p].id i):M9 l i=n:=by
 unfold M9;rw [<- List.take_append_drop n l,List.countP_append];have f:(l.take n).countP (λu=>decide (b9 u.id i<0))=(l.take n).length:=List.countP_eq_length.2 λu c=>by
  obtain⟨p,b,rfl⟩:=List.mem_iff_getElem.1 c;rw [Ap] at b;rw [List.getElem_take];exact decide_eq_true<|h1 p (by omega)<|by omega
 have h:(l.drop n).countP (λu=>decide (b9 u.id i<0))=0:=List.countP_eq_zero.2 λu c=>by
  obtain⟨p,b,rfl⟩:=List.mem_iff_getElem.1 c;rw [List.length_drop] at b;rw [List.getElem_drop];have:=d (n+p) (by omega)<|by omega
  simp only [decide_eq_true_eq];omega
 rw [f,h,Ap];omega
def FI {l:List X0} {i:Z1} {h:Nat} (d:W3 l) (f:h<l.length) (b:b9 l[h].id i<0):∀ p (c:p<l.length),p<h+1->b9 l[p].id i<0:=by
 intro p c m;by_cases j:p=h
 ·subst j;exact b
 ·exact oh (List.pairwise_iff_getElem.1 d p h c f<|by omega) b
def GI {l:List X0} {i:Z1} {h:Nat} (c:W3 l) (d:h<l.length) (f:0<=b9 l[h].id i):∀ p (b:p<l.length),h<=p->0<=b9 l[p].id i:=by
 intro p b n;by_cases j:p=h
 ·subst j;exact f
 ·have m:=List.pairwise_iff_getElem.1 c h p d b (by omega);apply Classical.byContradiction;intro o;have r:=oh m (by omega:b9 l[p].id i<0);omega
def UO {l:List X0} {i:Z1} {n:Nat} (c:W3 l) (h1:∀ p (b:p<l.length),p<n->b9 l[p].id i<0) (d:∀ p (b:p<l.length),n<=p->0<=b9 l[p].id i):R1 l i=(if h:n<l.length then decide (b9 l[n].id i=0) else false):=by
 rw [D6,Y2];have f:=List.pairwise_iff_getElem.1 c;constructor
 ·rintro⟨u,j,rfl⟩;obtain⟨p,b,rfl⟩:=List.mem_iff_getElem.1 j;have r:¬ p<n:=λh=>qe (h1 p b h)
  rw [dif_pos<|by omega];by_cases m:p=n
  ·subst m;exact decide_eq_true<|xz _
  ·have:=f n p (by omega) b (by omega)
   have:=d n (by omega)<|Af _
   omega
 ·intro h;split at h
  ·rename_i o;exact⟨_,Ah o,mG<|of_decide_eq_true h⟩
  ·cases h
attribute [local irreducible] DW DS DL DQ Ev X1 I3 du bl DT
def fC (a b:X0):Fn 87 [fg a,fg b] (λr=>r=.i (b9 a.id b.id)):=by
 refine J2 func87 ?_;intro O c d f;have w:=Th a.id b.id;repeat' (first|refine zr ?_|refine z21 ?_ w|fail)
 exact bh rfl rfl
def lU (u:X0) (i:Z1):Fn 179 [fg u,o5 i] (λr=>r=.i (b9 u.id i)):=by
 refine J2 func179 ?_;intro O b c d;have w:=Th u.id i;repeat' (first|refine zr ?_|refine z21 ?_ w|fail)
 exact bh rfl rfl
def kI (l:List X0) (f:Z1) (J:l.length<=1000000) (o:W3 l):Fn 178 [.s 5 (l.map ak),o5 f,.fn 179 []] (λr=>r=.M2 [.i (M9 l f),.b (R1 l f)]):=by
 refine J2 func178 ?_;intro O M N P;have A:(l.map ak).length=l.length:=Aa _;refine zS ?_;refine ae (ι:=Nat×Nat) (λx=>⟨1,[(0,.s 5<|l.map ak),(2,.fn 179 []),(4,.loc 0 0),(8,.i l.length),(9,.i x.1),(10,.i x.2)],[(0,.M1 31 [.i f.J1,.i f.L1])]⟩)
  (λx=>x.1<=x.2/\x.2<=l.length/\(∀ p (B:p<l.length),p<x.1->b9 l[p].id f<0)/\(∀ p (B:p<l.length),x.2<=p->0<=b9 l[p].id f)) (λx=>x.2-x.1)
  (0,l.length) ⟨Ai _,Af _,λp _ h=>absurd h (A2 p),λp B h=>by omega⟩ (er id ⟨rfl,rfl,rfl,by rw [<- A];rfl,rfl,by rw [<- A];rfl,trivial⟩) ?_
 rintro⟨i,j⟩ ⟨E,u,d,m⟩;dsimp only at E u d m ⊢;by_cases Q:i<j
 ·have F:=cH i j (by omega);have G:i<=(i+j)/2:=by omega
  have R:(i+j)/2<j:=by omega
  have v:(i+j)/2<l.length:=by omega
  have z:=lU (l[(i+j)/2]'v) f;repeat' ((fail_if_success (apply fh 5));(first|refine zr ?_|(refine zm ?_ ?_<;>intro c)|fail))
  all_goals try omega
  refine ag (k':=1) (L':=[(11,.i (((i+j)/2:Nat):Int)),(0,.s 5<|l.map ak),(2,.fn 179 []),(4,.loc 0 0),(8,.i l.length),(9,.i i),(10,.i j)]) (H':=[(0,.M1 31 [.i f.J1,.i f.L1])]) ?_ ?_
  ·rw [<- F];exact er id
  generalize (i+j)/2=h at *;repeat' (first|refine zs ?_|(apply kb;(iterate 4 exact rfl);apply z;exact rfl;(exact rfl);exact rfl;exact rfl;exact⟨_,rfl⟩;rintro _ rfl)|(refine zm ?_ ?_<;>intro c)|omega)
  all_goals first
   | exact⟨(h+1,j),⟨by dsimp only;omega,u,FI o v c,m⟩,er id,by show j-(h+1)<j-i;omega⟩
   | exact⟨(i,h),⟨G,by dsimp only;omega,d,GI o v<|Int.not_lt.1 c⟩,er id,by show h-i<j-i;omega⟩
 ·have I:i=j:=by omega
  subst I;have n:=UO o d m;rw [JL u d m];by_cases C:i<l.length
  ·rw [dif_pos C] at n;have z:=lU l[i] f;rw [n];repeat' (first|refine zr ?_|(apply kb;(iterate 4 exact rfl);apply z;exact rfl;(exact rfl);exact rfl;exact rfl;exact⟨_,rfl⟩;rintro _ rfl)|(refine zm ?_ ?_<;>intro c)|omega)
   all_goals exact⟨.inl rfl,_,rfl,rfl,rfl⟩
  ·rw [dif_neg C] at n;rw [n];repeat' (first|refine zr ?_|(refine zm ?_ ?_<;>intro c)|omega)
   exact⟨.inl rfl,_,rfl,rfl,rfl⟩
def kU (l:List X0) (i:Z1) (c:l.length<=1000000) (d:W3 l):Fn 135 [.s 5 (l.map ak),o5 i] (λr=>r=.M2 [.i (M9 l i),.b (R1 l i)]):=by
 refine J2 func135 ?_;intro O f h j;have w:=kI l i c d;repeat' (first|refine zr ?_|refine z21 ?_ w|fail)
 exact⟨.inl rfl,_,rfl,rfl,rfl⟩
def uq (l:List X0) (i:Z1) (c:l.length<=1000000) (d:W3 l):Fn 90 [.s 5 (l.map ak),o5 i] (λr=>r=.b (R1 l i)):=by
 refine J2 func90 ?_;intro O f h j;have w:=kU l i c d;repeat' (first|refine zr ?_|refine z21 ?_ w|fail)
 exact bi rfl rfl
def PO (n:Nat) (c:n<=1000000):X1 false prog U5 bt 214 [.Q1,.i n] 0 0 [] (λ_ r H=>r=.row 0/\H=[(0,.row 31 2 [])]):=by
 refine T8 func214 ?_;intro O d f h;by_cases b:n=0
 ·subst b;refine zS ?_;all_goals try omega
  refine iv (fc rfl rfl) rfl rfl ?_;refine zS ?_;all_goals try omega
  refine ag (ce (t:=4) 31 2 rfl) ?_;repeat' (apply cr)
  exact⟨.inl rfl,_,rfl,kp id 1 (.row 0) ([(0,.row 31 2 [])]) ⟨rfl,rfl⟩⟩
 ·refine zS ?_;all_goals try omega
  refine iv (fc rfl rfl) rfl rfl ?_;repeat' (first|refine zr ?_|(refine zm ?_ ?_<;>intro l)|omega)
  refine iv (fc rfl rfl) rfl rfl ?_;repeat' refine z0 ?_
  all_goals try omega
  refine Tr (n:=n) (es:=2) (te:=31) [.int .i64 0,.int .i64 0] rfl rfl (by omega) rfl rfl rfl rfl ⟨.inl rfl,.inl rfl,trivial⟩ rfl rfl (by omega) (by omega) ?_ (by unfold maxLen;omega) rfl rfl ?_
  ·show n*16<=_;omega
  refine zS ?_;all_goals try omega
  refine ag (Qc (n:=0) 4 rfl rfl (Ai _) rfl) ?_;repeat' (apply cr)
  exact⟨.inl rfl,_,rfl,kp (λj=>match j with|0=>1|j=>j) 1 (.row 0) ([(0,.row 31 2 [])]) ⟨rfl,rfl⟩⟩
def ZH (b:List (List (Z1))) (h:(b.map B0).sum<=1000000) (v:b.length<=1000000):Fn 180 [.s 1 (b.map λl=>[.slice 2 (l.map ay)])] (λr=>r=.s 2 (b.flatten.map ay)):=by
 refine J2 func180 ?_;intro O A B C;have j:(b.map λl=>[D.slice 2<|l.map ay]).length=b.length:=Aa _;refine zS ?_;refine ae (ι:=Nat) (λi=>⟨0,[(0,.s 1<|b.map λl=>[.slice 2<|l.map ay]),(3,.i (((b.take i).map B0).sum:Nat)),(9,.s 1<|b.map λl=>[.slice 2<|l.map ay]),(10,.i b.length),(11,.i i)],[]⟩)
  (λi=>i<=b.length) (λi=>b.length-i) 0 (Ai _) (er id ⟨rfl,rfl,rfl,by rw [<- j];rfl,rfl,trivial⟩) ?_
 intro i m;by_cases c:i<b.length
 ·have n:=r8 c;have p:=Sb b<|i+1;have o:(b[i].map ay).length=b[i].length:=Aa _;repeat' (first|refine zs ?_|(refine zm ?_ ?_<;>intro f)|omega)
  exact⟨i+1,by omega,er id ⟨rfl,congrArg (λz=>SV.d<|.int .i64 z) (by rw [n,o];omega),rfl,rfl,rfl,trivial⟩,by omega⟩
 ·rw [Aj<|by omega];repeat' (first|refine zs ?_|(refine zm ?_ ?_<;>intro f)|omega)
  refine aw id (PO (b.map B0).sum h) rfl rfl rfl rfl trivial rfl rfl rfl rfl rfl rfl ?_ ?_
  ·rintro k2 r H2 ⟨rfl,rfl⟩;exact⟨rfl,rfl⟩
  rintro k2 r H2 ⟨rfl,rfl⟩;change DS _ _ _ _ _ _ _ _;refine zS ?_;refine ae (ι:=Nat) (λi=>⟨1,[(6,.row 0),(25,.s 1<|b.map λl=>[.slice 2<|l.map ay]),(26,.i b.length),(27,.i i)],[(0,.row 31 2<|(b.take i).flatten.map ay)]⟩)
   (λi=>i<=b.length) (λi=>b.length-i) 0 (Ai _) (er id ⟨rfl,rfl,by rw [<- j];rfl,rfl,trivial⟩) ?_
  clear c m;intro i m;by_cases c:i<b.length
  ·have n:=r8 c;have p:=Sb b<|i+1;have o:(b[i].map ay).length=b[i].length:=Aa _;have E:((b.take i).flatten.map ay).length=((b.take i).map B0).sum:=by rw [Aa,Ha]
   have u:(b.take<|i+1).flatten=(b.take i).flatten++b[i]:=by rw [Am c,He];simp
   repeat' (first|refine zr ?_|(refine zm ?_ ?_<;>intro f)|omega)
   exact⟨i+1,by omega,er (λ_=>1) (hH:=⟨by rw [u,Au];rfl,trivial⟩),by omega⟩
  ·rw [Aj<|by omega];repeat' (first|refine zs ?_|(refine zm ?_ ?_<;>intro f)|omega)
   refine ag (ck 2 rfl rfl rfl) ?_;repeat' (apply cr)
   exact⟨.inl rfl,_,rfl,rfl,rfl⟩
def Qs (u:X0) (h:u.P0.length+u.V0.length<=1000000):Fn 136 [fg u] (λr=>r=.s 2 ((cq u).map ay)):=by
 refine J2 func136 ?_;intro O c d f;have b:Fn 180 [.s 1 [[.slice 2<|u.P0.map ay],[.slice 2<|u.V0.map ay]]] (λr=>r=.s 2 ((cq u).map ay)):=by
  have h:=ZH [u.P0,u.V0] (by simpa using h) (by simp);rw [show [u.P0,u.V0].flatten=cq u by simp [cq]] at h;exact h
 repeat' (first|refine zr ?_|refine z21 ?_ b|fail)
 exact⟨.inl rfl,_,rfl,rfl,rfl⟩
def MN (l:List X0) (i:Z1) (c:l.length<=1000000) (d:W3 l):Fn 137 ([o5 i]++[.pd [.slice 5 (l.map ak)]]) (λr=>r=.b (!R1 l i)):=by
 refine J2 func137 ?_;intro O f h j;have w:=uq l i c d;repeat' (first|refine zr ?_|refine z21 ?_ w|fail)
 exact bi rfl rfl
def Tc (l:List X0) (u:X0) (c:l.length<=1000000) (d:W3 l) (h:u.P0.length+u.V0.length<=1000000):Fn 92 [.s 5 (l.map ak),fg u] (λr=>r=.b (I2 l u)):=by
 refine J2 func92 ?_;intro O n o p;have f:=Qs u h;have j:=pp (caps:=[.pd [.slice 5<|l.map ak]]) (λi=>!R1 l i) (cq u) rfl<|λi _=>MN l i c d;have m:(!((cq u).any λi=>!R1 l i))=I2 l u:=by unfold I2;rw [List.all_eq_not_any_not]
 rw [<- m];repeat' ((fail_if_success (apply fh 1));(first|refine zs ?_|fail))
 refine ag (jl (ds:=[.slice 5<|l.map ak]) 2 0 rfl rfl) ?_;repeat' (first|refine zr ?_|refine z21 ?_ f|refine z21 ?_ j|fail)
 exact bi rfl rfl
end
section
open Go Go.RowKit
open Go.Maps (Keyed)
variable [Y0]
def MK.BH:MK->MK->Bool
 | .str a,.str b=>decide (a.data=b.data)
 | .pair a b,.pair c d=>decide (a=c)&&decide (b=d)
 | _,_=>false
def MK.V5:∀ {a b:MK},a.BH b=true↔a=b
 | .str a,.str b=>by
  simp only [MK.BH,decide_eq_true_iff,MK.str.injEq]
  exact⟨λh=>by cases a;cases b;exact congrArg _ h,λh=>by rw [h]⟩
 | .pair a b,.pair c d=>by simp only [MK.BH,Ae,decide_eq_true_iff,MK.pair.injEq]
 | .str _,.pair _ _=>by simp [MK.BH]
 | .pair _ _,.str _=>by simp [MK.BH]
def MK.Vi (a:MK):a.BH a=true:=MK.V5.2 rfl
def MK.val_inj:∀ {a b:MK},a.val=b.val->a=b
 | .str a,.str b,h=>by cases h;rfl
 | .pair a b,.pair c d,h=>by
  simp only [MK.val,Value.agg.injEq,Array.mk.injEq,List.cons.injEq,Value.int.injEq,and_true,true_and] at h
  rw [h.1,h.2]
 | .str _,.pair _ _,h=>by cases h
 | .pair _ _,.str _,h=>by cases h
def K2:List (MK×Int)->MK->Option Int
 | [],_=>none
 | (k,v)::l,x=>if k.BH x then some v else K2 l x
def bw:List (MK×Int)->MK->Int->List (MK×Int)
 | [],x,n=>[(x,n)]
 | (k,v)::l,x,n=>if k.BH x then (k,n)::l else (k,v)::bw l x n
def s6 (x:MK) (n:Int) (y:MK):∀ l,K2 (bw l x n) y=if x.BH y then some n else K2 l y
 | []=>rfl
 | (k,v)::l=>by
  unfold bw
  by_cases c:k.BH x=true
  ·have:=MK.V5.1 c
   subst this
   rw [if_pos c]
   simp only [K2]
   split<;>rfl
  ·rw [if_neg c]
   simp only [K2,s6 x n y l]
   by_cases b:k.BH y=true
   ·have:=MK.V5.1 b
    subst this
    rw [if_pos b,if_neg (λh=>c<|MK.V5.2 (MK.V5.1 h).symm),if_pos b]
   ·rw [if_neg b,if_neg b]
def Po {x:MK}:∀ {l:List (MK×Int)},(∀ p∈l,p.1≠x)->K2 l x=none
 | [],_=>rfl
 | (k,v)::l,h=>by
  unfold K2
  rw [if_neg (λb=>h (k,v) (Ac ..) (MK.V5.1 b))]
  exact Po λp c=>h p (Ak _ c)
def Oo {x:MK} {n:Int}:∀ {l:List (MK×Int)},l.Pairwise (λp q=>p.1≠q.1)->(x,n)∈l->K2 l x=some n
 | [],_,h=>by simp at h
 | (k,v)::l,b,h=>by
  obtain⟨c,d⟩:=List.pairwise_cons.1 b
  unfold K2
  rcases List.mem_cons.1 h with h|h
  ·cases h;rw [if_pos<|MK.Vi _]
  ·rw [if_neg λf=>c _ h<|MK.V5.1 f]
   exact Oo d h
def Rf {x:MK} {n:Int}:∀ {l:List (MK×Int)},(∀ p∈l,p.1≠x)->bw l x n=l++[(x,n)]
 | [],_=>rfl
 | (k,v)::l,h=>by
  unfold bw
  rw [if_neg (λb=>h (k,v) (Ac ..) (MK.V5.1 b)),Rf λp c=>h p (Ak _ c)]
  rfl
def x9 {x:MK} {n:Int}:∀ {l:List (MK×Int)} {j:Nat} {v:Int},l.Pairwise (λp q=>p.1≠q.1)->l[j]?=some (x,v)->bw l x n=l.set j (x,n)
 | [],_,_,_,h=>by simp at h
 | (k,u)::l,0,v,b,h=>by
  simp only [List.getElem?_cons_zero,Option.some.injEq,Prod.mk.injEq] at h
  unfold bw
  rw [if_pos (by rw [h.1];exact MK.Vi _),h.1]
  rfl
 | (k,u)::l,j+1,v,b,h=>by
  obtain⟨c,d⟩:=List.pairwise_cons.1 b
  rw [List.getElem?_cons_succ] at h
  unfold bw
  rw [if_neg λf=>c _ (B2 h) (MK.V5.1 f),x9 d h]
  rfl
def uk (x:MK) (n:Int):∀ l,∀ p∈bw l x n,p=(x,n)∨p∈l
 | [],p,h=>by simp only [bw,A1] at h;exact .inl h
 | (k,v)::l,p,h=>by
  unfold bw at h
  split at h
  ·rename_i b
   rw [MK.V5.1 b] at h
   rcases List.mem_cons.1 h with h|h
   ·exact .inl h
   ·exact .inr (Ak _ h)
  ·rcases List.mem_cons.1 h with h|h
   ·exact .inr (by rw [h];exact Ac ..)
   ·exact (uk x n l p h).imp id λh=>Ak _ h
def ry (x:MK) (n:Int):∀ l:List (MK×Int),l.Pairwise (λp q=>p.1≠q.1)->(bw l x n).Pairwise (λp q=>p.1≠q.1)
 | [],_=>by simp [bw]
 | (k,v)::l,h=>by
  obtain⟨b,c⟩:=List.pairwise_cons.1 h
  unfold bw
  split
  ·exact List.pairwise_cons.2 ⟨b,c⟩
  ·rename_i d
   refine List.pairwise_cons.2 ⟨λp f=>?_,ry x n l c⟩
   rcases uk x n l p f with h|h
   ·rw [h];exact λi=>d<|MK.V5.2 i
   ·exact b p h
structure JE (P:Program) (t:TypeId) (kd:Bool):Prop where
 ty:∃ kt et,P.underlying t=some (.map kt et)/\Keyed P kt/\(∀ key:MK,key.ok kd->∃ l,keyOf P kt key.val=some l)/\∀ w,(zeroValue et).run P w=.ok (.int .i64 0) w
def OJ:SV->Option MK
 | .d (.str s)=>some (.str s)
 | .agg [.d (.int .i64 a),.d (.int .i64 b)]=>some (.pair a b)
 | _=>none
def MK.kd:MK->Bool
 | .str _=>true
 | .pair _ _=>false
def Xh {X e w} {s:SV} {v:Value} {key:MK} (h:OJ s=some key) (b:Rel X e w s v):v=key.val/\key.ok key.kd:=by
 unfold OJ at h;split at h
 ·cases h;have b:Q0 _ _ _ _:=b;cases b;exact⟨rfl,rfl,by assumption⟩
 ·cases h;obtain⟨f,rfl,i⟩:=b;match f,i with
  | [j,l],⟨c,d,_⟩ =>
   have c:Q0 _ _ _ _:=c;have d:Q0 _ _ _ _:=d;cases c;cases d;exact⟨rfl,rfl,by assumption,by assumption⟩
 ·cases h
section
variable {Γ : Ctx} {k : Nat -> Prop} {L : Sl} {H : Hp} {K : cn} {ops : List Oper} {rest : List Oper} {a : Act} {w : World} {e : Env} {t t' ty : TypeId} {x y : Operand}
def fU (v:Value) (i:Nat):S6 v≠.mp i:=by unfold S6;split<;>simp
def uo {es:Array MapEntry} {kvs:List (MK×Int)} (h:es.toList.map (λx=>(x.key,x.val))=kvs.map (λp=>(p.1.val,Value.int .i64 p.2))) {j:Nat} {x:MapEntry} (d:es.toList[j]?=some x):∃ p,kvs[j]?=some p/\x.key=p.1.val/\x.val=.int .i64 p.2:=by
 have b:(es.toList.map<|λx=>(x.key,x.val))[j]?=some (x.key,x.val):=by rw [Bh,d];rfl
 rw [h,Bh] at b;cases c:kvs[j]? with
 | none=>rw [c] at b;cases b
 | some p =>
  rw [c] at b;simp only [B1,Option.some.injEq,Prod.mk.injEq] at b;exact⟨p,rfl,b.1.symm,b.2.symm⟩
def wK {es:Array MapEntry} {kvs:List (MK×Int)} (h:es.toList.map (λx=>(x.key,x.val))=kvs.map (λp=>(p.1.val,Value.int .i64 p.2))) {x:MapEntry} (b:x∈es.toList):∃ p∈kvs,x.key=p.1.val/\x.val=.int .i64 p.2:=by obtain⟨j,c⟩:=List.mem_iff_getElem?.1 b;obtain⟨p,d,f⟩:=uo h c;exact⟨p,B2 d,f⟩
def Zv {P:Program} {f:TypeId} {kd:Bool} {kvs:List (MK×Int)} {es:Array MapEntry} (K:Keyed P f) (o:∀ key:MK,key.ok kd->∃ l,keyOf P f key.val=some l) (i:es.toList.map (λx=>(x.key,x.val))=kvs.map (λp=>(p.1.val,Value.int .i64 p.2)))
  (v:kvs.Pairwise λp q=>p.1≠q.1) (r:∀ p∈kvs,p.1.ok kd/\(Lit.int .i64 p.2).wf=true) {key:MK} (z:key.ok kd) (w:World) :
  ((Instr.findKey f key.val es.toList).run P w=.ok none w/\K2 kvs key=none/\∀ p∈kvs,p.1≠key)∨∃ j x n,(Instr.findKey f key.val es.toList).run P w=.ok (some (j,.int .i64 n)) w/\es.toList[j]?=some x/\x.key=key.val/\kvs[j]?=some (key,n)/\K2 kvs key=some n/\(Lit.int .i64 n).wf=true:=by
 obtain⟨l,A⟩:=o key z;have B:∀ e∈es.toList,∃ l,keyOf P f e.key=some l:=λx h=>by
  obtain⟨p,b,c,_⟩:=wK i h;rw [c];exact o _ (r p b).1
 rcases K.find w A es.toList B with ⟨b,c⟩|⟨j,x,b,c,s⟩
 ·have u:∀ p∈kvs,p.1≠key:=λp C E=>by
   obtain⟨j,F⟩:=List.mem_iff_getElem?.1 C;have d:(es.toList.map<|λx=>(x.key,x.val))[j]?=some (p.1.val,Value.int .i64 p.2):=by rw [i,Bh,F];rfl
   rw [Bh] at d;cases h:es.toList[j]? with
   | none=>rw [h] at d;cases d
   | some x =>
    rw [h] at d;simp only [B1,Option.some.injEq,Prod.mk.injEq] at d;exact c x (B2 h)<|by rw [d.1,E]
  exact .inl ⟨b,Po u,u⟩
 ·obtain⟨p,m,G,I⟩:=uo i c;have J:p.1=key:=MK.val_inj (by rw [<- G,s]);obtain⟨M,n⟩:=p;subst J;rw [I] at b;exact .inr ⟨j,x,n,b,c,s,m,Oo v (B2 m),(r _<|B2 m).2⟩
def Rn {es:Array MapEntry} {c:Nat} {k v:Value} (h:yx es c):yx (es.push ⟨k,v,c⟩) (c+1):=by
 refine⟨?_,λx b=>?_⟩
 ·rw [Gf];refine List.pairwise_append.2 ⟨h.1,Dc _ _,λx b y d=>?_⟩;rw [A1] at d;subst d;have:=h.2 x b
  dsimp only;omega
 ·rw [Gf] at b;rcases List.mem_append.1 b with b|b
  ·have:=h.2 x b;omega
  ·rw [A1] at b;subst b;exact Nat.lt_succ_self _
def AE {es:Array MapEntry} {j:Nat} {f:MapEntry->MapEntry} (c:∀ x,(f x).born=x.born):(es.modify j f).toList.map (·.born)=es.toList.map (·.born):=by
 apply Ce;intro q;rw [Bh,Bh,Bt,Bt,Array.getElem?_modify];by_cases b:j=q
 ·rw [if_pos b];cases es[q]? with
  | none=>rfl
  | some x=>simp [c]
 ·rw [if_neg b]
def ur {es:Array MapEntry} {b j:Nat} {f:MapEntry->MapEntry} (h:yx es b) (l:∀ x,(f x).born=x.born):yx (es.modify j f) b:=by
 have c:=AE (es:=es) (j:=j) l;have d:(es.toList.map (·.born)).Pairwise (·≠·):=List.pairwise_map.2 h.1;rw [<- c] at d;refine⟨List.pairwise_map.1 d,λx m=>?_⟩
 have i:x.born∈(es.modify j f).toList.map (·.born):=List.mem_map.2 ⟨x,m,rfl⟩;rw [c] at i;obtain⟨y,n,o⟩:=List.mem_map.1 i;rw [<- o];exact h.2 y n
def MU:(Lit.int .i64 0).wf=true:=by decide
def Wh {P:Program} {kd:Bool} {kvs:List (MK×Int)} {key:MK} (T:JE P t kd) (c:Bool) {w:World} {b:Nat} (r:W6 w b kd kvs) (h:key.ok kd) :
  (Instr.lookup t (.map (some b)) key.val c).run P w=.ok (if c then .tuple #[.int .i64 ((K2 kvs key).getD 0),.bool (K2 kvs key).isSome] else .int .i64 ((K2 kvs key).getD 0)) w/\(Lit.int .i64 ((K2 kvs key).getD 0)).wf=true:=by
 obtain⟨B,C,i,K,m,s⟩:=T.ty;obtain⟨⟨E,F,o,u,G⟩,v,z⟩:=r;obtain⟨l,p⟩:=m key h;rcases Zv K m u v z h w with ⟨f,d,_⟩|⟨j,I,n,f,_,_,_,d,A⟩
 ·refine⟨?_,by rw [d];exact MU⟩
  simp [Instr.lookup,run_underlying i,MapKept.run_getObj_map o,K.check w _ p,f,s w,d,Result.andThen]
 ·refine⟨?_,by rw [d];exact A⟩
  simp [Instr.lookup,run_underlying i,MapKept.run_getObj_map o,K.check w _ p,f,d,Result.andThen]
def vD (H:Hp) (s:SV) (kd:Bool) (kvs:List (MK×Int)):Prop:=match s with
 | .mp i=>Hp.get H i=some (.map kd kvs)
 | .md b c=>b=kd/\c=kvs
 | _=>False
def MY (v:Value) (kd:Bool) (kvs:List (MK×Int)):S6 v≠.md kd kvs:=by unfold S6;split<;>simp
def oO {kd:Bool} {kvs:List (MK×Int)} (m:J0 Γ k L H e a w) (h:vD H (aj L x) kd kvs):∃ b,a.eval x=.map (some b)/\b<w.heap.size/\W6 w b kd kvs:=by
 unfold vD at h;split at h
 ·rename_i i c;obtain⟨_,d⟩:=Q5 m c (fU · _);exact⟨_,d,m.toHeap.lt (e.β i) (List.mem_filterMap.2 ⟨_,Hp.mem_of h,rfl⟩),(m.heap _<|Hp.mem_of h).2⟩
 ·rename_i n o c;obtain⟨rfl,rfl⟩:=h;obtain⟨b,f,j,_,l⟩:=Q5 m c (MY · _ _);exact⟨b,f,j,l⟩
 ·exact h.elim
def kP {kd:Bool} {kvs:List (MK×Int)} {key:MK} (T:JE Γ.P t kd) (i:vD H (aj L x) kd kvs) (j:OJ (aj L y)=some key) (l:key.kd=kd) (n:de y=true) :
  Ev Γ k L H (.lookup t x y false) ty (.d (.int .i64 ((K2 kvs key).getD 0))):=by
 intro e a w m;obtain⟨b,o,p,f⟩:=oO m i;obtain⟨r,c⟩:=Xh j<|m.op y<|cd n;rw [l] at c;refine⟨.int .i64 ((K2 kvs key).getD 0),λ_ _ _ _ v s=>?_,.int (Wh T false f c).2⟩
 have u:=(Wh T false (f.N1 λ_ _ h=>(s.block _ p).trans h) c).1;simp only [execOp,o,r,Sem.run_bind,Sem.run_pure,u,Result.andThen_ok];rfl
def YN {d z:Nat} {kd:Bool} (c:¬ k z) (j:Av d Γ.n=true):P6 Γ ⟨some d,.makeMap t none,ty,pos,af,g⟩ k L H (oa k z) ((d,.mp z)::L) ((z,.map kd [])::H):=by
 intro e a w Q m;have l:¬ e.U4 z:=λh=>c<|(m.top z).1 h
 have o:(execOp a.eval ⟨some d,.makeMap t none,ty,pos,af,g⟩).run Γ.P w=.ok (.value<|.map<|some w.heap.size) (w.alloc<|.map #[] 0):=by
  simp only [execOp,Option.map_none,Sem.run_bind,run_makeMap,Result.andThen_ok,Sem.run_pure]
 unfold Oper.wp;rw [o];have p:=m.new c (hb:=.map kd []) (e':=e.bind z w.heap.size) (w':=w.alloc<|.map #[] 0) (λi=>or_congr (m.top i) Iff.rfl) (e.Nz _ _ l) ⟨(Below.refl _ _).alloc (Af _) _,λ_=>Af _⟩
  (λb f=>by simp [HB.owned,Env.bind] at f;omega) (λ_=>⟨⟨#[],0,by show (w.alloc<|.map #[] 0).heap[(e.bind z w.heap.size).β z]?=_;rw [show (e.bind z w.heap.size).β z=w.heap.size from if_pos rfl];exact (MapKept.heap_alloc w _).1,rfl,.nil,by simp⟩,.nil,by simp⟩)
 refine⟨_,p.put (s:=.mp z) (v:=.map<|some w.heap.size) (Ab j) ⟨.inr rfl,?_⟩⟩
 show _=Value.map (some<|if z=z then w.heap.size else e.β z);rw [if_pos rfl]
def XN {i:Nat} {kd:Bool} {kvs:List (MK×Int)} {key:MK} {n:Int} {u:Operand} {dst:Option Nat} (T:JE Γ.P t kd) (O:aj L x=.mp i) (hH:Hp.get H i=some (.map kd kvs)) (Q:OJ (aj L y)=some key) (R:key.kd=kd) (S:de y=true)
  (U:aj L u=.d (.int .i64 n)) (V:de u=true) (W:dst=none):P6 Γ ⟨dst,.mapUpdate t x y u,ty,pos,af,g⟩ k L H k L (Hp.set H i (.map kd (bw kvs key n))):=by
 subst W;intro e a w b1 m;obtain⟨kt,et,F,K,G,hz⟩:=T.ty;obtain⟨_,X⟩:=Q5 m O (fU · _);obtain⟨Y,o⟩:=Xh Q<|m.op y<|cd S;rw [R] at o;have f:=m.op u<|cd V;rw [U] at f;obtain⟨Z,a0⟩:a.eval u=.int .i64 n/\(Lit.int .i64 n).wf=true:=by
  have f:Q0 _ _ _ _:=f;generalize a.eval u=vu at f;cases f with
  | int h=>exact⟨rfl,h⟩
 have hM:W6 w (e.β i) kd kvs:=(m.heap _<|Hp.mem_of hH).2;have a1:=m.toHeap.lt (e.β i)<|List.mem_filterMap.2 ⟨_,Hp.mem_of hH,rfl⟩;obtain⟨⟨l,v,r,z,s⟩,A,I⟩:=hM;obtain⟨b2,B⟩:=G key o;have a2:∃ b c,(Instr.mapUpdate t (.map<|some<|e.β i) key.val<|.int .i64 n).run Γ.P w=.ok () { w with heap:=w.heap.setIfInBounds (e.β i) (.map b c) }/\b.toList.map (λx=>(x.key,x.val))=(bw kvs key n).map (λp=>(p.1.val,Value.int .i64 p.2))/\yx b c:=by
  rcases Zv K G z A I o w with ⟨C,_,E⟩|⟨j,J,n0,C,E,h3,h4,_,_⟩
  ·refine⟨l.push ⟨key.val,.int .i64 n,v⟩,v+1,?_,?_,Rn s⟩
   ·simp [Instr.mapUpdate,run_underlying F,MapKept.run_getObj_map r,K.check w false B,C,MapKept.run_setObj_map _ r,Result.andThen]
   ·rw [Rf E,Gf,Au,Au,z];rfl
  ·have M:l[j]?=some J:=by simpa using E
   have a3:j<l.size:=(Array.getElem?_eq_some_iff.1 M).1;refine⟨l.modify j λx=>{ x with key:=key.val,val:=.int .i64 n },v,?_,?_,ur s λ_=>rfl⟩
   ·have s:(Instr.keyThatStays (((l[j]?).map (·.key)).getD key.val) key.val).run Γ.P w=.ok key.val w:=by
     rw [M];show (Instr.keyThatStays J.key key.val).run Γ.P w=_;rw [h3];exact K.stays w B
    simp [Instr.mapUpdate,run_underlying F,MapKept.run_getObj_map r,K.check w false B,C,s,MapKept.run_setObj_map _ r,Result.andThen]
   ·rw [x9 A h4,List.map_set,<- z];apply Ce;intro q;by_cases N:q=j
    ·subst N;simp [a3]
    ·simp [Ne.symm N]
 obtain⟨b,c,hr,a4⟩:=a2;unfold Oper.wp;simp only [execOp,X,Y,Z,Sem.run_bind,Sem.run_pure,hr,Result.andThen_ok];refine⟨e,?_⟩
 have m2:=m.Ck (w':={ w with heap:=w.heap.setIfInBounds (e.β i) (.map b c) }) (b':=.map kd<|bw kvs key n) hH (by simp) rfl rfl rfl (λ_=>Af _) (λa5 hc a9=>?_) rfl ⟨⟨b,c,?_,a4⟩,ry _ _ _ A,λp hp=>?_⟩
 ·exact m2
 ·have b0:e.β i≠a5:=λh=>a9 (by simp [HB.owned,h])
  exact Array.getElem?_setIfInBounds_ne b0
 ·show (w.heap.setIfInBounds (e.β i)<|.map b c)[e.β i]?=_;simp [a1]
 ·rcases uk key n kvs p hp with h|h
  ·rw [h];exact⟨o,a0⟩
  ·exact I p h
end
section
variable {Γ : Ctx} {k : Nat} {L : Sl} {H : Hp} {K : cn} {ops : List Oper} {rest : List Oper} {t t' ty : TypeId} {x y : Operand} {q : Bool}
def wg {kd:Bool} {kvs:List (MK×Int)} {key:MK} {d:Nat} (T:JE Γ.P t kd) (b:vD H (aj L x) kd kvs) (c:OJ (aj L y)=some key) (f:key.kd=kd) (h:de y=true)
  (i:ap ops L g=some true) (j:Av d Γ.n=true) (l:DS q Γ ops rest K k ((d,.d (.int .i64 ((K2 kvs key).getD 0)))::L) H):DS q Γ ops (⟨some d,.lookup t x y false,ty,pos,af,g⟩::rest) K k L H:=
 iv (kP T b c f h) i j l
def zT {t i:Nat} {kd:Bool} {kvs:List (MK×Int)} {H':Hp} (n:L.get t=.mp i) (hH:Hp.get H i=some (.map kd kvs)) (f:zh H i some=some H'):X7 Γ k L H k ((t,.md kd kvs)::L) H':=by
 rw [ny] at f;cases f;intro e a w m;obtain⟨c,u⟩:=m.del i;have d:=Hp.mem_of hH;have h:e.β i∈ah e H:=List.mem_filterMap.2 ⟨_,d,rfl⟩;refine⟨e,c.toHeap,c.defers,c.len,λt'=>?_⟩
 rw [Sl.C1];split
 ·rename_i o;subst o;have j:=m.slot t;rw [n] at j;refine⟨e.β i,j.2,m.toHeap.lt _ h,λb=>?_,(m.heap _ d).2⟩
  rcases b with b|b
  ·exact (m.M3 _ h).2 b
  ·obtain⟨p,r,s⟩:=List.mem_filterMap.1 b;have l:=Hp.N6 (i:=i) H m.ids p r;exact m.O5 l.1 d l.2 s rfl
 ·exact c.slot t'
def Rm (kd:Bool) {d:Nat} (b:ap ops L g=some true) (c:Av d Γ.n=true)
  (f:DS false Γ ops rest K (k+1) ((d,.mp k)::L) ((k,.map kd [])::H)):DS false Γ ops (⟨some d,.makeMap t none,ty,pos,af,g⟩::rest) K k L H:=
 Va b ((YN (ir k) c).cast<|gv k) f
def CP (i:Nat) {kd:Bool} {kvs:List (MK×Int)} {key:MK} {n:Int} {u:Operand} {H':Hp} (T:JE Γ.P t kd) (c:aj L x=.mp i) (hH:Hp.get H i=some (.map kd kvs)) (f:OJ (aj L y)=some key) (h:key.kd=kd) (j:de y=true)
  (l:aj L u=.d (.int .i64 n)) (m:de u=true) (b:zd H i (.map kd (bw kvs key n)) some=some H') (o:ap ops L g=some true)
  (p:DS false Γ ops rest K k L H'):DS false Γ ops (⟨none,.mapUpdate t x y u,ty,pos,af,g⟩::rest) K k L H:=by
 rw [k9] at b;cases b;exact Va o (XN T c hH f h j l m rfl) p
end
def kf (i:Z1):MK:=.pair i.J1 i.L1
def PS {i j:Z1} (h:kf i=kf j):i=j:=by cases i;cases j;simp only [kf,MK.pair.injEq] at h;rw [h.1,h.2]
def RG (i j:Z1):(kf i).BH (kf j)=i.same j:=by rw [D6,MK.V5,X3];exact⟨PS,λh=>by rw [h]⟩
def Y4 (m:List (MK×Int)) (i:Z1):Bool:=decide ((K2 m<|kf i).getD 0=1)
def U9 (m:List (MK×Int)) (i j:Z1):Y4 (bw m (kf i) 1) j=(i.same j||Y4 m j):=by unfold Y4;rw [s6,RG];cases i.same j<;>simp
def xc (I0:List X0) (i:Z1):List Z1:=match I0.find? λu=>u.id.same i with
 | some u=>cq u
 | none=>[]
def WE {I0:List X0} {i j:Z1} (h:j∈xc I0 i):∃ u∈I0,u.id=i/\j∈cq u:=by
 unfold xc at h;split at h
 ·rename_i u b;exact⟨u,F8 b,X3.1 (Ij (p:=λu:X0=>u.id.same _) b),h⟩
 ·cases h
def Oe {I0:List X0} (d:W3 I0) {u:X0} (c:u∈I0):xc I0 u.id=cq u:=by
 unfold xc;split
 ·rename_i v b;rw [d.uniq (F8 b) c<|X3.1<|Ij (p:=λu:X0=>u.id.same _) b]
 ·rename_i b;exact absurd (X3.2 rfl)<|List.find?_eq_none.1 b u c
def fe (I0:List X0):Nat->List (MK×Int)->Z1->List (MK×Int)
 | 0,m,_=>m
 | n+1,m,i=>if R1 I0 i=false∨Y4 m i=true then m else (xc I0 i).foldl (fe I0 n) (bw m (kf i) 1)
def Z9 (I0:List X0) (m:List (MK×Int)):Nat:=bI I0 λu=>!Y4 m u.id
def zC (m m':List (MK×Int)):Prop:=∀ i,Y4 m i=true->Y4 m' i=true
def OG {I0:List X0} {m m':List (MK×Int)} (h:zC m m'):Z9 I0 m'<=Z9 I0 m:=by
 unfold Z9 bI;rw [<- Fq,<- Fq];refine List.countP_mono_left λu _ b=>?_
 cases c:Y4 m u.id with
 | false=>rfl
 | true=>rw [h _ c] at b;cases b
def zC.set (m:List (MK×Int)) (i:Z1):zC m (bw m (kf i) 1):=λj b=>by rw [U9,b,Bool.or_true]
def LB {I0:List X0} {m:List (MK×Int)} {i:Z1} (h:R1 I0 i=true) (c:Y4 m i=false):Z9 I0 (bw m (kf i) 1)<Z9 I0 m:=by
 obtain⟨u,d,rfl⟩:=Y2.1 h;refine JK (λv _ b=>?_) ⟨u,d,by rw [U9,X3.2 rfl];rfl,by rw [c];rfl⟩;cases f:Y4 m v.id with
 | false=>rfl
 | true=>rw [zC.set m _ _ f] at b;cases b
structure M7 (I0:List X0) (m m':List (MK×Int)):Prop where
 more:zC m m'
 closed:∀ u∈I0,Y4 m' u.id=true->Y4 m u.id=false->∀ j∈cq u,R1 I0 j=true->Y4 m' j=true
def M7.refl (I0:List X0) (m:List (MK×Int)):M7 I0 m m:=⟨λ_ h=>h,λu _ h b=>by rw [h] at b;cases b⟩
def M7.trans {I0:List X0} {a b c:List (MK×Int)} (h:M7 I0 a b) (g:M7 I0 b c):M7 I0 a c:=by
 refine⟨λi n=>g.more i (h.more i n),λu d o p j f l=>?_⟩
 cases m:Y4 b u.id with
 | true=>exact g.more _<|h.closed u d m p j f l
 | false=>exact g.closed u d o m j f l
def Vg {I0:List X0} {n:Nat} (c:∀ m i,Z9 I0 m<n->M7 I0 m (fe I0 n m i)/\(R1 I0 i=true->Y4 (fe I0 n m i) i=true)) :
  ∀ (l:List Z1) (m:List (MK×Int)),Z9 I0 m<n->M7 I0 m (l.foldl (fe I0 n) m)/\∀ i∈l,R1 I0 i=true->Y4 (l.foldl (fe I0 n) m) i=true
 | [],m,_=>⟨M7.refl I0 m,λ_ h=>by cases h⟩
 | i::l,m,h=>by
  obtain⟨d,p⟩:=c m i h
  obtain⟨f,r⟩:=Vg c l _<|Hn (OG d.more) h
  refine⟨d.trans f,λj b o=>?_⟩
  rcases List.mem_cons.1 b with rfl|b
  ·exact f.more _<|p o
  ·exact r j b o
def Zj {I0:List X0} (l:W3 I0):∀ (n:Nat) (m:List (MK×Int)) (i:Z1),Z9 I0 m<n->M7 I0 m (fe I0 n m i)/\(R1 I0 i=true->Y4 (fe I0 n m i) i=true)
 | 0,_,_,h=>absurd h (A2 _)
 | n+1,m,i,h=>by
  unfold fe;split
  ·rename_i b;refine⟨M7.refl I0 m,λv=>?_⟩
   rcases b with b|b
   ·rw [v] at b;cases b
   ·exact b
  ·rename_i b;have z:R1 I0 i=true:=by cases c:R1 I0 i with|true=>rfl|false=>exact absurd (.inl c) b
   have A:Y4 m i=false:=by cases c:Y4 m i with|false=>rfl|true=>exact absurd (.inr c) b
   have E:=LB z A;obtain⟨f,o⟩:=Vg (Zj l n) (xc I0 i) (bw m (kf i) 1) (by omega);refine⟨⟨λj d=>f.more j (zC.set m i j d),λu p B C j d r=>?_⟩,λ_=>f.more i<|by rw [U9,X3.2 rfl];rfl⟩
   by_cases s:u.id=i
   ·subst s;rw [Oe l p] at o ⊢;exact o j d r
   ·refine f.closed u p B ?_ j d r;rw [U9,C,Bool.or_false];cases c:i.same u.id with
    | false=>rfl
    | true=>exact absurd (X3.1 c).symm s
def Ms {I0:List X0} {R:Z1->Prop} (c:∀ u∈I0,R u.id->∀ j∈cq u,R1 I0 j=true->R j):∀ (n:Nat) (m:List (MK×Int)) (i:Z1),(R1 I0 i=true->R i)->∀ j,Y4 (fe I0 n m i) j=true->Y4 m j=true∨R j
 | 0,_,_,_,_,h=>.inl h
 | n+1,m,i,d,j,h=>by
  unfold fe at h;split at h
  ·exact .inl h
  ·rename_i p;have f:R1 I0 i=true:=by cases r:R1 I0 i with|true=>rfl|false=>exact absurd (.inl r) p
   have s:∀ (l:List Z1) (m:List (MK×Int)),(∀ k∈l,R1 I0 k=true->R k)->∀ j,Y4 (l.foldl (fe I0 n) m) j=true->Y4 m j=true∨R j:=by
    intro l;induction l with
    | nil=>intro m _ j h;exact .inl h
    | cons k l ih =>
     intro m o j h;rcases ih _ (λq v=>o q<|Ak _ v) j h with b|b
     ·exact Ms c n m k (o k<|Ac ..) j b
     ·exact .inr b
   rcases s _ _ (λk z A=>by
    obtain⟨u,B,C,E⟩:=WE z;exact c u B (by rw [C];exact d f) k E A) j h with b|b
   ·rw [U9,Bool.or_eq_true] at b;rcases b with b|b
    ·exact .inr<|X3.1 b▸d f
    ·exact .inl b
   ·exact .inr b
def Jb (I0:List X0) (l:List Z1):List (MK×Int):=l.foldl (fe I0<|I0.length+1) []
def NG (I0:List X0) (m:List (MK×Int)):Z9 I0 m<I0.length+1:=Nat.lt_succ_of_le<|List.length_filter_le _ _
def Pj {I0:List X0} (p:W3 I0) (l:List Z1) (i:Z1):Y4 (Jb I0 l) i=true↔Reach I0 l i:=by
 obtain⟨r,s⟩:=Vg (Zj p<|I0.length+1) l []<|NG I0 [];constructor
 ·intro h;have v:∀ (c:List Z1) (m:List (MK×Int)),(∀ k∈c,k∈l)->∀ j,Y4 (c.foldl (fe I0<|I0.length+1) m) j=true->Y4 m j=true∨Reach I0 l j:=by
   intro c;induction c with
   | nil=>intro m _ j h;exact .inl h
   | cons k c ih =>
    intro m o j h;rcases ih _ (λq z=>o q<|Ak _ z) j h with b|b
    ·exact Ms (λu d A j f n=>.step u d A j f n) _ m k (λB=>.base k (o k<|Ac ..) B) j b
    ·exact .inr b
  rcases v l [] (λ_ h=>h) i h with b|b
  ·cases b
  ·exact b
 ·intro h;induction h with
  | base i h C=>exact s i h C
  | step u d _ j f n ih=>exact r.closed u d ih rfl j f n
end
section
open Go Go.RowKit
open Go.Maps (Keyed)
variable [Y0]
def DD (P:Program) (t:TypeId):Bool:=match P.underlying t with
 | some (.int .i64)=>true
 | _=>false
def Yo {P:Program} {t:TypeId} (h:DD P t=true):P.underlying t=some (.int .i64):=by
 unfold DD at h;split at h
 ·assumption
 ·cases h
def GC (P:Program) (t:TypeId):Bool:=match P.info? t with
 | some i=>match i.zero with
  | some (.int .i64 n)=>decide (n=0)
  | _=>false
 | none=>false
def FC {P:Program} {t:TypeId} (h:GC P t=true) (w:World):(zeroValue t).run P w=.ok (.int .i64 0) w:=by
 unfold GC at h;split at h
 ·rename_i i b;split at h
  ·rename_i n c;have d:=of_decide_eq_true h;subst d;simp [zeroValue,typeInfo,b,c]
  ·cases h
 ·cases h
def OS (P:Program) (k:TypeId):Bool:=match P.underlying k with
 | some (.struct b)=>match b.toList with
  | [f0, f1] => b.all (·.name != "_")&&(DD P f0.type&&(DD P f1.type&&(Az f0.offset 0&&(Az f1.offset 1&&(Az (P.cellsOf k) 2&&(Az (P.cellsOf f0.type) 1&&(Az (P.cellsOf f1.type) 1&&(Nat.ble 1 P.types.size&&(P.keyType k&&(P.keyTypeAt 2 k&&Av k P.types.size))))))))))
  | _=>false
 | _=>false
def NJ {P:Program} {k:TypeId} (z:laidOutB P=true) (h:OS P k=true):Keyed P k/\∀ key:MK,key.ok false->∃ l,keyOf P k key.val=some l:=by
 unfold OS at h;split at h
 ·rename_i A d;split at h
  ·rename_i f0 f1 u;simp only [Ae] at h;obtain⟨B,f,i,j,n,c,o,p,r,C,E,F⟩:=h;have f:=Yo f;have i:=Yo i;have j:=Ao j;have n:=Ao n;have c:=Ao c;have o:=Ao o;have p:=Ao p;have G:(match P.underlying k with|some (.array _ _)|some (.struct _)=>true|_=>false)=true:=by rw [d]
   refine⟨Keyed.of_law (deep_law_laid z (m:=2) (by decide) (Ab F) E G),λkey v=>?_⟩
   cases key with
   | str s=>obtain⟨h,_⟩:=v;cases h
   | pair a b =>
    obtain⟨_,I,J⟩:=v;obtain⟨m,r⟩:∃ m,P.types.size=m+1:=⟨P.types.size-1,by have:=Ab r;omega⟩;unfold keyOf;simp only [d];have N:A.size=2:=by have:=congrArg B0 u;simpa using this
    have M:(MK.pair a b).val.formed P k=true:=by
     unfold Value.formed MK.val;simp [d,c]
    rw [C,M,Bool.and_self,if_pos rfl,r];refine⟨.string (keyBytes [.int .i64 a,.int .i64 b]),?_⟩
    unfold Program.keyLits;simp only [d,MK.val,Value.cells];rw [if_pos ⟨by simp [c],B⟩,u,Fz,Fz,List.mapM_nil];simp [j,n,o,p,Program.keyLits,f,i,I,J]
  ·cases h
 ·cases h
def kX (P:Program) (t:TypeId):Bool:=match P.underlying t with
 | some (.map k e)=>OS P k&&GC P e
 | _=>false
def kO {P:Program} {t:TypeId} (b:laidOutB P=true) (h:kX P t=true):JE P t false:=by
 unfold kX at h;split at h
 ·rename_i k e c;rw [Ae] at h;obtain⟨K,d⟩:=NJ b h.1;exact⟨⟨k,e,c,K,d,FC h.2⟩⟩
 ·cases h
def vZ:laidOutB prog=true:=by kernel_rfl
def ul:JE prog 171 false:=kO vZ<|by kernel_rfl
abbrev CX (I0:List X0) (m:List (MK×Int)):Hp:=[(0,.M1 216 [.s 5 (I0.map ak),.mp 1]),(1,.map false m)]
def PX {l:List X0} (d:W3 l) {i:Z1} (h:R1 l i=true):∃ f:M9 l i<l.length,(l[M9 l i]'f).id=i:=by
 obtain⟨u,j,rfl⟩:=Y2.1 h;obtain⟨p,b,rfl⟩:=List.mem_iff_getElem.1 j;have m:M9 l l[p].id=p:=by
  refine JL (Nat.le_of_lt b) (λq c n=>List.pairwise_iff_getElem.1 d q p c b n) λq c r=>?_
  by_cases o:p=q
  ·subst o;rw [xz];exact Int.le_refl _
  ·have s:=List.pairwise_iff_getElem.1 d p q b c (by omega);have v:=x5 l[q].id l[p].id;omega
 exact⟨by omega,by simp only [m]⟩
attribute [local irreducible] DW DS DL DQ Ev X1 I3 du bl DT
def bL (I0:List X0) (G:I0.length<=1000000) (c:W3 I0) (v:∀ u∈I0,u.P0.length+u.V0.length<=1000000):∀ (n:Nat) (m:List (MK×Int)) (i:Z1),Z9 I0 m<n ->
  X1 false prog U5 bt 176 [.loc 0 0,o5 i] 2 2 (CX I0 m) (λz r A=>z=2/\r=.M2 []/\A=CX I0 (fe I0 n m i))
 | 0,_,_,h=>absurd h (A2 _)
 | n+1,m,i,h=>by
  have S:(I0.map ak).length=I0.length:=Aa _;refine T8 func176 ?_;intro O T U V;have o:=kU I0 i G c;cases d:R1 I0 i with
  | false =>
   rw [d] at o;have f:fe I0 (n+1) m i=m:=by unfold fe;rw [if_pos<|.inl d]
   rw [f];repeat' (first|refine zr ?_|refine z22 ?_ o|fail)
   exact⟨.inl rfl,_,rfl,kp id 2 _ (CX I0 m) ⟨rfl,rfl,rfl⟩⟩
  | true =>
   rw [d] at o;obtain⟨l,I⟩:=PX c d;repeat' ((fail_if_success (apply br 2));(first|refine zs ?_|refine z22 ?_ o|fail))
   refine lz 8 (by kernel_rfl) (by kernel_rfl) (by kernel_rfl) rfl rfl rfl ?_;refine zS ?_;refine wg (kd:=false) (kvs:=m) (key:=kf i) ul rfl rfl rfl rfl rfl rfl ?_;refine zS ?_;by_cases p:(K2 m<|kf i).getD 0=1
   ·have f:fe I0 (n+1) m i=m:=by unfold fe;rw [if_pos<|.inr<|decide_eq_true p]
    rw [f];repeat' (first|refine zr ?_|(refine zm ?_ ?_<;>intro B)|fail)
    all_goals try (exfalso;exact absurd p<|by assumption)
    exact⟨.inl rfl,_,rfl,kp id 2 _ (CX I0 m) ⟨rfl,rfl,rfl⟩⟩
   ·have C:Y4 m i=false:=decide_eq_false p;have W:=LB d C;obtain⟨b,E⟩:∃ b,b=xc I0 i:=⟨_,rfl⟩;have f:fe I0 (n+1) m i=b.foldl (fe I0 n) (bw m (kf i) 1):=by
     unfold fe;rw [if_neg (λh=>by rcases h with h|h;(rw [d] at h;cases h);(rw [C] at h;cases h)),E]
    rw [f];have F:=Qs (I0[M9 I0 i]'l)<|v _<|Ah l;rw [show cq (I0[M9 I0 i]'l)=b by rw [E,<- Oe c (Ah l),I]] at F;repeat' ((fail_if_success (apply br 3));(first|refine zr ?_|(refine zm ?_ ?_<;>intro B)|fail))
    all_goals try (exfalso;exact absurd (by assumption) p)
    refine lz 5 (by kernel_rfl) (by kernel_rfl) (by kernel_rfl) rfl rfl rfl ?_;refine zS ?_;refine CP 1 (kd:=false) (kvs:=m) (key:=kf i) (n:=1) ul rfl rfl rfl rfl rfl rfl rfl rfl rfl ?_;have M:(b.map ay).length=b.length:=Aa _;repeat' (first|refine zs ?_|refine z21 ?_ F|omega)
    have X:b.length<=1000000:=by
     have:=v _<|Ah l
     rw [E,<- I,Oe c<|Ah l];unfold cq;rw [Ag];exact this
    clear o F p C f;have N:∀ j,Z9 I0 ((b.take j).foldl (fe I0 n)<|bw m (kf i) 1)<n:=λj =>
     Hn (OG (Vg (Zj c n) (b.take j) (bw m (kf i) 1)<|by omega).1.more) (by omega)
    refine ae (ι:=Nat) (λj=>⟨2,[(0,.loc 0 0),(40,.s 2<|b.map ay),(41,.i b.length),(42,.i j)],CX I0<|(b.take j).foldl (fe I0 n)<|bw m (kf i) 1⟩)
     (λj=>j<=b.length) (λj=>b.length-j) 0 (Ai _) (er id ⟨rfl,rfl,by rw [<- M];rfl,rfl,trivial⟩) ?_
    intro j P;dsimp only at P ⊢;by_cases J:j<b.length
    ·have Q:=bL I0 G c v n ((b.take j).foldl (fe I0 n)<|bw m (kf i) 1) b[j]<|N j;have R:fe I0 n ((b.take j).foldl (fe I0 n)<|bw m (kf i) 1) b[j]=(b.take<|j+1).foldl (fe I0 n) (bw m (kf i) 1):=by rw [Am J,Ea];rfl
     repeat' (first|refine zs ?_|(refine zm ?_ ?_<;>intro B)|omega)
     (refine aw id (Q) rfl rfl rfl rfl ⟨rfl,rfl,trivial⟩ rfl rfl rfl rfl rfl rfl ?_ ?_)
     ·rintro z res A ⟨rfl,rfl,rfl⟩;exact⟨rfl,rfl⟩
     rintro z res A ⟨rfl,rfl,rfl⟩;change DS _ _ _ _ _ _ _ _;rw [R];refine zS ?_;exact⟨j+1,J,er id,by omega⟩
    ·rw [Aj<|by omega];repeat' (first|refine zs ?_|(refine zm ?_ ?_<;>intro B)|omega)
     exact⟨.inr rfl,_,rfl,id,2,_,CX I0 (b.foldl (fe I0 n)<|bw m (kf i) 1),rfl,⟨rfl,rfl,trivial⟩,rfl,rfl,rfl,rfl,rfl,rfl,rfl,rfl,rfl⟩
def rC (I0:List X0) (b:List Z1) (d:I0.length<=1000000) (hi:b.length<=1000000) (f:W3 I0) (h:∀ u∈I0,u.P0.length+u.V0.length<=1000000) :
  Fn 129 [.s 5 (I0.map ak),.s 2 (b.map ay)] (λr=>r=.md false (Jb I0 b)):=by
 refine J2 func129 ?_;intro O v z A;have l:(b.map ay).length=b.length:=Aa _;refine zS ?_;refine Rm false rfl rfl ?_;refine zS ?_;refine ae (ι:=Nat) (λj=>⟨2,[(5,.loc 0 0),(12,.s 2<|b.map ay),(13,.i b.length),(14,.i j)],CX I0<|(b.take j).foldl (fe I0<|I0.length+1) []⟩)
  (λj=>j<=b.length) (λj=>b.length-j) 0 (Ai _) (er (λj=>match j with|0=>1|1=>0|j=>j) ⟨rfl,rfl,by rw [<- l];rfl,rfl,trivial⟩) ?_
 intro j m;dsimp only at m ⊢;by_cases c:j<b.length
 ·have n:=bL I0 d f h (I0.length+1) ((b.take j).foldl (fe I0<|I0.length+1) []) b[j]<|NG _ _;have o:fe I0 (I0.length+1) ((b.take j).foldl (fe I0<|I0.length+1) []) b[j]=(b.take<|j+1).foldl (fe I0<|I0.length+1) []:=by rw [Am c,Ea];rfl
  repeat' (first|refine zr ?_|(refine zm ?_ ?_<;>intro p)|omega)
  (refine aw id (n) rfl rfl rfl rfl ⟨rfl,rfl,trivial⟩ rfl rfl rfl rfl rfl rfl ?_ ?_)
  ·rintro k2 res H2 ⟨rfl,rfl,rfl⟩;exact⟨rfl,rfl⟩
  rintro k2 res H2 ⟨rfl,rfl,rfl⟩;change DS _ _ _ _ _ _ _ _;rw [o];refine zS ?_;exact⟨j+1,c,er id,by omega⟩
 ·rw [Aj<|by omega];repeat' (first|refine zs ?_|(refine zm ?_ ?_<;>intro p)|omega)
  refine ag (zT (t:=4) (i:=1) rfl rfl rfl) ?_;repeat' (apply cr)
  exact⟨.inl rfl,_,rfl,rfl,rfl⟩
def DN (I0:List X0) (u:X0) (d:I0.length<=1000000) (f:W3 I0) (h:∀ u∈I0,u.P0.length+u.V0.length<=1000000) (c:u.P0.length+u.V0.length<=1000000) :
  Fn 138 ([fg u]++[.pd [.slice 5 (I0.map ak)]]) (λr=>r=.b (Y4 (Jb I0 (cq u)) u.id)):=by
 refine J2 func138 ?_;intro O l m n;have i:=Qs u c;have j:=rC I0 (cq u) d (by unfold cq;rw [Ag];exact c) f h;repeat' ((fail_if_success (apply br 1));(first|refine zs ?_|fail))
 refine lz 6 (by kernel_rfl) (by kernel_rfl) (by kernel_rfl) rfl rfl rfl ?_;repeat' (first|refine zs ?_|refine z22 ?_ i|refine z22 ?_ j|fail)
 refine wg (kd:=false) (kvs:=Jb I0<|cq u) (key:=kf u.id) ul ⟨rfl,rfl⟩ rfl rfl rfl rfl rfl ?_;refine zR ?_;exact bi rfl rfl
def Xl {f:FuncId} {caps:List SV} (p:X0->Bool) (l:List (X0)) (m:SV.U1 0 caps=true) (o:∀ x∈l,Fn f (fg x::caps) (λr=>r=.b (p x))):Fn 126 [.s 5 (l.map ak),.fn f caps] (λr=>r=.i (mv p l)):=by
 refine J2 func126 ?_;intro O v z A;refine cm (t:=0) rfl λc=>?_
 refine zS ?_;refine ae (ι:=Nat) (λi=>⟨0,[(0,.s 5<|l.map ak),(1,.fn f caps),(7,.i l.length),(8,.i i)],[]⟩)
  (λi=>i<=l.length/\∀ j (n:j<l.length),j<i->p l[j]=false) (λi=>l.length-i) 0 ⟨Ai _,λj _ h=>absurd h<|A2 j⟩
  (bk id ⟨rfl,congrArg (SV.fn f) (SV.O4 caps).symm,by simp;rfl,rfl,trivial⟩ trivial (by simp [Sl.low,SV.low,m]) rfl rfl rfl rfl rfl) ?_
 rintro i ⟨h1,h2⟩;refine zS ?_;refine a6 rfl (λh=>?_)<|λh=>?_
 ·have d:i<l.length:=by omega
  have u:=o l[i]<|Ah d;repeat' (first|refine zs ?_|(apply mi;(iterate 4 exact rfl);apply u;exact rfl;(assumption);exact rfl;rintro _ rfl))
  refine ee rfl (λc=>?_)<|λc=>?_
  ·refine zR ?_;exact bh rfl (kr h2 d c).symm
  ·refine zS ?_;exact⟨i+1,⟨d,ja h2 d c⟩,bk id ⟨rfl,congrArg (SV.fn f) (SV.O4 caps).symm,rfl,rfl,trivial⟩ trivial (by simp [Sl.low,SV.low,m]) rfl rfl rfl rfl rfl,by omega⟩
 ·refine zR ?_;exact bh rfl (j7 λj n=>h2 j n<|by omega).symm
def r7 {f:FuncId} {caps:List SV} (p:X0->Bool) (l:List (X0)) (c:SV.U1 0 caps=true) (d:∀ x∈l,Fn f (fg x::caps) (λr=>r=.b (p x))):Fn 88 [.s 5 (l.map ak),.fn f caps] (λr=>r=.b (l.any p)):=by
 refine J2 func88 ?_;intro O i j m;have h:=Xl p l c d;have n:SV.U1 0 [.s 5 (l.map ak),.fn f caps]=true:=by simp [SV.U1,SV.low,c]
 repeat' (first|refine zr ?_|refine z21 ?_ h|fail)
 exact bi rfl<|ra p l
def uu (I0:List X0):Bool:=I0.any λu=>Y4 (Jb I0<|cq u) u.id
def pR (I0:List X0) (d:I0.length<=1000000) (f:W3 I0) (c:∀ u∈I0,u.P0.length+u.V0.length<=1000000) :
  Fn 93 [.s 5 (I0.map ak)] (λr=>r=.b (uu I0)):=by
 refine J2 func93 ?_;intro O j l m;have h:=r7 (caps:=[.pd [.slice 5<|I0.map ak]]) (λu=>Y4 (Jb I0<|cq u) u.id) I0 rfl<|λu i=>DN I0 u d f c<|c u i;repeat' ((fail_if_success (apply fh 1));(first|refine zs ?_|fail))
 refine ag (jl (ds:=[.slice 5<|I0.map ak]) 1 0 rfl rfl) ?_;repeat' (first|refine zr ?_|refine z21 ?_ h|fail)
 exact bi rfl rfl
def LF (r:X2):List D:=[.slice 5 (r.I0.map ak),.slice 5<|r.K0.map ak]
abbrev df (r:X2):SV:=.agg [.s 5 (r.I0.map ak),.s 5 (r.K0.map ak)]
def bq (r:X2):Int:=
 if 200<r.I0.length+r.K0.length then 2
 else if bp cp (r.I0++r.K0)≠0 then bp cp (r.I0++r.K0)
 else if dl (λa b:X0=>b9 a.id b.id) r.I0=false∨dl (λa b:X0=>b9 a.id b.id) r.K0=false∨(r.K0.any λu=>R1 r.I0 u.id)=true then 4
 else if (r.I0.any λu=>!I2 r.I0 u)=true then 5
 else if uu r.I0=true∨(r.K0.any λu=>I2 r.I0 u)=true then 4
 else 0
def oq {α:Type} {f:α->Int}:∀ {l:List α},bp f l=0->∀ x∈l,f x=0
 | x::l,h,y,b=>by
  unfold bp at h
  split at h
  ·rename_i c;exact absurd h c
  ·rename_i c
   rcases List.mem_cons.1 b with rfl|b
   ·simpa using c
   ·exact oq h y b
def ii {u:X0} (h:cp u=0):u.P0.length<=6/\u.F1.length<=6/\u.V0.length<=6:=by
 unfold cp at h;split at h;· cases h
 split at h;· cases h
 rename_i b;omega
def lB {f:FuncId} (o:X0->X0->Int) (l:List (X0)) (j:∀ x y,Fn f [fg x,fg y] (λr=>r=.i (o x y))):Fn 86 [.s 5 (l.map ak),.fn f []] (λr=>r=.b (dl o l)):=by
 refine J2 func86 ?_;intro O n p u;refine cm (t:=0) rfl λd=>?_
 refine zS ?_;refine ae (ι:=Nat) (λi=>⟨0,[(0,.s 5<|l.map ak),(1,.fn f []),(5,.i<|(i:Int)+1)],[]⟩)
  (λi=>i<=l.length/\dl o l=dl o (l.drop i)) (λi=>l.length-i) 0 ⟨Ai _,rfl⟩
  (er id) ?_
 rintro i ⟨h1,h2⟩;refine zS ?_;refine a6 rfl (λh=>?_)<|λh=>?_
 ·have c:i+1<l.length:=by have:=h;rw [Aa] at this;omega
  have m:=j (l[i]'(by omega))<|l[i+1]'c;repeat' (first|refine zs ?_|(apply kb;(iterate 4 exact rfl);apply m;exact rfl;(exact rfl);exact rfl;exact rfl;exact⟨_,rfl⟩;rintro _ rfl))
  refine a6 rfl (λd=>?_)<|λd=>?_
  ·refine zR ?_;exact bi rfl<|by rw [h2,vh c<|by omega]
  ·refine zS ?_;exact⟨i+1,⟨by omega,by rw [h2,K9 c<|by omega]⟩,er id,by omega⟩
 ·refine zR ?_;exact bi rfl<|by rw [h2,vg<|by have:=h;rw [Aa] at this;omega]
def fT (n:Nat) (c:n<=1000000):X1 false prog U5 bt 134 [.Q1,.i n] 0 0 [] (λ_ r H=>r=.row 0/\H=[(0,.row 35 5 [])]):=by
 refine T8 func134 ?_;intro O d f h;by_cases b:n=0
 ·subst b;refine zS ?_;all_goals try omega
  refine iv (fc rfl rfl) rfl rfl ?_;refine zS ?_;all_goals try omega
  refine ag (ce (t:=4) 35 5 rfl) ?_;repeat' (apply cr)
  exact⟨.inl rfl,_,rfl,kp id 1 (.row 0) ([(0,.row 35 5 [])]) ⟨rfl,rfl⟩⟩
 ·refine zS ?_;all_goals try omega
  refine iv (fc rfl rfl) rfl rfl ?_;repeat' (first|refine zr ?_|(refine zm ?_ ?_<;>intro l)|omega)
  refine iv (fc rfl rfl) rfl rfl ?_;repeat' refine z0 ?_
  all_goals try omega
  refine Tr (n:=n) (es:=5) (te:=35) [.int .i64 0,.int .i64 0,.slice 2 [],.slice 2 [],.slice 2 []] rfl rfl (by omega) rfl rfl rfl rfl ⟨.inl rfl,.inl rfl,.inr ⟨rfl,2,rfl⟩,.inr ⟨rfl,2,rfl⟩,.inr ⟨rfl,2,rfl⟩,trivial⟩ rfl rfl (by omega) (by omega) ?_ (by unfold maxLen;omega) rfl rfl ?_
  ·show n*88<=_;omega
  refine zS ?_;all_goals try omega
  refine ag (Qc (n:=0) 4 rfl rfl (Ai _) rfl) ?_;repeat' (apply cr)
  exact⟨.inl rfl,_,rfl,kp (λj=>match j with|0=>1|j=>j) 1 (.row 0) ([(0,.row 35 5 [])]) ⟨rfl,rfl⟩⟩
def HK (b:List (List (X0))) (h:(b.map B0).sum<=1000000) (v:b.length<=1000000):Fn 85 [.s 1 (b.map λl=>[.slice 5 (l.map ak)])] (λr=>r=.s 5 (b.flatten.map ak)):=by
 refine J2 func85 ?_;intro O A B C;have j:(b.map λl=>[D.slice 5<|l.map ak]).length=b.length:=Aa _;refine zS ?_;refine ae (ι:=Nat) (λi=>⟨0,[(0,.s 1<|b.map λl=>[.slice 5<|l.map ak]),(3,.i (((b.take i).map B0).sum:Nat)),(9,.s 1<|b.map λl=>[.slice 5<|l.map ak]),(10,.i b.length),(11,.i i)],[]⟩)
  (λi=>i<=b.length) (λi=>b.length-i) 0 (Ai _) (er id ⟨rfl,rfl,rfl,by rw [<- j];rfl,rfl,trivial⟩) ?_
 intro i m;by_cases c:i<b.length
 ·have n:=r8 c;have p:=Sb b<|i+1;have o:(b[i].map ak).length=b[i].length:=Aa _;repeat' (first|refine zs ?_|(refine zm ?_ ?_<;>intro f)|omega)
  exact⟨i+1,by omega,er id ⟨rfl,congrArg (λz=>SV.d<|.int .i64 z) (by rw [n,o];omega),rfl,rfl,rfl,trivial⟩,by omega⟩
 ·rw [Aj<|by omega];repeat' (first|refine zs ?_|(refine zm ?_ ?_<;>intro f)|omega)
  refine aw id (fT (b.map B0).sum h) rfl rfl rfl rfl trivial rfl rfl rfl rfl rfl rfl ?_ ?_
  ·rintro k2 r H2 ⟨rfl,rfl⟩;exact⟨rfl,rfl⟩
  rintro k2 r H2 ⟨rfl,rfl⟩;change DS _ _ _ _ _ _ _ _;refine zS ?_;refine ae (ι:=Nat) (λi=>⟨1,[(6,.row 0),(25,.s 1<|b.map λl=>[.slice 5<|l.map ak]),(26,.i b.length),(27,.i i)],[(0,.row 35 5<|(b.take i).flatten.map ak)]⟩)
   (λi=>i<=b.length) (λi=>b.length-i) 0 (Ai _) (er id ⟨rfl,rfl,by rw [<- j];rfl,rfl,trivial⟩) ?_
  clear c m;intro i m;by_cases c:i<b.length
  ·have n:=r8 c;have p:=Sb b<|i+1;have o:(b[i].map ak).length=b[i].length:=Aa _;have E:((b.take i).flatten.map ak).length=((b.take i).map B0).sum:=by rw [Aa,Ha]
   have u:(b.take<|i+1).flatten=(b.take i).flatten++b[i]:=by rw [Am c,He];simp
   repeat' (first|refine zr ?_|(refine zm ?_ ?_<;>intro f)|omega)
   exact⟨i+1,by omega,er (λ_=>1) (hH:=⟨by rw [u,Au];rfl,trivial⟩),by omega⟩
  ·rw [Aj<|by omega];repeat' (first|refine zs ?_|(refine zm ?_ ?_<;>intro f)|omega)
   refine ag (ck 2 rfl rfl rfl) ?_;repeat' (apply cr)
   exact⟨.inl rfl,_,rfl,rfl,rfl⟩
def YP (r:X2) (u:X0) (c:r.I0.length<=1000000) (d:W3 r.I0):Fn 89 ([fg u]++[.pd (LF r)]) (λf=>f=.b (R1 r.I0 u.id)):=by
 refine J2 func89 ?_;intro O h i j;have w:=uq r.I0 u.id c d;repeat' (first|refine zr ?_|refine z21 ?_ w|fail)
 exact bi rfl rfl
def XP (r:X2) (u:X0) (c:r.I0.length<=1000000) (d:W3 r.I0) (h:u.P0.length+u.V0.length<=1000000):Fn 91 ([fg u]++[.pd (LF r)]) (λf=>f=.b (!I2 r.I0 u)):=by
 refine J2 func91 ?_;intro O i j l;have w:=Tc r.I0 u c d h;repeat' (first|refine zr ?_|refine z21 ?_ w|fail)
 exact bi rfl rfl
def VP (r:X2) (u:X0) (c:r.I0.length<=1000000) (d:W3 r.I0) (h:u.P0.length+u.V0.length<=1000000):Fn 94 ([fg u]++[.pd (LF r)]) (λf=>f=.b (I2 r.I0 u)):=by
 refine J2 func94 ?_;intro O i j l;have w:=Tc r.I0 u c d h;repeat' (first|refine zr ?_|refine z21 ?_ w|fail)
 exact bi rfl rfl
def qr (r:X2) (U:r.I0.length<=4398046511104) (V:r.K0.length<=4398046511104):Fn 32 [df r] (λB=>B=.i (bq r)):=by
 have W:(r.I0.map ak).length=r.I0.length:=Aa _;have X:(r.K0.map ak).length=r.K0.length:=Aa _;refine J2 func32 ?_;intro O Y Z K1;by_cases J:200<r.I0.length+r.K0.length
 ·have o:bq r=2:=if_pos J;rw [o];repeat' (first|refine zr ?_|(refine zm ?_ ?_<;>intro p)|omega)
  all_goals exact bh rfl rfl
 ·have C:Fn 85 [.s 1 [[.slice 5<|r.I0.map ak],[.slice 5<|r.K0.map ak]]] (λB=>B=.s 5 ((r.I0++r.K0).map ak)):=by
   have h:=HK [r.I0,r.K0] (by simp;omega) (by simp);rw [show [r.I0,r.K0].flatten=r.I0++r.K0 by simp] at h;exact h
  have o:bq r=if bp cp (r.I0++r.K0)≠0 then bp cp (r.I0++r.K0)
    else if dl (λa b:X0=>b9 a.id b.id) r.I0=false∨dl (λa b:X0=>b9 a.id b.id) r.K0=false∨(r.K0.any λu=>R1 r.I0 u.id)=true then 4
    else if (r.I0.any λu=>!I2 r.I0 u)=true then 5
    else if uu r.I0=true∨(r.K0.any λu=>I2 r.I0 u)=true then 4
    else 0:=if_neg J
  rw [o];clear o;obtain⟨all,m⟩:∃ all,all=r.I0++r.K0:=⟨_,rfl⟩;have a0:all.length<=200:=by rw [m,Ag];omega
  have S:(all.map ak).length=all.length:=Aa _;rw [<- m] at C ⊢;repeat' (first|refine zr ?_|refine z21 ?_ C|(refine zm ?_ ?_<;>intro p)|omega)
  refine ae (ι:=Nat) (λi=>⟨1,[(1,.loc 0 0),(2,.i 0),(19,.s 5<|all.map ak),(20,.i all.length),(21,.i i)],[(0,.M1 29 [.s 5 (r.I0.map ak),.s 5<|r.K0.map ak])]⟩)
   (λi=>i<=all.length/\bp cp all=bp cp (all.drop i)) (λi=>all.length-i) 0 ⟨Ai _,rfl⟩ (er id ⟨rfl,rfl,rfl,by rw [<- S];rfl,rfl,trivial⟩) ?_
  rintro i ⟨g1,g2⟩;dsimp only at g1 g2 ⊢;by_cases E:i<all.length
  ·rw [gg E] at g2;have c:=si all[i];by_cases F:cp all[i]≠0
   ·rw [if_pos F] at g2;rw [g2,if_pos F];repeat' (first|refine zr ?_|refine z21 ?_ c|(refine zm ?_ ?_<;>intro p)|omega)
    all_goals exact bh rfl rfl
   ·rw [if_neg F] at g2;repeat' (first|refine zr ?_|refine z21 ?_ c|(refine zm ?_ ?_<;>intro p)|omega)
    exact⟨i+1,⟨E,g2⟩,er id,by omega⟩
  ·rw [iu<|by omega] at g2;rw [g2,if_neg<|by simp];have T:=oq g2;have G:∀ u∈all,u.P0.length+u.V0.length<=1000000:=λu f=>by have:=ii<|T u f;omega
   clear g1 g2 C;repeat' ((fail_if_success (apply fh 10));(first|refine zs ?_|(refine zm ?_ ?_<;>intro p)|fail))
   all_goals try omega
   clear E;have v:r.I0.length<=1000000:=by omega
   refine ag (jl (ds:=LF r) 1 0 rfl rfl) ?_;refine ag (bk (k':=0) (L':=[(1,.pd<|LF r),(2,.i 0)]) (H':=[]) id ⟨rfl,rfl,trivial⟩ trivial rfl rfl rfl rfl rfl rfl) ?_;have d:=lB (λa b:X0=>b9 a.id b.id) r.I0 fC;have c:=lB (λa b:X0=>b9 a.id b.id) r.K0 fC;cases I:dl (λa b:X0=>b9 a.id b.id) r.I0 with
   | false =>
    rw [I] at d;rw [if_pos<|.inl rfl];repeat' (first|refine zr ?_|refine z21 ?_ d|omega)
    all_goals exact bh rfl rfl
   | true =>
    rw [I] at d;have z:=vf I;cases M:dl (λa b:X0=>b9 a.id b.id) r.K0 with
    | false =>
     rw [M] at c;rw [if_pos<|.inr<|.inl rfl];repeat' (first|refine zr ?_|refine z21 ?_ d|refine z21 ?_ c|omega)
     all_goals exact bh rfl rfl
    | true =>
     rw [M] at c;have j:=r7 (caps:=[.pd<|LF r]) (λu=>R1 r.I0 u.id) r.K0 rfl<|λu _=>YP r u v z;cases N:r.K0.any λu=>R1 r.I0 u.id with
     | true =>
      rw [N] at j;rw [if_pos<|.inr<|.inr rfl];repeat' (first|refine zr ?_|refine z21 ?_ d|refine z21 ?_ c|refine z21 ?_ j|omega)
      all_goals exact bh rfl rfl
     | false =>
      rw [N] at j;rw [if_neg<|by simp];have l:=r7 (caps:=[.pd<|LF r]) (λu=>!I2 r.I0 u) r.I0 rfl (λu f=>XP r u v z<|G u<|by rw [m];exact Ax _ f);cases P:r.I0.any λu=>!I2 r.I0 u with
      | true =>
       rw [P] at l;rw [if_pos rfl];repeat' (first|refine zr ?_|refine z21 ?_ d|refine z21 ?_ c|refine z21 ?_ j|refine z21 ?_ l|omega)
       all_goals exact bh rfl rfl
      | false =>
       rw [P] at l;rw [if_neg<|by simp];have n:=pR r.I0 v z (λu f=>G u<|by rw [m];exact Ax _ f);have A:=r7 (caps:=[.pd<|LF r]) (λu=>I2 r.I0 u) r.K0 rfl (λu f=>VP r u v z<|G u<|by rw [m];exact Bv _ f);cases Q:uu r.I0 with
       | true =>
        rw [Q] at n;rw [if_pos<|.inl rfl];repeat' (first|refine zr ?_|refine z21 ?_ d|refine z21 ?_ c|refine z21 ?_ j|refine z21 ?_ l|refine z21 ?_ n|omega)
        all_goals exact bh rfl rfl
       | false =>
        rw [Q] at n;cases R:r.K0.any λu=>I2 r.I0 u with
        | true =>
         rw [R] at A;rw [if_pos<|.inr rfl];repeat' (first|refine zr ?_|refine z21 ?_ d|refine z21 ?_ c|refine z21 ?_ j|refine z21 ?_ l|refine z21 ?_ n|refine z21 ?_ A|omega)
         all_goals exact bh rfl rfl
        | false =>
         rw [R] at A;rw [if_neg<|by simp];repeat' (first|refine zr ?_|refine z21 ?_ d|refine z21 ?_ c|refine z21 ?_ j|refine z21 ?_ l|refine z21 ?_ n|refine z21 ?_ A|omega)
         all_goals exact bh rfl rfl
end
end Go.Proofs.YtapciiffpnociabGreat
