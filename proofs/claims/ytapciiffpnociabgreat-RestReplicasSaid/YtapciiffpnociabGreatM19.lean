/- Several texts in one: VwD GxPick VwE VwF StrG MoF MoG MoH MoI ChA VwG VwH VwI VwJ VwK VwL RsrA RelIn ChIn. Condition: none. -/
import Derived.Test.YtapciiffpnociabGreatM18
set_option linter.all false
set_option maxHeartbeats 8000000
open Bool renaming false_and→E9,true_and→Do
open List renaming append_nil→Bn,drop_eq_getElem_cons→An,drop_of_length_le→Ar,filter_append→Cf,filter_cons→B7,getElem_mem→Ah,length_append→Ag,length_filter_le→Cd,length_map→Aa,length_take→Ap,map_append→Au,mem_append_left→Ax,mem_append_right→Bv,mem_cons→Bl,mem_cons_of_mem→Ak,mem_cons_self→Ac,mem_map_of_mem→Eu,mem_singleton→A1,not_mem_nil→B6,pairwise_singleton→Dc,take_of_length_le→Aj,take_succ_eq_append_getElem→Am
open Nat renaming beq→Az,le_refl→Af,le_trans→Aw,zero_le→Ai
namespace Go.Proofs.YtapciiffpnociabGreat
open Tryz
section
open Go Go.RowKit
variable [Y0]
def Q4.bounds {r:X2} (h:Q4 r):(r.I0.flatMap X0.V0).length<=1200/\(r.I0.flatMap X0.F1).length<=1200/\(Jh r).length<=1200:=by
 have c:=h.len;have d:=rc X0.V0 6 r.I0 λu a=>(ii<|h.each u<|Ax _ a).2.2
 have e:=rc X0.F1 6 r.I0 λu a=>(ii<|h.each u<|Ax _ a).2.1
 have b:=X8 r.I0 r.I0.length;rw [Aj<|Af _] at b;have f:((Ga r.I0).flatMap X0.F1).length<=(r.I0.flatMap X0.F1).length:=b;have g:=l6<|(Ga r.I0).flatMap X0.F1;refine⟨by omega,by omega,?_⟩
 unfold Jh;omega
attribute [local irreducible] DW DS DL DQ Ev X1 I3 du bl DT
def aM (p:R3) (o:List U0) (r:X2) (a:Q4 r):X1 false prog U5 bt 122 [.loc 0 0] 1 3 (dA p o r) (λk e H=>k=3/\e=.i (U7 p (dt p r)).1/\H=dA p (U7 p (dt p r)).2 r):=by
 refine T8 func122 ?_;intro O z A C;obtain⟨E,F,G⟩:=a.bounds;have I:=a.len;have g:=gR r (by omega) (by omega) (by omega)<|λu s f b=>(im<|a.each u<|Ax _ s).args f b;have v:bg ((Ga r.I0).flatMap X0.F1)=Jh r:=rfl;rw [v] at g;have w:dt p r=(Jh r).filter λf=>decide (gm p.F0 f=0):=rfl
 generalize dt p r=q at *;generalize Jh r=S at *;have J:(S.map aa).length=S.length:=Aa _;refine zS ?_;refine aw (λj=>j+1) g rfl rfl rfl rfl ⟨rfl,rfl,trivial⟩ rfl rfl rfl rfl rfl rfl ?_ ?_
 ·rintro k2 e H2 ⟨rfl,rfl,rfl⟩;exact⟨rfl,rfl⟩
 rintro k2 e H2 ⟨rfl,rfl,rfl⟩;change DS _ _ _ _ _ _ _ _;clear g;refine zS ?_;refine ag (ce (t:=3) 95 2 rfl) ?_;refine ae (ι:=Nat) (λi=>⟨4,[(0,.loc 0 0),(3,.row 3),(12,.d<|.own Y0.B<|.slice 2<|S.map aa),(13,.i (S.map aa).length),(14,.i i)],
   [(0,PZ p o),(1,.row 35 5<|r.I0.map au),(2,.row 35 5<|r.K0.map au),(3,.row 95 2<|((S.take i).filter λf=>decide (gm p.F0 f=0)).map aa)]⟩)
  (λi=>i<=S.length) (λi=>S.length-i) 0 (Ai _) (er id) ?_
 intro i L;by_cases h:i<S.length
 ·have m:=TB p S[i];have lo:((S.take i).filter λf=>decide (gm p.F0 f=0)).length<=i:=Aw (Cd _ _) (by rw [Ap];omega);have c:((S.take<|i+1).filter λf=>decide (gm p.F0 f=0))=((S.take i).filter λf=>decide (gm p.F0 f=0))++([S[i]].filter λf=>decide (gm p.F0 f=0)):=by rw [Am h,Cf]
  by_cases n:gm p.F0 S[i]=0
  ·rw [n] at m;have b:([S[i]].filter λf=>decide (gm p.F0 f=0))=[S[i]]:=by rw [B7,if_pos<|by simpa using n];rfl
   rw [b] at c;repeat' (first|refine zs ?_|refine z22 ?_ m|(refine zm ?_ ?_<;>intro a)|omega)
   exact⟨i+1,h,er (λj=>match j with|3=>_|j=>j) (hH:=⟨rfl,rfl,rfl,by rw [c,Au];rfl,trivial⟩),by omega⟩
  ·have b:([S[i]].filter λf=>decide (gm p.F0 f=0))=[]:=by rw [B7,if_neg<|by simpa using n];rfl
   rw [b,Bn] at c;repeat' (first|refine zs ?_|refine z22 ?_ m|(refine zm ?_ ?_<;>intro a)|omega)
   exact⟨i+1,h,er id (hH:=⟨rfl,rfl,rfl,by rw [c];rfl,trivial⟩),by omega⟩
 ·rw [Aj (by omega),<- w];have y:=gO p q _ _<|Xv p q;generalize U7 p q=x at *;refine ag (ck 3 rfl rfl rfl) ?_;repeat' (first|refine zr ?_|refine z21 ?_ y|(refine zm ?_ ?_<;>intro a)|omega)
  exact⟨.inl rfl,_,rfl,kp id 3 (.i x.1) (dA p x.2 r) ⟨rfl,rfl,rfl⟩⟩
end
section
open Go Go.RowKit
variable [Y0]
def Oper.xQ {P:Program} {o:Oper} {a:Act} {w:World} {K g:Act->World->Prop} {Q Q':Exit->Act->World->Prop} (h:∀ a w,K a w->g a w) (i:∀ c a w,Q (.panic c) a w->Q' (.panic c) a w) (f:LetsOut Q->LetsOut Q')
  (b:o.wp P a w K Q):o.wp P a w g Q':=by
 unfold Oper.wp at *;generalize (execOp a.eval o).run P w=r at *;cases r with
 | ok n j =>
  cases n<;>simp only [Oper.upon] at b ⊢ <;>
   first
    | exact h _ _ b
    | exact Calls.mono b<|λe k d=>by cases e<;>first|exact h _ _ d|exact i _ _ _ d|exact f d
    | exact Rows.mono b<|λ_ _ d=>h _ _ d
    | exact f b
    | exact b
 | halt x j=>cases x<;>simp only [Oper.upon] at b ⊢<;>first|exact i _ _ _ b|exact f b|exact b
def rD (o:Oper) (done:List Nat):Bool:=o.after.toList.all λe=>!(Region.binds .any e)||done.any (Az e.on)
def qd (done:List Nat):Nat->List Oper->List (Nat×Oper)
 | _,[]=>[]
 | i,o::l=>match !(done.any (Az i))&&rD o done with
  | true=>(i,o)::qd done (i+1) l
  | false=>qd done (i+1) l
def Su {done:List Nat} {j:Nat} {o:Oper}:∀ (l:List Oper) (i:Nat),l[j]?=some o->done.any (Az (i+j))=false->rD o done=true->(i+j,o)∈qd done i l
 | [],_,h,_,_=>by simp at h
 | p::l,i,h,a,c=>by
  unfold qd;cases j with
  | zero =>
   have:p=o:=by simpa using h
   subst this;rw [Nat.add_zero] at a;rw [a,c];exact Ac ..
  | succ j =>
   have b:=Su (done:=done) (j:=j) (o:=o) l (i+1) (by simpa using h) (by rw [show i+1+j=i+(j+1) by omega];exact a) c;rw [show i+1+j=i+(j+1) by omega] at b;split
   ·exact Ak _ b
   ·exact b
def TW {α:Type} (p:α->Prop):List α->Prop
 | []=>True
 | [x]=>p x
 | x::y::l=>p x/\TW p (y::l)
def oI {α:Type} {p:α->Prop} {x:α}:∀ {l:List α},TW p l->x∈l->p x
 | [],_,h=>by simp at h
 | [y],a,h=>by
  rw [A1] at h
  subst h
  exact a
 | y::z::l,a,h=>by
  rcases List.mem_cons.1 h with rfl|h
  ·exact a.1
  ·exact oI a.2 h
def DP (Γ:Ctx) (l:List Oper) (K:cn):Nat->List Nat->cn
 | 0,_=>K
 | n+1,done=>λk L H=>TW (λp=>DS false Γ l [p.2] (DP Γ l K n (p.1::done)) k L H) (qd done 0 l)
section
variable {Γ : Ctx} {l : List Oper} {K : cn}
def eG:∀ (n:Nat) (d:Array Bool) (done:List Nat) (k:Nat) (L:Sl) (H:Hp) (e:Env) (a:Act) (w:World),d.size=l.length->Y9 d=n->(∀ j,d.getD j false=done.any (Az j))->J0 Γ (lo k) L H e a w->DP Γ l K n done k L H->l8 l=true ->
  wpAny Γ.P .any l.toArray (ze Γ (ep K)) n d a w
 | 0,d,done,k,L,H,e,a,w,q,F,u,m,h,_=>by
  have z:Region.ready .any l.toArray d=[]:=List.eq_nil_iff_forall_not_mem.2 λj f=>by
   obtain⟨p,o,x,_⟩:=mem_ready.1 f;have f:j<d.size:=by rw [q];have:=(Array.getElem?_eq_some_iff.1 x).1;simpa using this
   rw [KB F j f] at p;cases p
  exact⟨z,.inl ⟨k,L,H,e,m,rfl,h⟩⟩
 | n+1,d,done,k,L,H,e,a,w,q,F,u,m,h,G=>by
  refine⟨λz=>?_,λi O=>?_⟩
  ·exfalso;have A:=qB q G z;have:Y9 d=0:=by
    unfold Y9;rw [List.countP_eq_zero];intro b r;obtain⟨j,f⟩:=List.mem_iff_getElem?.1 r;have I:d[j]?=some b:=by simpa using f
    have Q:j<d.size:=(Array.getElem?_eq_some_iff.1 I).1;have p:=A j (by rw [<- q];exact Q);rw [Array.getD_eq_getD_getElem?,I] at p;simpa using p
   omega
  ·obtain⟨p,o,x,A⟩:=mem_ready.1 O;have J:l[i]?=some o:=by simpa using x
   have f:i<d.size:=by rw [q];exact (List.getElem?_eq_some_iff.1 J).1
   have V:=MG f p;have R:done.any (Az i)=false:=by rw [<- u,<- j9 f];exact p
   have S:rD o done=true:=by
    unfold rD;rw [List.all_eq_true];intro e T;cases r:Region.binds .any e with
    | false=>rfl
    | true =>
     have:=A e (by simpa using T) r
     rw [u] at this;simpa using this
   have y:=oI h (Su l 0 J (by rw [Nat.zero_add];exact R) S);rw [Nat.zero_add] at y;have y:DL Γ l [o] (DP Γ l K n (i::done)) k L H:=y;have g:=y e a w m;have U:∀ j,(d.setIfInBounds i true).getD j false=(i::done).any (Az j):=by
    intro j;rw [Bx f,List.any_cons,u j];by_cases B:i=j
    ·subst B;simp
    ·rw [if_neg B];have:Az j i=false:=by
      cases r:Az j i with
      | false=>rfl
      | true=>exact absurd (Nat.eq_of_beq_eq_true r).symm B
     rw [this,Bool.false_or]
   have M:∀ s t,wpList Γ.P l.toArray (ze Γ<|ep<|DP Γ l K n (i::done)) [] s t->wpAny Γ.P .any l.toArray (ze Γ<|ep K) n (d.setIfInBounds i true) s t:=by
    rintro s t (⟨k',L',H',e',m',_,hq⟩|⟨v,k',L',H',e',C,_⟩)
    ·exact eG n _ (i::done) k' L' H' e' s t (by simp [q]) (by omega) U m' hq G
    ·cases C
   unfold wpList at g;unfold wpOp;rw [x];simp only;split at g
   ·rename_i E;rw [if_pos E];have N:LetsOut (ze Γ<|ep<|DP Γ l K n (i::done))->LetsOut (ze Γ<|ep K):=λh=>absurd h (ji (Γ:=Γ) (K:=DP Γ l K n (i::done)))
    refine g.imp (λg=>Oper.xQ M ?_ N g)<|λg=>⟨g.1,N g.2⟩;rintro c s t (⟨_,_,_,_,_,C,_⟩|hf)
    ·cases C
    ·exact .inr hf
   ·rename_i E;rw [if_neg E];exact M _ _ g
def Kl {done:List Nat} {q:Nat×Oper}:∀ (l:List Oper) (i:Nat),q∈qd done i l->i<=q.1/\l[q.1-i]?=some q.2
 | [],_,h=>by simp [qd] at h
 | o::l,i,h=>by
  unfold qd at h
  have a:q∈qd done (i+1) l->i<=q.1/\(o::l)[q.1-i]?=some q.2:=λh=>by
   obtain⟨c,b⟩:=Kl l (i+1) h
   refine⟨by omega,?_⟩
   rw [show q.1-i=(q.1-(i+1))+1 by omega,List.getElem?_cons_succ]
   exact b
  split at h
  ·rcases List.mem_cons.1 h with rfl|h
   ·simp
   ·exact a h
  ·exact a h
def EE {α:Type} {p:α->Prop}:∀ {l:List α},(∀ x∈l,p x)->TW p l
 | [],_=>trivial
 | [x],h=>h x (Ac ..)
 | x::_::_,h=>⟨h x (Ac ..),EE λz a=>h z (Ak _ a)⟩
def CK {done:List Nat} {k:Nat} {L:Sl} {H:Hp} (h:K k L H):DP Γ l K 0 done k L H:=h
def qq {n i:Nat} {o:Oper} {done:List Nat} {k:Nat} {L:Sl} {H:Hp} (d:(qd done 0 l).map (·.1)=[i]) (e:l[i]?=some o) (h:DS false Γ l [o] (DP Γ l K n (i::done)) k L H):DP Γ l K (n+1) done k L H:=
 EE λq b=>by
  have a:q.1∈(qd done 0 l).map (·.1):=Eu b
  obtain⟨_,c⟩:=Kl l 0 b
  rw [d,A1] at a
  rw [Nat.sub_zero,a,e] at c
  cases c
  rw [a]
  exact h
def VT {n i j:Nat} {o c:Oper} {done:List Nat} {k:Nat} {L:Sl} {H:Hp} (e:(qd done 0 l).map (·.1)=[i,j]) (f:l[i]?=some o) (g:l[j]?=some c) (h:DS false Γ l [o] (DP Γ l K n (i::done)) k L H) (m:DS false Γ l [c] (DP Γ l K n (j::done)) k L H) :
  DP Γ l K (n+1) done k L H:=
 EE λq d=>by
  have a:q.1∈(qd done 0 l).map (·.1):=Eu d
  obtain⟨_,b⟩:=Kl l 0 d
  rw [e] at a
  rw [Nat.sub_zero] at b
  rcases List.mem_cons.1 a with a|a
  ·rw [a,f] at b
   cases b
   rw [a]
   exact h
  ·rw [A1] at a
   rw [a,g] at b
   cases b
   rw [a]
   exact m
def RN {id k:Nat} {L:Sl} {H:Hp} {e:Env} {a:Act} {w:World} (b:Γ.P.follows .mixedOrders=true) (c:l8 l=true) (d:d8 l=true) (h:DP Γ l K l.length [] k L H) (f:J0 Γ (lo k) L H e a w) :
  (Code.region id l.toArray true).wpIn (ob Γ.rd) 0 Γ.P (ze Γ (ep K)) a w:=by
 refine wpIn_region_any b<|zj (ji (Γ:=Γ) (K:=K)) d _ _ _ _ ?_;have g:=f.below (w':={ w with drawn:=w.drawn+1 })<|(W4.refl _ _ _).drew;have i:l.toArray.size=l.length:=by simp
 rw [i];refine eG l.length _ [] k L H e a _ (by simp) (by simp [Y9,List.countP_replicate]) (λj=>?_) g h c;rw [pa];rfl
def FT {id k:Nat} {L:Sl} {H:Hp} {Q:ey} (a:Nat) (b:Sl) (c:Hp) (d:Γ.P.follows .mixedOrders=true) (e:l8 l=true) (f:d8 l=true) (h:DP Γ l (λk L H=>X7 Γ k L H a b c) l.length [] k L H) (g:Q .normal a b c) :
  DW Γ (.region id l.toArray true) Q k L H:=λ_ _ _ i=>wpIn_mono (RN d e f h i) λx j m n=>by
 rcases n with ⟨u,v,w,o,p,rfl,q⟩|r
 ·obtain⟨s,t⟩:=q o j m p
  exact .inl ⟨a,b,c,s,t,g⟩
 ·exact .inr r
end
abbrev A' (p:R3) (r:X2):Hp:=[(0,.M1 107 [.row 1,.row 2,.s 1 (p.F0.map aq),.s 1 (p.Z0.map qn),.s 5 (p.M0.map dq),.Q1]),(1,.row 35 5 (r.I0.map au)),(2,.row 35 5 (r.K0.map au))]
attribute [local irreducible] DW DS DL DQ Ev X1 I3 du bl DP
def QL (p:R3) (r:X2) (h1:r.I0.length<=4398046511104) (o:r.K0.length<=4398046511104) :
  X1 false prog U5 bt 55 [gy p,df r] 0 0 [] (λk a H=>(dn db p=0/\bq r=0/\k=3/\a=.M2 [.loc 0 0,.i (U7 p (dt p r)).1]/\H=dA p (U7 p (dt p r)).2 r)∨(¬ (dn db p=0/\bq r=0)/\k=0/\a=.M2 [.val (.pointer none),.i (if dn db p≠0 then dn db p else bq r)]/\H=[])):=by
 refine T8 func55 ?_;intro O q s t;have d:=cB p;have e:=qr r (by omega) (by omega);by_cases c:dn db p=0
 ·rw [c] at d;by_cases f:bq r=0
  ·rw [f] at e;have b:=Q4.of f;have n:=aM p [] r b;have v:=b.len;have g:=uE r (by omega) (by omega) (λu m=>im<|b.each u<|Ax _ m)<|λu m=>im<|b.each u<|Bv _ m;repeat' ((fail_if_success (apply br 6));(first|refine zs ?_|refine z21 ?_ d|refine z21 ?_ e|fail))
   all_goals try omega
   refine FT 3 [(7,.loc 0 0)] (dA p [] r) (by kernel_rfl) (by kernel_rfl) rfl ?_ ?_;rotate_left
   ·repeat' ((fail_if_success (apply br 6));(first|refine zs ?_|fail))
    refine aw id n rfl rfl rfl rfl ⟨rfl,rfl,rfl,trivial⟩ rfl rfl rfl rfl rfl rfl ?_ ?_
    ·rintro k2 a H2 ⟨rfl,rfl,rfl⟩;exact⟨rfl,rfl⟩
    rintro k2 a H2 ⟨rfl,rfl,rfl⟩;change DS _ _ _ _ _ _ _ _;refine zR ?_;exact⟨.inl rfl,_,rfl,kp (λj=>match j with|1=>4|2=>5|j=>j) 3 (.M2 [.loc 0 0,.i (U7 p<|dt p r).1]) (dA p (U7 p<|dt p r).2 r)<|.inl ⟨c,f,rfl,rfl,rfl⟩⟩
   refine VT rfl rfl rfl ?_ ?_
   ·repeat' ((fail_if_success (apply br 6));(first|refine zs ?_|fail))
    refine VT rfl rfl rfl ?_ ?_
    ·refine aw id g rfl rfl rfl rfl trivial rfl rfl rfl rfl rfl rfl ?_ ?_
     ·rintro k2 a H2 ⟨rfl,rfl,rfl⟩;exact⟨rfl,rfl⟩
     rintro k2 a H2 ⟨rfl,rfl,rfl⟩;change DS _ _ _ _ _ _ _ _;repeat' ((fail_if_success (apply br 6));(apply i7))
     refine qq rfl rfl ?_;repeat' ((fail_if_success (apply br 6));(first|refine zs ?_|fail))
     refine qq rfl rfl ?_;repeat' ((fail_if_success (apply br 6));(first|refine zs ?_|fail))
     refine qq rfl rfl ?_;repeat' ((fail_if_success (apply br 6));(first|refine zs ?_|fail))
     refine qq rfl rfl ?_;repeat' ((fail_if_success (apply br 6));(first|refine zs ?_|fail))
     refine CK ?_;exact ot (bk (k':=3) (L':=[(7,.loc 0 0)]) (H':=A' p r) (λj=>match j with|0=>4|1=>2|2=>3|j=>j) ⟨rfl,trivial⟩ ⟨rfl,rfl,rfl,trivial⟩ rfl rfl rfl rfl rfl rfl)<|av 0 5 2 rfl rfl rfl
    ·repeat' ((fail_if_success (apply br 6));(first|refine zs ?_|fail))
     refine qq rfl rfl ?_;refine aw id g rfl rfl rfl rfl trivial rfl rfl rfl rfl rfl rfl ?_ ?_
     ·rintro k2 a H2 ⟨rfl,rfl,rfl⟩;exact⟨rfl,rfl⟩
     rintro k2 a H2 ⟨rfl,rfl,rfl⟩;change DS _ _ _ _ _ _ _ _;repeat' ((fail_if_success (apply br 6));(apply i7))
     refine qq rfl rfl ?_;repeat' ((fail_if_success (apply br 6));(first|refine zs ?_|fail))
     refine qq rfl rfl ?_;repeat' ((fail_if_success (apply br 6));(first|refine zs ?_|fail))
     refine qq rfl rfl ?_;repeat' ((fail_if_success (apply br 6));(first|refine zs ?_|fail))
     refine CK ?_;exact ot (bk (k':=3) (L':=[(7,.loc 0 0)]) (H':=A' p r) (λj=>match j with|0=>4|1=>2|2=>3|j=>j) ⟨rfl,trivial⟩ ⟨rfl,rfl,rfl,trivial⟩ rfl rfl rfl rfl rfl rfl)<|av 0 5 2 rfl rfl rfl
   ·repeat' ((fail_if_success (apply br 6));(first|refine zs ?_|fail))
    refine qq rfl rfl ?_;repeat' ((fail_if_success (apply br 6));(first|refine zs ?_|fail))
    refine qq rfl rfl ?_;refine aw id g rfl rfl rfl rfl trivial rfl rfl rfl rfl rfl rfl ?_ ?_
    ·rintro k2 a H2 ⟨rfl,rfl,rfl⟩;exact⟨rfl,rfl⟩
    rintro k2 a H2 ⟨rfl,rfl,rfl⟩;change DS _ _ _ _ _ _ _ _;repeat' ((fail_if_success (apply br 6));(apply i7))
    refine qq rfl rfl ?_;repeat' ((fail_if_success (apply br 6));(first|refine zs ?_|fail))
    refine qq rfl rfl ?_;repeat' ((fail_if_success (apply br 6));(first|refine zs ?_|fail))
    refine qq rfl rfl ?_;repeat' ((fail_if_success (apply br 6));(first|refine zs ?_|fail))
    refine CK ?_;exact ot (bk (k':=3) (L':=[(7,.loc 0 0)]) (H':=A' p r) (λj=>match j with|0=>4|1=>2|2=>3|j=>j) ⟨rfl,trivial⟩ ⟨rfl,rfl,rfl,trivial⟩ rfl rfl rfl rfl rfl rfl)<|av 0 5 2 rfl rfl rfl
  ·repeat' (first|refine zr ?_|refine z21 ?_ d|refine z21 ?_ e|(refine zm ?_ ?_<;>intro b)|omega)
   exact⟨.inl rfl,_,rfl,kp id 0 (.M2 [.val (.pointer none),.i<|bq r]) ([]) (.inr ⟨λh=>f h.2,rfl,by rw [if_neg<|show ¬ dn db p≠0 from λh=>h c],rfl⟩)⟩
 ·repeat' (first|refine zr ?_|refine z21 ?_ d|refine z21 ?_ e|(refine zm ?_ ?_<;>intro b)|omega)
  exact⟨.inl rfl,_,rfl,kp id 0 (.M2 [.val (.pointer none),.i<|dn db p]) ([]) (.inr ⟨λh=>c h.1,rfl,by rw [if_pos c],rfl⟩)⟩
attribute [local irreducible] DT
def OA (p:R3) (r:X2) (h1:r.I0.length<=4398046511104) (m:r.K0.length<=4398046511104):Fn 13 [gy p,df r] (λg=>g=.M2 [.d (.own Y0.B (.slice 2 ((J4 p r).1.map aa))),.i (J4 p r).2]):=by
 refine J2 func13 ?_;intro O v w y;have j:=QL p r h1 m;have k:=Jv (p:=p) (r:=r);have b:J4 p r=if dn db p≠0 then ([],dn db p) else if bq r≠0 then ([],bq r) else ((U7 p<|dt p r).2,(U7 p<|dt p r).1):=rfl
 generalize J4 p r=o at *;obtain⟨s,e⟩:=o;refine zS ?_;refine aw id j rfl rfl rfl rfl trivial rfl rfl rfl rfl rfl rfl ?_ ?_
 ·rintro k2 g H2 (⟨_,_,rfl,rfl,rfl⟩|⟨_,rfl,rfl,rfl⟩)<;>exact⟨rfl,rfl⟩
 rintro k2 g H2 (⟨a,c,rfl,rfl,rfl⟩|⟨hpr,rfl,rfl,rfl⟩)
 ·rw [if_neg (by simpa using a),if_neg<|by simpa using c] at b;generalize U7 p (dt p r)=x at *;obtain⟨n,z⟩:=x;cases b;dsimp only at k;clear j;change DS _ _ _ _ _ _ _ _;by_cases f:n=0
  ·subst f;refine zR ?_;all_goals try omega
   exact⟨.inl rfl,_,rfl,rfl,rfl⟩
  ·have q:=k f;subst q;repeat' (first|refine zs ?_|(refine zm ?_ ?_<;>intro t)|omega)
   refine ag (ea 4 2 rfl) ?_;refine zR ?_;exact⟨.inl rfl,_,rfl,rfl,rfl⟩
 ·clear j;change DS _ _ _ _ _ _ _ _;have u:s=[]/\e=(if dn db p≠0 then dn db p else bq r)/\e≠0:=by
   by_cases a:dn db p=0
   ·have c:bq r≠0:=λh=>hpr ⟨a,h⟩
    rw [if_neg (by simpa using a),if_pos c] at b;cases b;exact⟨rfl,by rw [if_neg<|by simpa using a],c⟩
   ·rw [if_pos a] at b;cases b;exact⟨rfl,by rw [if_pos a],a⟩
  obtain⟨rfl,f,A⟩:=u;rw [<- f];repeat' (first|refine zs ?_|(refine zm ?_ ?_<;>intro t)|omega)
  refine ag (ea 4 2 rfl) ?_;refine zR ?_;exact⟨.inl rfl,_,rfl,rfl,rfl⟩
def zQ (p:R3) (r:X2) (h1:r.I0.length<=4398046511104) (a:r.K0.length<=4398046511104):Fn 13 [gy p,df r] (λb=>b=.M2 [.s 2 ((J4 p r).1.map aa),.i (J4 p r).2]):=(OA p r h1 a).Z5
end
section
open Go Go.RowKit
variable [Y0]
attribute [local irreducible] DW DS DL DQ Ev X1 I3 du bl RM
abbrev dlL (n:Nat) (a:Bool):Sl:=[(1,.loc 0 0),(4,.row 1),(5,.b a),(6,.i n)]
abbrev dlH (p:R3) (lv:List Int):Hp:=[(0,aG p),(1,.row 3 1 (lv.map aq))]
def Ro (p:R3) (A:De p):Fn 167 [gy p] (λP=>P=.M2 [.s 1 ((gn p).map aq),.b (tm p)]):=by
 refine J2 func167 ?_;intro O w0 E0 K1;have Q:(p.F0.map aq).length=p.F0.length:=Aa _;have lr:(p.M0.map dq).length=p.M0.length:=Aa _;have a0:=A.gX;have F:=A.M0;refine zS ?_;refine KH ((jr p.F0.length).map aq) rfl rfl (by rw [Q]) rfl rfl rfl rfl rfl rfl (by show 8*_<=_;omega) (by unfold maxLen;omega) (by unfold jr;rw [List.map_replicate];rfl) rfl rfl ?_;refine zS ?_;refine ae (ι:=Nat×List Int×Bool) (λx=>⟨2,dlL x.1 x.2.2,dlH p x.2.1⟩)
  (λx=>x.1<=p.F0.length+1/\x.2.1=ph p.M0 x.1 (jr p.F0.length)/\x.2.1.length=p.F0.length/\(∀ v∈x.2.1,0<=v/\v<=x.1*48)/\∀ m,x.1=m+1->x.2.2 = !decide (ph p.M0 (m+1) (jr p.F0.length)=ph p.M0 m (jr p.F0.length)))
  (λx=>p.F0.length+1-x.1) (0,jr p.F0.length,false) ⟨Ai _,rfl,by simp [jr],λv o=>by rw [List.eq_of_mem_replicate o];constructor<;>simp,λm h=>by cases h⟩
  (er id) ?_
 rintro⟨n,d,R⟩ ⟨S,t,G,H,I⟩;dsimp only at S t G H I ⊢;by_cases hn:n<p.F0.length+1
 ·repeat' (first|refine zr ?_|(refine zm ?_ ?_<;>intro j)|omega)
  refine ae (ι:=Nat×List Int×Bool) (λx=>⟨2,(7,.i x.1)::dlL n x.2.2,dlH p x.2.1⟩)
   (λx=>x.1<=p.M0.length/\mu p.M0 d=mu (p.M0.drop x.1) x.2.1/\AU d x.2.1 x.2.2 (n*48+x.1*4)) (λx=>p.M0.length-x.1)
   (0,d,false) ⟨Ai _,rfl,AU.refl<|λv o=>by have:=H v o;omega⟩ (er id) ?_
  rintro⟨i,u,B⟩ ⟨f1,f2,f3⟩;dsimp only at f1 f2 f3 ⊢;by_cases J:i<p.M0.length
  ·have C:=Ah J;have q:=A.each _ C;rw [An J] at f2;repeat' (first|refine zs ?_|(refine zm ?_ ?_<;>intro j)|omega)
   generalize p.M0[i]=r at q f2 ⊢;have a1:=q.N0;have a2:=q.body;have T:=q.lits;have lb:(r.body.map bf).length=r.body.length:=Aa _;have f2:mu p.M0 d=mu (p.M0.drop<|i+1) (r.body.foldl (Vh r.T0 r.N0) u):=f2;refine ae (ι:=Nat×List Int×Bool) (λx=>⟨3,(9,.i x.1)::(8,.loc 2 0)::(7,.i i)::dlL n x.2.2,(2,ve r)::dlH p x.2.1⟩)
    (λx=>x.1<=r.body.length/\mu p.M0 d=mu (p.M0.drop<|i+1) ((r.body.drop x.1).foldl (Vh r.T0 r.N0) x.2.1)/\AU d x.2.1 x.2.2 (n*48+i*4+x.1)) (λx=>r.body.length-x.1)
    (0,u,B) ⟨Ai _,f2,f3.more<|by simp⟩ (er id) ?_
   clear f2 f3;rintro⟨k,c,w⟩ ⟨U,a,e⟩;dsimp only at U a e ⊢;have l2:(c.map aq).length=c.length:=Aa _;have a3:c.length=d.length:=e.1.1.symm;by_cases L:k<r.body.length
   ·have V:=Ah L;obtain⟨⟨k1,k2⟩,kp⟩:=T _ V;rw [An L,List.foldl_cons] at a;by_cases M:2<r.body[k].R0
    ·rw [show Vh r.T0 r.N0 c r.body[k]=c from if_pos M] at a;repeat' (first|refine z0 ?_|refine z12 ?_|apply i7|(apply mh;exact rfl;exact rfl;(apply k0;(omega));exact rfl;exact rfl;(exact mc rfl);(iterate 6 exact rfl))|refine zs ?_|(refine zm ?_ ?_<;>intro j)|omega)
     exact⟨(k+1,c,w),⟨by dsimp only;omega,a,e.more<|by omega⟩,er id,by show r.body.length-(k+1)<r.body.length-k;omega⟩
    ·have W:d6 r.body[k]=true:=by
      have F:r.body[k].R0=1∨r.body[k].R0=2:=by omega
      unfold d6;rcases F with h|h<;>simp [h]
     obtain⟨q1,q2⟩:=kp W;have hA:=e.2.2.2 (c[r.body[k].N0.toNat]'(by omega))<|Ah _;have y:=wS (f:=r.T0) (pr:=r.N0) (lv:=c) M (by omega) (by omega);have N:=λv=>e.set (i:=r.N0.toNat) (v:=v)<|by omega
     have z:na r.T0 r.body[k]=if r.body[k].R0=2∨r.T0≠0 then 1 else 0:=rfl
     have a4:=q.T0;repeat' (first|refine z0 ?_|refine z12 ?_|apply i7|(apply mh;exact rfl;exact rfl;(apply k0;(omega));exact rfl;exact rfl;(exact mc rfl);(iterate 6 exact rfl))|refine zs ?_|(refine zm ?_ ?_<;>intro j)|omega)
     all_goals first
      | (have g:na r.T0 r.body[k]=1:=by rw [z,if_pos<|by omega]
         rw [y,g,if_pos<|by omega] at a;exact⟨(k+1,_,true),⟨by dsimp only;omega,a,(N _ (by omega)<|by omega).more<|by omega⟩,er id,by show r.body.length-(k+1)<r.body.length-k;omega⟩)
      | (have g:na r.T0 r.body[k]=1:=by rw [z,if_pos<|by omega]
         rw [y,g,if_neg<|by omega] at a;exact⟨(k+1,c,w),⟨by dsimp only;omega,a,e.more<|by omega⟩,er id,by show r.body.length-(k+1)<r.body.length-k;omega⟩)
      | (have g:na r.T0 r.body[k]=0:=by rw [z,if_neg<|by omega]
         rw [y,g,Int.add_zero,if_pos<|by omega] at a;exact⟨(k+1,_,true),⟨by dsimp only;omega,a,(N _ (by omega)<|by omega).more<|by omega⟩,er id,by show r.body.length-(k+1)<r.body.length-k;omega⟩)
      | (have g:na r.T0 r.body[k]=0:=by rw [z,if_neg<|by omega]
         rw [y,g,Int.add_zero,if_neg<|by omega] at a;exact⟨(k+1,c,w),⟨by dsimp only;omega,a,e.more<|by omega⟩,er id,by show r.body.length-(k+1)<r.body.length-k;omega⟩)
   ·rw [show r.body.drop k=[] from Ar (by omega)] at a;repeat' (first|refine z0 ?_|refine z12 ?_|apply i7|(apply mh;exact rfl;exact rfl;(apply k0;(omega));exact rfl;exact rfl;(exact mc rfl);(iterate 6 exact rfl))|refine zs ?_|(refine zm ?_ ?_<;>intro j)|omega)
    exact⟨(i+1,c,w),⟨by dsimp only;omega,a,e.more<|by omega⟩,er id,by show p.M0.length-(i+1)<p.M0.length-i;omega⟩
  ·rw [Ar<|by omega] at f2;have f2:mu p.M0 d=u:=f2;repeat' (first|refine zs ?_|(refine zm ?_ ?_<;>intro j)|omega)
   have E:=W9 p.M0 n<|jr p.F0.length;rw [<- t,f2] at E;refine⟨(n+1,u,B),⟨by dsimp only;omega,E.symm,by dsimp only;rw [<- f3.1.1];exact G,λv o=>by have:=f3.2.2.2 v o;dsimp only;omega,λm C=>?_⟩,er id,by show p.F0.length+1-(n+1)<p.F0.length+1-n;omega⟩
   cases C;dsimp only;rw [E,<- t];cases B with
   | true=>rw [decide_eq_false<|f3.2.2.1 rfl];rfl
   | false=>rw [decide_eq_true<|f3.2.1 rfl];rfl
 ·have X:n=p.F0.length+1:=by omega
  subst X;have Y:=I _ rfl;repeat' (first|refine zs ?_|(refine zm ?_ ?_<;>intro j)|omega)
  refine ag (ck 2 rfl rfl rfl) ?_;repeat' (apply cr)
  have Z:tm p = !R:=by
   rw [Y,Bool.not_not,W9];rfl
  refine vm rfl ⟨by rw [t];rfl,by rw [Z]⟩
def sN {l:List U0} (h:N2 l):bg l=l:=l5 (bu l).1 h (bu l).2
structure HdOk (p:R3) (lv:List Int) (n:Nat) (S hs:List U0) (i:Nat):Prop where
 src:∀ x∈hs,∃ r∈p.M0,lv.getD r.N0.toNat 0=n/\x∈L7 S r
 all:∀ j (hj:j<p.M0.length),j<i->lv.getD (p.M0[j]).N0.toNat 0=n->J3 S p.M0[j]=true/\∀ x∈L7 S p.M0[j],x∈hs
 len:hs.length<=2000*i
attribute [local irreducible] DT
def BJ (p:R3) (l:List U0) (w:MOk p l) :
  Fn 119 [gy p,.s 2 (l.map aa)]
   (λr=>∃ (m:List U0) (b:Bool),r=.M2 [.s 2 (m.map aa),.b b]/\((b=true/\Z2 p (gn p) l p.F0.length m)∨(b=false/\m=[]/\¬ ∃ m,Z2 p (gn p) l p.F0.length m))):=by
 refine J2 func119 ?_;intro b4 w0 E0 K1;have y:=w.pr;have T:=w.fit;have b5:=w.len;have la:(p.F0.map aq).length=p.F0.length:=Aa _;have lr:(p.M0.map dq).length=p.M0.length:=Aa _;have b6:=y.IZ;have b7:=y.lZ;have k:=Ro p<|Qh w.prog;have z:=u9 l (by omega);generalize gn p=f at *;have c0:(f.map aq).length=f.length:=Aa _;repeat' (first|refine zs ?_|refine z21 ?_ k|refine z21 ?_ z|fail)
 refine ae (ι:=Nat×List U0) (λc=>⟨1,[(2,.loc 0 0),(6,.s 1<|f.map aq),(8,.s 2<|c.2.map aa),(9,.i c.1)],
   [(0,.M1 26 [.s 1 (p.F0.map aq),.s 1 (p.Z0.map qn),.s 5<|p.M0.map dq])]⟩)
  (λc=>c.1<=p.F0.length/\Z2 p f l c.1 c.2) (λc=>p.F0.length-c.1) (0,bg l) ⟨Ai _,rfl⟩
  (er id) ?_
 rintro⟨n,h⟩ ⟨g1,A⟩;dsimp only at g1 A ⊢;obtain⟨s1,s2,s3,s4⟩:=Z2.ok w.facts w.len A;have O:=Tl y T n h;by_cases P:n<p.F0.length
 ·clear k z;repeat' (first|refine zr ?_|(refine zm ?_ ?_<;>intro u)|omega)
  refine ae (ι:=Int×List U0) (λc=>⟨1,[(2,.loc 0 0),(6,.s 1<|f.map aq),(8,.s 2<|c.2.map aa),(9,.i n),(10,.i c.1)],
    [(0,.M1 26 [.s 1 (p.F0.map aq),.s 1 (p.Z0.map qn),.s 5<|p.M0.map dq])]⟩)
   (λc=>Md (V7 p f n h) h c.2/\(c.1 = -1∨∃ v,c.1=(v.length:Int)/\N2 v/\(∀ x∈v,x∈c.2)/\∀ r∈(V7 p f n h).rs,J3 v r=true/\∀ x∈L7 v r,x∈c.2)) (λc=>2*(61-c.2.length)+if c.1<c.2.length then 1 else 0) (-1,h) ⟨qk s1 ⟨s3,λ_ _=>Iff.rfl⟩ s2,.inl rfl⟩
   (er id) ?_
  rintro⟨a0,S⟩ ⟨g,Q⟩;dsimp only at g Q ⊢;have lS:(S.map aa).length=S.length:=Aa _;have a4:=g.len;repeat' ((fail_if_success (apply fh 10));(first|refine zs ?_|(refine zm ?_ ?_<;>intro u)|fail))
  ·refine ag (ce (t:=11) 95 2 rfl) ?_;refine zS ?_;refine ae (ι:=Nat×List U0) (λc=>⟨2,[(2,.loc 0 0),(6,.s 1<|f.map aq),(8,.s 2<|S.map aa),(9,.i n),(10,.i S.length),(11,.row 1),(12,.i c.1)],
     [(0,.M1 26 [.s 1 (p.F0.map aq),.s 1 (p.Z0.map qn),.s 5<|p.M0.map dq]),(1,.row 95 2<|c.2.map aa)]⟩)
    (λc=>c.1<=p.M0.length/\HdOk p f n S c.2 c.1) (λc=>p.M0.length-c.1) (0,[]) ⟨Ai _,⟨λx d=>by simp at d,λj _ a5=>absurd a5 (Nat.not_lt_zero j),by simp⟩⟩
    (er id ⟨rfl,rfl,rfl,rfl,by rw [<- lS];rfl,rfl,rfl,trivial⟩) ?_
   rintro⟨i,e⟩ ⟨r1,q⟩;dsimp only at r1 q ⊢;have lhs:(e.map aa).length=e.length:=Aa _;have c1:=q.len;by_cases E:i<p.M0.length
   ·have o:=y.gA _<|Ah E;have c2:=o.N0;have c3:=T.len;have J:f.getD (p.M0[i]).N0.toNat 0=f[(p.M0[i]).N0.toNat]'(by omega):=by rw [List.getD,List.getElem?_eq_getElem<|by omega];rfl
    have U:=nJ o y.ar g.a.1 g.strict.nodup;have V:=sN g.strict;have k:=WM S p.M0[i] a4 (by rw [V];exact ud o y.ar g.a.1);rw [V] at k;have z:=cK p.F0 p.M0[i] (gw S p.M0[i]) U;have c4:(bg<|jn p.M0[i]<|gw S p.M0[i]).length<=2000:=by
     refine Aw (l6 _) ?_;rw [sf];exact Aw (List.length_filterMap_le _ _) U.many
    have c5:((bg<|jn p.M0[i]<|gw S p.M0[i]).map aa).length=(bg<|jn p.M0[i]<|gw S p.M0[i]).length:=Aa _;by_cases F:f.getD (p.M0[i]).N0.toNat 0=n
    ·have a9:p.M0[i]∈(V7 p f n h).rs:=List.mem_filter.2 ⟨Ah E,decide_eq_true F⟩;rw [J] at F;cases L:J3 S p.M0[i] with
     | false =>
      rw [L] at k;clear z;repeat' (first|refine zs ?_|refine z21 ?_ k|(refine zm ?_ ?_<;>intro u)|omega)
      refine ag (ff 4 2 rfl) ?_;refine zR ?_;exact⟨.inl rfl,_,rfl,rfl,[],false,rfl,.inr ⟨rfl,rfl,Bu P A<|SL O g a9 L⟩⟩
     | true =>
      rw [L] at k;repeat' (first|refine zs ?_|refine z21 ?_ k|refine z21 ?_ z|(refine zm ?_ ?_<;>intro u)|omega)
      refine⟨(i+1,e++L7 S p.M0[i]),⟨E,λx d=>?_,λj B b0 C=>?_,?_⟩,er (λj=>match j with|1=>2|j=>j) (hH:=⟨rfl,by dsimp only;rw [Au];rfl,trivial⟩),by dsimp only;omega⟩
      ·rcases List.mem_append.1 d with d|d
       ·exact q.src x d
       ·exact⟨_,Ah E,J.trans F,d⟩
      ·by_cases G:j=i
       ·subst G;exact⟨L,λx d=>Bv _ d⟩
       ·obtain⟨H,I⟩:=q.all j B (by omega) C;exact⟨H,λx d=>Ax _<|I x d⟩
      ·dsimp only;rw [Ag];show e.length+(bg<|jn p.M0[i]<|gw S p.M0[i]).length<=_;omega
    ·rw [J] at F;clear k z;repeat' (first|refine zs ?_|(refine zm ?_ ?_<;>intro u)|omega)
     exact⟨(i+1,e),⟨E,q.src,λj B b0 C=>by
      by_cases G:j=i
      ·subst G;exact absurd (J.symm.trans C) F
      ·exact q.all j B (by omega) C,by dsimp only;omega⟩,er id,by dsimp only;omega⟩
   ·have b1:i=p.M0.length:=by omega
    subst b1;have M:=bu<|fk e S;have c6:(bg<|fk e S).length<=e.length:=Aw (l6 _)<|Cd _ _;have w3:=EJ e S (by omega);have w4:=yI S (bg<|fk e S) (by omega);have lH:((bg<|fk e S).map aa).length=(bg<|fk e S).length:=Aa _;have W:∀ x∈bg (fk e S),∃ r∈(V7 p f n h).rs,∃ X,Md (V7 p f n h) h X/\x∈(V7 p f n h).hd X r:=by
     intro x d;obtain⟨r,H,I,a3⟩:=q.src x (List.mem_filter.1<|(M.2 x).1 d).1;exact⟨r,List.mem_filter.2 ⟨H,decide_eq_true I⟩,S,g,a3⟩
    repeat' (first|refine zs ?_|(refine zm ?_ ?_<;>intro u)|omega)
    refine dm (ck 74 rfl rfl rfl) ?_;repeat' (first|refine zs ?_|refine z21 ?_ w3|refine z21 ?_ w4|(refine zm ?_ ?_<;>intro u)|omega)
    ·refine ag (ff 4 2 rfl) ?_;refine zR ?_;refine⟨.inl rfl,_,rfl,rfl,[],false,rfl,.inr ⟨rfl,rfl,Bu P A<|RL O g W M.1.nodup (λx d N=>?_)<|by omega⟩⟩
     have:=(List.mem_filter.1<|(M.2 x).1 d).2
     rw [M4.2 N] at this;cases this
    ·have R:=bu<|S++bg (fk e S);have b2:=l6<|S++bg (fk e S);rw [Ag] at b2;have Y:=Yh O g W (by omega);have e5:S.length<=(bg<|S++bg (fk e S)).length:=om g.strict.nodup λx d=>(R.2 x).2 (Ax _ d)
     have e6:=Y.len;refine⟨((S.length:Int),bg<|S++bg (fk e S)),⟨Y,.inr ⟨S,rfl,g.strict,λx d=>(R.2 x).2 (Ax _ d),λr o=>?_⟩⟩,er id,?_⟩
     ·obtain⟨hm,C⟩:=List.mem_filter.1 o;obtain⟨j,B,rfl⟩:=List.mem_iff_getElem.1 hm;obtain⟨H,I⟩:=q.all j B B<|of_decide_eq_true C;refine⟨H,λx d=>(R.2 x).2 ?_⟩
      by_cases N:Z4 S x=true
      ·exact Ax _<|M4.1 N
      ·exact Bv _<|(M.2 x).2<|List.mem_filter.2 ⟨I x d,by simpa using N⟩
     ·dsimp only;rw [if_pos (by omega:a0<(S.length:Int))];split<;>omega
  ·rcases Q with Q|⟨v,e1,e2,e3,Z⟩
   ·exfalso;omega
   ·have G:=DF e2 g.strict e3 (by omega);subst G;exact⟨(n+1,v),⟨P,h,A,vx g (λr o=>(Z r o).1) λr o=>(Z r o).2⟩,er id,by dsimp only;omega⟩
 ·have b3:n=p.F0.length:=by omega
  subst b3;repeat' (first|refine zr ?_|(refine zm ?_ ?_<;>intro u)|omega)
  exact⟨.inl rfl,_,rfl,rfl,h,true,rfl,.inl ⟨rfl,A⟩⟩
def EA (p:R3) (l:List U0):Fn 118 [gy p,.s 2 (l.map aa)] (λr=>r=.i (t6 p l)):=by
 refine J2 func118 ?_;intro O g h j;have a:=sB p;have d:=FA p l;unfold t6;by_cases c:dn db p=0
 ·have b:=Ro p<|Qh c;rw [c] at a ⊢;rw [if_neg<|by simp];cases f:tm p with
  | true =>
   rw [f] at b;rw [if_neg<|by simp];repeat' (first|refine zr ?_|refine z21 ?_ a|refine z21 ?_ b|refine z21 ?_ d|omega)
   exact⟨.inl rfl,_,rfl,rfl,rfl⟩
  | false =>
   rw [f] at b;rw [if_pos rfl];repeat' (first|refine zr ?_|refine z21 ?_ a|refine z21 ?_ b|omega)
   exact⟨.inl rfl,_,rfl,rfl,rfl⟩
 ·rw [if_pos c];generalize dn db p=e at *;clear d;repeat' (first|refine zr ?_|refine z21 ?_ a|(refine zm ?_ ?_<;>intro k)|omega)
  exact⟨.inl rfl,_,rfl,rfl,rfl⟩
def QD (p:R3) (l:List U0) (e:Int) (m:List U0) (g:Z3 p l e m):Fn 53 [gy p,.s 2 (l.map aa)] (λr=>r=.M2 [.s 2 (m.map aa),.i e]):=by
 refine J2 func53 ?_;intro O j k n;have a:=EA p l;by_cases c:t6 p l=0
 ·rw [c] at a;have h:=BJ p l<|lX c;repeat' (first|refine zs ?_|refine z21 ?_ a|omega)
  apply yq;exact rfl;exact rfl;exact h;(iterate 3 exact rfl);rintro _ ⟨m',b,rfl,⟨rfl,q1⟩|⟨rfl,rfl,q1⟩⟩
  ·obtain⟨d,f⟩:=g.unique<|.ok m' c q1;subst d;subst f;clear a h;refine zR ?_;all_goals try omega
   exact⟨.inl rfl,_,rfl,rfl,rfl⟩
  ·obtain⟨d,f⟩:=g.unique<|.Vv c q1;subst d;subst f;clear a h;refine zS ?_;all_goals try omega
   refine ag (ff 4 2 rfl) ?_;refine zR ?_;exact⟨.inl rfl,_,rfl,rfl,rfl⟩
 ·obtain⟨d,f⟩:=g.unique<|.bad c;subst d;subst f;generalize t6 p l=e at *;repeat' (first|refine zs ?_|refine z21 ?_ a|(refine zm ?_ ?_<;>intro o)|omega)
  refine ag (ff 4 2 rfl) ?_;refine zR ?_;exact⟨.inl rfl,_,rfl,rfl,rfl⟩
def pH (l:List U0) (e w:Int) (d:List U0):Fn 22 [.s 2 (l.map aa),.i e,.i w,.s 2 (d.map aa)] (λr=>r=.b (decide (e=w)&&e8 U0.same l (if w≠0 then [] else d))):=by
 refine J2 func22 ?_;intro O j k m;have f:=mn l d;have g:=mn l [];by_cases h:w=0
 ·rw [if_neg<|by simp [h]];clear g;by_cases a:e=w
  ·rw [decide_eq_true a,Do];repeat' (first|refine zr ?_|refine z21 ?_ f|(refine zm ?_ ?_<;>intro c)|omega)
   exact⟨.inl rfl,_,rfl,rfl,rfl⟩
  ·rw [decide_eq_false a,E9];repeat' (first|refine zr ?_|refine z21 ?_ f|(refine zm ?_ ?_<;>intro c)|omega)
   exact⟨.inl rfl,_,rfl,rfl,rfl⟩
 ·rw [if_pos h];clear f;by_cases a:e=w
  ·rw [decide_eq_true a,Do];repeat' ((fail_if_success (apply fh 3));(first|refine zs ?_|(refine zm ?_ ?_<;>intro c)|fail))
   all_goals try omega
   refine ag (ff 3 2 rfl) ?_;repeat' (first|refine zr ?_|refine z21 ?_ g|(refine zm ?_ ?_<;>intro c)|omega)
   exact⟨.inl rfl,_,rfl,rfl,rfl⟩
  ·rw [decide_eq_false a,E9];repeat' ((fail_if_success (apply fh 3));(first|refine zs ?_|(refine zm ?_ ?_<;>intro c)|fail))
   all_goals try omega
   refine ag (ff 3 2 rfl) ?_;repeat' (first|refine zr ?_|refine z21 ?_ g|(refine zm ?_ ?_<;>intro c)|omega)
   exact⟨.inl rfl,_,rfl,rfl,rfl⟩
def jw:O3:=⟨1,[⟨0,0⟩,⟨1,0⟩],0,[⟨1,0,0,[⟨0,0⟩,⟨1,0⟩]⟩],2⟩
def jh:P1.M0=[jw,rk]:=rfl
def XA:tm P1=true:=by kernel_rfl
def zz:gn P1=[0,0]:=by kernel_rfl
def WA:t6 P1 gu=0:=by unfold t6;rw [if_neg (by rw [show dn db P1=0 by kernel_rfl];simp),if_neg<|by rw [XA];simp];kernel_rfl
def x6 {S:List U0} {r:O3} {o:List (List Int)} (h:ek S r.body (k8 r.body) (e0 r.vars.toNat)=o) (c:we o) (d:o.length<=2000):J3 S r=true/\gw S r=o:=by
 have a:ua S r.vars.toNat r.body=o:=(zn c<|by rw [h]).symm;have b:J3 S r=true:=by unfold J3;rw [a];exact decide_eq_true d
 exact⟨b,by unfold gw;rw [if_pos b,a]⟩
def VA {a b:List Int} (h:dy a b<=0):we [a,b]:=List.pairwise_cons.2 ⟨λx c=>by rw [A1] at c;subst c;exact h,Dc _ _⟩
def FJ:List U0:=[⟨0,[1,2]⟩,⟨0,[2,3]⟩,⟨1,[1,2]⟩,⟨1,[2,3]⟩]
def zV:J3 gu jw=true/\gw gu jw=[[1,2],[2,3]]:=x6 (by kernel_rfl) (VA<|by decide)<|by simp
def BR:J3 P4 jw=true/\gw P4 jw=[[1,2],[2,3]]:=x6 (by kernel_rfl) (VA<|by decide)<|by simp
def nZ:J3 FJ rk=true/\gw FJ rk=[[1,2,3]]:=x6 (by kernel_rfl) (Dc _ _)<|by simp
def AR:J3 P4 rk=true/\gw P4 rk=[[1,2,3]]:=x6 (by kernel_rfl) (Dc _ _)<|by simp
def kN:∀ x∈P4,K5 P1.F0 x:=by
 intro x a;have:bp (gm P1.F0) P4=0:=by kernel_rfl
 exact Tx<|jk this x a
def WC:N2 P4:=by
 have:=(bu P4).1
 rw [show bg P4=P4 by kernel_rfl] at this;exact this
def sF:Z3 P1 gu 0 P4:=by
 have d:=lX WA;have g:=Tl d.pr d.fit 0 gu;have h:bg gu=gu:=by kernel_rfl
 have o:N2 gu:=by
  have:=(bu gu).1
  rw [h] at this;exact this
 have i:Md (V7 P1 (gn P1) 0 gu) gu gu:=qk o ⟨d.facts,λ_ _=>Iff.rfl⟩ (by decide);have p:jw∈(V7 P1 (gn P1) 0 gu).rs:=List.mem_filter.2 ⟨by rw [jh];simp,by rw [zz];decide⟩;have q:rk∈(V7 P1 (gn P1) 0 gu).rs:=List.mem_filter.2 ⟨by rw [jh];simp,by rw [zz];decide⟩;have s:L7 gu jw=[⟨1,[1,2]⟩,⟨1,[2,3]⟩]:=by unfold L7;rw [zV.2];kernel_rfl
 have b:L7 FJ rk=[⟨1,[1,3]⟩]:=by unfold L7;rw [nZ.2];kernel_rfl
 have t:L7 P4 jw=[⟨1,[1,2]⟩,⟨1,[2,3]⟩]:=by unfold L7;rw [BR.2];kernel_rfl
 have u:L7 P4 rk=[⟨1,[1,3]⟩]:=by unfold L7;rw [AR.2];kernel_rfl
 have e:=Yh g i (H:=[⟨1,[1,2]⟩,⟨1,[2,3]⟩]) (λx a=>⟨jw,p,gu,i,by show x∈L7 gu jw;rw [s];exact a⟩) (by decide);rw [show bg (gu++[⟨1,[1,2]⟩,⟨1,[2,3]⟩])=FJ by kernel_rfl] at e;have j:=Yh g e (H:=[⟨1,[1,3]⟩]) (λx a=>⟨rk,q,FJ,e,by show x∈L7 FJ rk;rw [b];exact a⟩) (by decide);rw [show bg (FJ++[⟨1,[1,3]⟩])=P4 by kernel_rfl] at j;have v:Fit (V7 P1 (gn P1) 0 gu) gu P4:=by
  have k:∀ r∈(V7 P1 (gn P1) 0 gu).rs,J3 P4 r=true/\∀ x∈L7 P4 r,x∈P4:=by
   intro r f;have c:=(List.mem_filter.1 f).1;rw [jh] at c;simp only [Bl,B6,or_false] at c;rcases c with rfl|rfl
   ·refine⟨BR.1,λx a=>?_⟩
    rw [t] at a;simp only [Bl,B6,or_false] at a;rcases a with rfl|rfl<;>simp [P4]
   ·refine⟨AR.1,λx a=>?_⟩
    rw [u] at a;simp only [Bl,B6,or_false] at a;subst a;simp [P4]
  exact vx j (λr b=>(k r b).1) λr b=>(k r b).2
 have w:Fit (V7 P1 (gn P1) 1 P4) P4 P4:=by
  have m:∀ r∈(V7 P1 (gn P1) 1 P4).rs,False:=by
   intro r f;obtain⟨c,n⟩:=List.mem_filter.1 f;rw [jh] at c;simp only [Bl,B6,or_false] at c;rw [zz] at n;rcases c with rfl|rfl<;>exact absurd (of_decide_eq_true n)<|by decide
  exact vx (qk WC ⟨kN,λ_ _=>Iff.rfl⟩<|by decide) (λr b=>(m r b).elim) λr b=>(m r b).elim
 refine .ok P4 WA ⟨P4,⟨gu,?_,?_⟩,?_⟩
 ·show gu=bg gu;exact h.symm
 ·exact v
 ·exact w

abbrev Pa (a b:List U0):SV:=.agg [.d (.own Y0.B (.slice 2 (a.map aa))),.d (.own Y0.B (.slice 2 (b.map aa)))]
def BE (m n:List U0) (a:m.length<=4398046511104) (b:n.length<=4398046511104) (c:∀ x∈m,x.args.length<=17592186044416) (hb:∀ x∈n,x.args.length<=17592186044416) :
  Fn 130 [.s 2 (m.map aa),.s 2 (n.map aa)] (λr=>r=Pa (bg (fk n m)) (bg (fk m n))):=by
 refine J2 func130 ?_;intro O f g h;have d:=DB n m b a hb c;have e:=DB m n a b c hb;rw [DJ] at d e;repeat' (first|refine zr ?_|refine z21 ?_ d|refine z21 ?_ e|fail)
 exact⟨.inl rfl,_,rfl,rfl,rfl⟩
def Q4.put {r a:X2} {u:X0} (h:Q4 r) (hc:cp u=0) (d:R1 r.both u.id=false) (g:r.I0.length+r.K0.length<200) (b:R2 (u::r.both) a):Q4 a:=by
 have e:=(P5.self h.ok).step d b;have f:=e.len;have i:a.both.length=a.I0.length+a.K0.length:=Ag;have j:r.both.length=r.I0.length+r.K0.length:=Ag;rw [List.length_cons] at f;refine⟨b.self,by omega,λv c=>?_⟩
 rcases List.mem_cons.1 ((b.all v).2<|List.mem_append.1 c) with rfl|c
 ·exact hc
 ·exact h.each v c
def Nc (p:R3) (l:List U0):(U7 p l).2.length<=60/\∀ x∈(U7 p l).2,x.args.length<=3:=by
 have h:=Xv p l;obtain⟨_,c,d⟩:=h.strict;refine⟨c,λx a=>?_⟩
 by_cases b:(U7 p l).1=0
 ·rw [b] at h;exact UD (lX h.ok0).pr<|d x a
 ·rw [vG b] at a;cases a
def EK (p:R3) (r:X2) (m:List U0) (u:X0) (c:Q4 r) (P:m.length<=60) (L:∀ x∈m,x.args.length<=3):X1 false prog U5 bt 61 [.loc 0 0,fg u] 1 3 (dA p m r)
  (λk f H=>k=3/\f=.M2 [Pa (N5 p r m u).2.2.1.1 (N5 p r m u).2.2.1.2,.i (N5 p r m u).2.2.2]/\H=dA p (N5 p r m u).2.1 (N5 p r m u).1):=by
 refine T8 func61 ?_;intro O Q R S;have T:=c.len;have q:=si u;have a:N5 p r m u=if cp u≠0 then (r,m,([],[]),cp u)
  else if R1 r.both u.id=true then (r,m,([],[]),0)
  else if 200<=r.both.length then (r,m,([],[]),2)
  else if (U7 p<|dt p<|J8 r u).1≠0 then (J8 r u,(U7 p<|dt p<|J8 r u).2,([],[]),(U7 p<|dt p<|J8 r u).1)
  else (J8 r u,(U7 p<|dt p<|J8 r u).2,(bg (fk (U7 p<|dt p<|J8 r u).2 m),bg<|fk m (U7 p<|dt p<|J8 r u).2),0):=rfl
 generalize N5 p r m u=s at *;by_cases o:cp u=0
 ·rw [if_neg<|by simpa using o] at a;rw [o] at q;have E:X1 false prog U5 bt 90 [.row 0,o5 u.id] 1 1 [(0,.row 35 5<|r.I0.map au)] (λ_ f g=>f=.b (R1 r.I0 u.id)/\g=[(0,.row 35 5<|r.I0.map au)]):=
   I3.Rk ((uq r.I0 u.id (by omega) c.ok.sh).Xa<|bm dx r.I0) rfl rfl (by rintro _ rfl;rfl)
  have F:X1 false prog U5 bt 90 [.row 0,o5 u.id] 1 1 [(0,.row 35 5<|r.K0.map au)] (λ_ f g=>f=.b (R1 r.K0 u.id)/\g=[(0,.row 35 5<|r.K0.map au)]):=
   I3.Rk ((uq r.K0 u.id (by omega) c.ok.sw).Xa<|bm dx r.K0) rfl rfl (by rintro _ rfl;rfl)
  have h:=vw r.I0 r.K0 u.id;repeat' (first|refine zs ?_|refine z21 ?_ q|omega)
  refine rh (λj=>match j with|0=>1|j=>j) E (by rintro _ rfl;exact⟨rfl,rfl⟩) ⟨_,rfl⟩ rfl rfl rfl rfl ⟨rfl,trivial⟩ rfl rfl rfl rfl rfl rfl rfl rfl rfl ?_;rintro _ rfl;clear q E;cases t:R1 r.I0 u.id with
  | true =>
   rw [if_pos<|by rw [t] at h;exact h] at a;subst a;refine zS ?_;all_goals try omega
   refine ag (av 4 0 2 rfl rfl rfl) ?_;refine ag (av 4 1 2 rfl rfl rfl) ?_;refine zR ?_;exact⟨.inl rfl,_,rfl,kp id 3 (.M2 [Pa [] [],.i 0]) (dA p m r) ⟨rfl,rfl,rfl⟩⟩
  | false =>
   repeat' refine z5 ?_
   all_goals try omega
   refine rh (λj=>match j with|0=>2|j=>j) F (by rintro _ rfl;exact⟨rfl,rfl⟩) ⟨_,rfl⟩ rfl rfl rfl rfl ⟨rfl,trivial⟩ rfl rfl rfl rfl rfl rfl rfl rfl rfl ?_;rintro _ rfl;clear F;cases w:R1 r.K0 u.id with
   | true =>
    rw [if_pos<|by rw [t,w] at h;exact h] at a;subst a;refine zS ?_;all_goals try omega
    refine ag (av 4 0 2 rfl rfl rfl) ?_;refine ag (av 4 1 2 rfl rfl rfl) ?_;refine zR ?_;exact⟨.inl rfl,_,rfl,kp id 3 (.M2 [Pa [] [],.i 0]) (dA p m r) ⟨rfl,rfl,rfl⟩⟩
   | false =>
    have G:R1 r.both u.id=false:=by rw [t,w] at h;exact h
    rw [if_neg<|by rw [G];simp] at a;have I:=AV p m r u c.ok (by omega) (by omega) (im o) (λv y=>im<|c.each v<|Ax _ y)<|λv y=>im<|c.each v<|Bv _ y;repeat' ((fail_if_success (apply br 6));(first|refine zs ?_|fail))
    all_goals try omega
    refine lz 4 (by kernel_rfl) (by kernel_rfl) (by kernel_rfl) rfl rfl rfl ?_;repeat' ((fail_if_success (apply br 6));(first|refine zs ?_|fail))
    refine aw id I rfl rfl rfl rfl ⟨rfl,rfl,rfl,trivial⟩ rfl rfl rfl rfl rfl rfl ?_ ?_
    ·rintro k2 f g ⟨rfl,⟨_,rfl,rfl⟩|⟨_,_,_,rfl,rfl⟩|⟨_,_,_,r2,_,rfl,rfl⟩⟩<;>exact⟨rfl,rfl⟩
    clear I;rintro k2 f g ⟨rfl,⟨hor,rfl,rfl⟩|⟨_,_,hfull,rfl,rfl⟩|⟨_,_,hroom,r2,hr2,rfl,rfl⟩⟩
    ·exfalso;rw [t,w] at hor;simp at hor
    ·rw [if_pos<|by rw [Ag];exact hfull] at a;subst a;change DS _ _ _ _ _ _ _ _;refine zS ?_;all_goals try omega
     refine ag (av 4 0 2 rfl rfl rfl) ?_;refine ag (av 4 1 2 rfl rfl rfl) ?_;refine zR ?_;exact⟨.inl rfl,_,rfl,kp (λj=>match j with|1=>6|2=>7|j=>j) 3 (.M2 [Pa [] [],.i 2]) (dA p m r) ⟨rfl,rfl,rfl⟩⟩
    ·rw [if_neg (by rw [Ag];omega),Cr hr2] at a;have M:=c.put o G hroom hr2;change DS _ _ _ _ _ _ _ _;have z:=aM p m r2 M;have A:=Nc p<|dt p r2;generalize U7 p (dt p r2)=x at *;obtain⟨e,n⟩:=x;dsimp only at a z A;refine zS ?_;all_goals try omega
     refine aw (λj=>match j with|1=>6|2=>7|j=>j) z rfl rfl rfl rfl ⟨rfl,rfl,rfl,trivial⟩ rfl rfl rfl rfl rfl rfl ?_ ?_
     ·rintro k2 f g ⟨rfl,rfl,rfl⟩;exact⟨rfl,rfl⟩
     rintro k2 f g ⟨rfl,rfl,rfl⟩;change DS _ _ _ _ _ _ _ _;clear z;by_cases J:e=0
     ·subst J;rw [if_neg<|by simp] at a;subst a;have N:=(BE m n (by omega) (by have:=A.1;omega) (λx C=>by have:=L x C;omega)<|λx C=>by have:=A.2 x C;omega).Y6 [.d (.own Y0.B<|.slice 2<|m.map aa),.d<|.own Y0.B<|.slice 2<|n.map aa] rfl;repeat' (first|refine zr ?_|refine z21 ?_ N|omega)
      exact⟨.inl rfl,_,rfl,kp (λj=>match j with|1=>9|2=>10|j=>j) 3 (.M2 [Pa (bg<|fk n m) (bg<|fk m n),.i 0]) (dA p n r2) ⟨rfl,rfl,rfl⟩⟩
     ·rw [if_pos J] at a;subst a;repeat' (first|refine zs ?_|(refine zm ?_ ?_<;>intro c)|omega)
      refine ag (av 4 0 2 rfl rfl rfl) ?_;refine ag (av 4 1 2 rfl rfl rfl) ?_;refine zR ?_;exact⟨.inl rfl,_,rfl,kp (λj=>match j with|1=>9|2=>10|j=>j) 3 (.M2 [Pa [] [],.i e]) (dA p n r2) ⟨rfl,rfl,rfl⟩⟩
 ·rw [if_pos o] at a;subst a;repeat' (first|refine zs ?_|refine z21 ?_ q|(refine zm ?_ ?_<;>intro c)|omega)
  refine ag (av 4 0 2 rfl rfl rfl) ?_;refine ag (av 4 1 2 rfl rfl rfl) ?_;refine zR ?_;exact⟨.inl rfl,_,rfl,kp id 3 (.M2 [Pa [] [],.i<|cp u]) (dA p m r) ⟨rfl,rfl,rfl⟩⟩
abbrev Oa (c:YW):List D:=[.slice 2 (c.1.map aa),.slice 2 (c.2.map aa)]
abbrev mE (c:YW):List D:=[.own Y0.B (.slice 2 (c.1.map aa)),.own Y0.B (.slice 2 (c.2.map aa))]
def MR (c:YW):N7 (mE c) (Oa c):=⟨.inl rfl,.inl rfl,trivial⟩
abbrev zU (m:List U0):Prop:=m.length<=60/\∀ x∈m,x.args.length<=3
def II {p:R3} {r:X2} {m:List U0} {u:X0} (a:Q4 r) (b:zU m):Q4 (N5 p r m u).1/\zU (N5 p r m u).2.1:=by
 unfold N5;by_cases c:cp u=0
 ·rw [if_neg<|by simpa using c];by_cases d:R1 r.both u.id=true
  ·rw [if_pos d];exact⟨a,b⟩
  ·rw [if_neg d];have e:R1 r.both u.id=false:=by simpa using d
   by_cases f:200<=r.both.length
   ·rw [if_pos f];exact⟨a,b⟩
   ·rw [if_neg f];obtain⟨_,i,g⟩:=a.ok.add e;have j:r.both.length=r.I0.length+r.K0.length:=Ag;have h:Q4 (J8 r u):=by
     rw [Cr g];exact a.put c e (by omega) g
    split
    ·exact⟨h,Nc _ _⟩
    ·exact⟨h,Nc _ _⟩
 ·rw [if_pos c];exact⟨a,b⟩
def Wg (p:R3) (r:X2) (l:List X0) (h1:r.I0.length<=4398046511104) (N:r.K0.length<=4398046511104):Fn 17 [gy p,df r,.s 5 (l.map ak)]
  (λk=>k=.M2 [qo (R6 p r l).1,.d (.own Y0.B (.slice 2 ((R6 p r l).2.1.map Oa))),.i (R6 p r l).2.2]):=by
 refine J2 func17 ?_;intro O W X Y;have A:=QL p r h1 N;have a:R6 p r l=if (J4 p r).2≠0 then (Xk,[],(J4 p r).2)
  else if 200<l.length then (Xk,[],2)
  else if (Ve p l r (J4 p r).1 []).2.2.2≠0 then (Xk,[],(Ve p l r (J4 p r).1 []).2.2.2)
  else ((Ve p l r (J4 p r).1 []).1,(Ve p l r (J4 p r).1 []).2.2.1,0):=rfl
 have o:J4 p r=if dn db p≠0 then ([],dn db p) else if bq r≠0 then ([],bq r) else ((U7 p<|dt p r).2,(U7 p<|dt p r).1):=rfl
 generalize R6 p r l=v at *;have Z:(l.map ak).length=l.length:=Aa _;refine zS ?_;refine aw id A rfl rfl rfl rfl trivial rfl rfl rfl rfl rfl rfl ?_ ?_
 ·rintro k2 k H2 (⟨_,_,rfl,rfl,rfl⟩|⟨_,rfl,rfl,rfl⟩)<;>exact⟨rfl,rfl⟩
 rintro k2 k H2 (⟨g,m,rfl,rfl,rfl⟩|⟨hpr,rfl,rfl,rfl⟩)
 ·rw [if_neg (by simpa using g),if_neg<|by simpa using m] at o;have F:=Nc p<|dt p r;generalize U7 p (dt p r)=x at *;obtain⟨G,H⟩:=x;rw [o] at a;dsimp only at a F;clear A;change DS _ _ _ _ _ _ _ _;by_cases c:G=0
  ·subst c;rw [if_neg<|by simp] at a;by_cases I:200<l.length
   ·rw [if_pos I] at a;subst a;repeat' (first|refine zs ?_|(refine zm ?_ ?_<;>intro f)|omega)
    refine ae (ι:=Unit) (λ_=>⟨1,[(2,.s 5<|l.map ak),(6,.loc 0 0),(10,.i 2),(11,.Q1),(12,.i 0)],[(0,.M1 29 [.Q1,.Q1])]⟩) (λ_=>True) (λ_=>0) () trivial (er<|λj=>match j with|0=>2|j=>j) ?_;intro _ _;repeat' (first|refine zs ?_|(refine zm ?_ ?_<;>intro f)|omega)
    all_goals try (exfalso;first|(exact absurd (by assumption)<|show (2:Int)≠0 by decide)|(revert (show (2:Int)≠0 by decide);simp_all;done))
    all_goals
     refine ag (av 0 0 5 rfl rfl rfl) ?_;refine ag (av 0 1 5 rfl rfl rfl) ?_;refine ag (ea 7 2 rfl) ?_;refine zR ?_;exact⟨.inl rfl,_,rfl,rfl,rfl⟩
   ·rw [if_neg I] at a;repeat' (first|refine zs ?_|(refine zm ?_ ?_<;>intro f)|omega)
    refine ag (ce (t:=11) 64 2 rfl) ?_;generalize P:Ve p l r H []=R at a;refine ae (ι:=Nat×X2×List U0×List YW×Int) (λx=>⟨5,[(2,.s 5<|l.map ak),(6,.loc 4 0),(9,.loc 0 0),(10,.i x.2.2.2.2),(11,.row 3),(12,.i x.1)],
      [(0,PZ p x.2.2.1),(1,.row 35 5<|x.2.1.I0.map au),(2,.row 35 5<|x.2.1.K0.map au),(3,.row 64 2<|x.2.2.2.1.map mE),(4,.M1 29 [.Q1,.Q1])]⟩)
     (λx=>x.1<=l.length/\Q4 x.2.1/\zU x.2.2.1/\x.2.2.2.1.length=x.1/\((x.2.2.2.2=0/\R=Ve p (l.drop x.1) x.2.1 x.2.2.1 x.2.2.2.1)∨(x.2.2.2.2≠0/\R=(x.2.1,x.2.2.1,x.2.2.2.1,x.2.2.2.2)))) (λx=>l.length-x.1)
     (0,r,H,[],0) ⟨Ai _,Q4.of m,F,rfl,.inl ⟨rfl,P.symm⟩⟩ (er<|λj=>match j with|0=>3|1=>4|2=>5|3=>6|4=>2|j=>j) ?_
    rintro⟨i,q,w,n,e⟩ ⟨Q,C,y,J,b⟩;dsimp only at Q C y J b ⊢;have la:(n.map mE).length=n.length:=Aa _;by_cases c:e=0
    ·subst c;have b:R=Ve p (l.drop i) q w n:=by
      rcases b with ⟨_,h⟩|⟨h,_⟩
      ·exact h
      ·exact absurd rfl h
     by_cases L:i<l.length
     ·have M:=EK p q w l[i] C y.1 y.2;obtain⟨S,T⟩:=II (p:=p) (u:=l[i]) C y;rw [An L,Ve] at b;generalize N5 p q w l[i]=t at *;repeat' (first|refine zs ?_|(refine zm ?_ ?_<;>intro f)|omega)
      refine aw id M rfl rfl rfl rfl ⟨rfl,rfl,rfl,trivial⟩ rfl rfl rfl rfl rfl rfl ?_ ?_
      ·rintro k2 k H2 ⟨rfl,rfl,rfl⟩;exact⟨rfl,rfl⟩
      rintro k2 k H2 ⟨rfl,rfl,rfl⟩;change DS _ _ _ _ _ _ _ _;clear M;refine zS ?_;all_goals try omega
      refine⟨(i+1,t.1,t.2.1,n++[t.2.2.1],t.2.2.2),⟨L,S,T,by dsimp only;rw [Ag,J];rfl,?_⟩,er (λj=>match j with|1=>6|2=>7|3=>9|j=>j) (hH:=⟨rfl,rfl,rfl,by rw [Au];rfl,rfl,trivial⟩),by show l.length-(i+1)<l.length-i;omega⟩
      dsimp only;by_cases z:t.2.2.2=0
      ·rw [if_neg<|by simpa using z] at b;exact .inl ⟨z,b⟩
      ·rw [if_pos z] at b;exact .inr ⟨z,b⟩
     ·have U:l.drop i=[]:=List.drop_eq_nil_of_le (by omega);rw [U,Ve] at b;subst b;rw [if_neg<|by simp] at a;subst a;repeat' (first|refine zs ?_|(refine zm ?_ ?_<;>intro f)|omega)
      refine ag (fv 4 0 1 (bm dx _) rfl rfl rfl rfl rfl) ?_;refine ag (fv 4 1 2 (bm dx _) rfl rfl rfl rfl rfl) ?_;refine ag (ka 7 (bm MR _) rfl rfl rfl) ?_;repeat' (apply cr)
      exact⟨.inl rfl,_,rfl,rfl,rfl⟩
    ·have b:R=(q,w,n,e):=by
      rcases b with ⟨h,_⟩|⟨_,h⟩
      ·exact absurd h c
      ·exact h
     subst b;rw [if_pos c] at a;subst a;repeat' (first|refine zs ?_|(refine zm ?_ ?_<;>intro f)|omega)
     all_goals
      refine ag (av 4 0 5 rfl rfl rfl) ?_;refine ag (av 4 1 5 rfl rfl rfl) ?_;refine ag (ea 7 2 rfl) ?_;refine zR ?_;exact⟨.inl rfl,_,rfl,rfl,rfl⟩
  ·rw [if_pos c] at a;subst a;repeat' (first|refine zs ?_|(refine zm ?_ ?_<;>intro f)|omega)
   refine ae (ι:=Unit) (λ_=>⟨1,[(2,.s 5<|l.map ak),(6,.loc 0 0),(10,.i G),(11,.Q1),(12,.i 0)],[(0,.M1 29 [.Q1,.Q1])]⟩) (λ_=>True) (λ_=>0) () trivial (er<|λj=>match j with|0=>2|j=>j) ?_;intro _ _;repeat' (first|refine zs ?_|(refine zm ?_ ?_<;>intro f)|omega)
   all_goals try (exfalso;first|(exact absurd (by assumption) c)|(revert c;simp_all;done))
   all_goals
    refine ag (av 0 0 5 rfl rfl rfl) ?_;refine ag (av 0 1 5 rfl rfl rfl) ?_;refine ag (ea 7 2 rfl) ?_;refine zR ?_;exact⟨.inl rfl,_,rfl,rfl,rfl⟩
 ·clear A;change DS _ _ _ _ _ _ _ _;have V:(J4 p r).2=(if dn db p≠0 then dn db p else bq r)/\(J4 p r).2≠0:=by
   rw [o];by_cases g:dn db p=0
   ·have m:bq r≠0:=λh=>hpr ⟨g,h⟩
    rw [if_neg (by simpa using g),if_pos m,if_neg<|by simpa using g];exact⟨rfl,m⟩
   ·rw [if_pos g,if_pos g];exact⟨rfl,g⟩
  obtain⟨c,E⟩:=V;rw [if_pos E] at a;subst a;rw [<- c];generalize (J4 p r).2=e at *;clear o hpr;repeat' (first|refine zs ?_|(refine zm ?_ ?_<;>intro f)|omega)
  refine ae (ι:=Unit) (λ_=>⟨1,[(2,.s 5<|l.map ak),(6,.loc 0 0),(10,.i e),(11,.Q1),(12,.i 0)],[(0,.M1 29 [.Q1,.Q1])]⟩) (λ_=>True) (λ_=>0) () trivial (er<|λj=>match j with|0=>2|j=>j) ?_;intro _ _;repeat' (first|refine zs ?_|(refine zm ?_ ?_<;>intro f)|omega)
  all_goals try (exfalso;first|(exact absurd (by assumption) E)|(revert E;simp_all;done))
  all_goals
   refine ag (av 0 0 5 rfl rfl rfl) ?_;refine ag (av 0 1 5 rfl rfl rfl) ?_;refine ag (ea 7 2 rfl) ?_;refine zR ?_;exact⟨.inl rfl,_,rfl,rfl,rfl⟩
def UE (p:R3) (r:X2) (l:List X0) (h1:r.I0.length<=4398046511104) (a:r.K0.length<=4398046511104):Fn 17 [gy p,df r,.s 5 (l.map ak)]
  (λb=>b=.M2 [df (R6 p r l).1,.s 2 ((R6 p r l).2.1.map Oa),.i (R6 p r l).2.2]):=(Wg p r l h1 a).Z5
def uN (p:R3) (r:X2) (a:Q4 r):Fn 54 [gy p,df r] (λk=>k=.s 2 ((dt p r).map aa)):=by
 refine J2 func54 ?_;intro O o u v;obtain⟨w,x,y⟩:=a.bounds;have z:=a.len;have h:=mK r (by omega) (by omega);have m:bg ((Ga r.I0).flatMap X0.F1)=Jh r:=rfl;rw [m] at h;have n:dt p r=(Jh r).filter λf=>decide (gm p.F0 f=0):=rfl
 generalize dt p r=q at *;generalize Jh r=S at *;have A:(S.map aa).length=S.length:=Aa _;repeat' (first|refine zs ?_|refine z21 ?_ h|fail)
 refine ag (ce (t:=6) 95 2 rfl) ?_;refine ae (ι:=Nat) (λi=>⟨2,[(2,.loc 0 0),(5,.s 2<|S.map aa),(6,.row 1),(7,.i i)],
   [(0,.M1 26 [.s 1 (p.F0.map aq),.s 1 (p.Z0.map qn),.s 5<|p.M0.map dq]),(1,.row 95 2<|((S.take i).filter λf=>decide (gm p.F0 f=0)).map aa)]⟩)
  (λi=>i<=S.length) (λi=>S.length-i) 0 (Ai _) (er<|λj=>match j with|1=>2|j=>j) ?_
 intro i B;by_cases c:i<S.length
 ·have d:=Lj p S[i];have lo:((S.take i).filter λf=>decide (gm p.F0 f=0)).length<=i:=Aw (Cd _ _) (by rw [Ap];omega);have b:((S.take<|i+1).filter λf=>decide (gm p.F0 f=0))=((S.take i).filter λf=>decide (gm p.F0 f=0))++([S[i]].filter λf=>decide (gm p.F0 f=0)):=by rw [Am c,Cf]
  by_cases e:gm p.F0 S[i]=0
  ·rw [e] at d;have g:([S[i]].filter λf=>decide (gm p.F0 f=0))=[S[i]]:=by rw [B7,if_pos<|by simpa using e];rfl
   rw [g] at b;repeat' (first|refine zs ?_|refine z22 ?_ d|(refine zm ?_ ?_<;>intro a)|omega)
   exact⟨i+1,c,er (λj=>match j with|1=>_|j=>j) (hH:=⟨rfl,by rw [b,Au];rfl,trivial⟩),by omega⟩
  ·have g:([S[i]].filter λf=>decide (gm p.F0 f=0))=[]:=by rw [B7,if_neg<|by simpa using e];rfl
   rw [g,Bn] at b;repeat' (first|refine zs ?_|refine z22 ?_ d|(refine zm ?_ ?_<;>intro a)|omega)
   exact⟨i+1,c,er id (hH:=⟨rfl,by rw [b];rfl,trivial⟩),by omega⟩
 ·rw [Aj (by omega),<- n];repeat' (first|refine zs ?_|(refine zm ?_ ?_<;>intro a)|omega)
  refine ag (ck 4 rfl rfl rfl) ?_;repeat' (apply cr)
  exact⟨.inl rfl,_,rfl,rfl,rfl⟩
def jV (p:R3) (r:X2) (h1:r.I0.length<=4398046511104) (e:r.K0.length<=4398046511104):Fn 12 [gy p,df r] (λf=>f=.M2 [.s 2 ((J4 p r).1.map aa),.i (J4 p r).2]):=by
 refine J2 func12 ?_;intro O m n o;have a:=sB p;have b:=mJ r h1 e;have g:J4 p r=if dn db p≠0 then ([],dn db p) else if bq r≠0 then ([],bq r) else ((U7 p<|dt p r).2,(U7 p<|dt p r).1):=rfl
 rw [g];by_cases d:dn db p=0
 ·rw [if_neg<|by simpa using d];rw [d] at a;by_cases c:bq r=0
  ·rw [if_neg<|by simpa using c];rw [c] at b;have h:=uN p r<|Q4.of c;have j:=QD p (dt p r) _ _<|Xv p<|dt p r;generalize U7 p (dt p r)=x at *;generalize dt p r=q at *;repeat' (first|refine zr ?_|refine z21 ?_ a|refine z21 ?_ b|refine z22 ?_ h|refine z22 ?_ j|omega)
   exact⟨.inl rfl,_,rfl,rfl,rfl⟩
  ·rw [if_pos c];repeat' (first|refine zs ?_|refine z21 ?_ a|refine z21 ?_ b|(refine zm ?_ ?_<;>intro k)|omega)
   refine ag (ff 4 2 rfl) ?_;refine zR ?_;exact⟨.inl rfl,_,rfl,rfl,rfl⟩
 ·rw [if_pos d];repeat' (first|refine zs ?_|refine z21 ?_ a|refine z21 ?_ b|(refine zm ?_ ?_<;>intro k)|omega)
  refine ag (ff 4 2 rfl) ?_;refine zR ?_;exact⟨.inl rfl,_,rfl,rfl,rfl⟩
def Kv {p:R3} {r:X2} (a:dn db p=0) (b:Q4 r):J4 p r=((U7 p (dt p r)).2,(U7 p (dt p r)).1):=by unfold J4;rw [if_neg (by simpa using a),if_neg<|by simpa using b.check]
def Ch {l M:List U0} (e:t6 P1 l=0) (f:bg l=l) (g:bg M=M) (h:bp (gm P1.F0) M=0) (i:M.length<=60) (i2:Md (V7 P1 (gn P1) 0 l) l M)
  (key:∀ r∈P1.M0,J3 M r=true/\∀ x∈L7 M r,x∈M):Z3 P1 l 0 M:=by
 have j:N2 M:=by
  have:=(bu M).1
  rw [g] at this;exact this
 have k:Fit (V7 P1 (gn P1) 0 l) l M:=vx i2 (λr a=>(key r (List.mem_filter.1 a).1).1) λr a=>(key r (List.mem_filter.1 a).1).2
 have m:Fit (V7 P1 (gn P1) 1 M) M M:=by
  have c:∀ r∈(V7 P1 (gn P1) 1 M).rs,False:=by
   intro r n;obtain⟨b,d⟩:=List.mem_filter.1 n;rw [jh] at b;simp only [Bl,B6,or_false] at b;rw [zz] at d;rcases b with rfl|rfl<;>exact absurd (of_decide_eq_true d)<|by decide
  exact vx (qk j ⟨λx o=>Tx (jk h x o),λ_ _=>Iff.rfl⟩ i) (λr a=>(c r a).elim) λr a=>(c r a).elim
 exact .ok M e ⟨M,⟨l,f.symm,k⟩,m⟩
def Jt {l:List U0} (h:tg P1.F0 l=0):t6 P1 l=0:=by unfold t6;rw [if_neg (by rw [show dn db P1=0 by kernel_rfl];simp),if_neg<|by rw [XA];simp];exact h
abbrev PE:List U0:=[⟨0,[4,5]⟩]
abbrev IJ:List U0:=[⟨0,[4,5]⟩,⟨1,[4,5]⟩]
def AJ {S:List U0} {r:O3} (h:ek S r.body (k8 r.body) (e0 r.vars.toNat)=[]):J3 S r=true/\L7 S r=[]:=by obtain⟨a,b⟩:=x6 h List.Pairwise.nil (by simp);exact⟨a,by unfold L7;rw [b];unfold jn;simp;rfl⟩
def BB:Z3 P1 [] 0 []:=by
 have e:=Jt (l:=[]) (by kernel_rfl);refine Ch e (by kernel_rfl) (by kernel_rfl) (by kernel_rfl) (by decide) (qk .nil ⟨(lX e).facts,λ_ _=>Iff.rfl⟩<|by decide) ?_;intro r b;rw [jh] at b;simp only [Bl,B6,or_false] at b;rcases b with rfl|rfl
 ·obtain⟨c,d⟩:=AJ (S:=[]) (r:=jw) (by kernel_rfl);exact⟨c,λx a=>by rw [d] at a;exact a⟩
 ·obtain⟨c,d⟩:=AJ (S:=[]) (r:=rk) (by kernel_rfl);exact⟨c,λx a=>by rw [d] at a;exact a⟩
def jS:Z3 P1 PE 0 IJ:=by
 have d:=Jt (l:=PE) (by kernel_rfl);have b:=lX d;have h:=Tl b.pr b.fit 0 PE;have i:N2 PE:=by
  have:=(bu PE).1
  rw [show bg PE=PE by kernel_rfl] at this;exact this
 have e:Md (V7 P1 (gn P1) 0 PE) PE PE:=qk i ⟨b.facts,λ_ _=>Iff.rfl⟩ (by decide);have j:jw∈(V7 P1 (gn P1) 0 PE).rs:=List.mem_filter.2 ⟨by rw [jh];simp,by rw [zz];decide⟩;have k:J3 PE jw=true/\gw PE jw=[[4,5]]:=x6 (by kernel_rfl) (Dc _ _) (by simp);have f:J3 IJ jw=true/\gw IJ jw=[[4,5]]:=x6 (by kernel_rfl) (Dc _ _) (by simp);have m:L7 PE jw=[⟨1,[4,5]⟩]:=by unfold L7;rw [k.2];kernel_rfl
 have n:L7 IJ jw=[⟨1,[4,5]⟩]:=by unfold L7;rw [f.2];kernel_rfl
 have g:=Yh h e (H:=[⟨1,[4,5]⟩]) (λx a=>⟨jw,j,PE,e,by show x∈L7 PE jw;rw [m];exact a⟩) (by decide);rw [show bg (PE++[⟨1,[4,5]⟩])=IJ by kernel_rfl] at g;refine Ch d (by kernel_rfl) (by kernel_rfl) (by kernel_rfl) (by decide) g ?_;intro r c;rw [jh] at c;simp only [Bl,B6,or_false] at c;rcases c with rfl|rfl
 ·refine⟨f.1,λx a=>?_⟩
  rw [n,A1] at a;subst a;simp [IJ]
 ·obtain⟨o,p⟩:=AJ (S:=IJ) (r:=rk) (by kernel_rfl);exact⟨o,λx a=>by rw [p] at a;cases a⟩
def tD {p:R3} {l m:List U0} {e:Int} (h:Z3 p l e m):U7 p l=(e,m):=by obtain⟨a,b⟩:=(Xv p l).unique h;exact Prod.ext a b
def Gt:dn db P1=0:=by kernel_rfl
def xJ:J4 P1 ⟨[P2],[]⟩=(P4,0):=by rw [Kv Gt (Q4.of<|by kernel_rfl),show dt P1 ⟨[P2],[]⟩=gu by kernel_rfl,tD sF]
def WN:J4 P1 Xk=([],0):=by rw [Kv Gt (Q4.of<|by kernel_rfl),show dt P1 Xk=[] by kernel_rfl,tD BB]
def UQ:N5 P1 Xk [] I1=(⟨[],[I1]⟩,[],([],[]),0):=by unfold N5;rw [if_neg (by rw [show cp I1=0 by kernel_rfl];simp),if_neg (by rw [show R1 Xk.both I1.id=false by kernel_rfl];simp),if_neg (by decide),Cr (r:=Xk) jD,show dt P1 ⟨[],[I1]⟩=[] by kernel_rfl,tD BB,if_neg<|by simp];rfl
def TQ:N5 P1 ⟨[],[I1]⟩ [] P2=(⟨[P2,I1],[]⟩,IJ,(IJ,[]),0):=by unfold N5;rw [if_neg (by rw [show cp P2=0 by kernel_rfl];simp),if_neg (by rw [show R1 (X2.both ⟨[],[I1]⟩) P2.id=false by kernel_rfl];simp),if_neg (by decide),Cr (r:=⟨[],[I1]⟩) Yq,show dt P1 ⟨[P2,I1],[]⟩=PE by kernel_rfl,tD jS,if_neg<|by simp];rw [show bg (fk IJ [])=IJ by kernel_rfl,show bg (fk [] IJ)=[] by kernel_rfl]
def OP:R6 P1 Xk [I1,P2]=(⟨[P2,I1],[]⟩,[([],[]),(IJ,[])],0):=by unfold R6;rw [WN,if_neg (by simp),if_neg<|by decide];simp [Ve,UQ,TQ]
def rU {X e w} {q:Nat} {a:SV} {v:Value} (h:Rel X e w (.agg [a,.Q1]) v):Rel X e w (.agg [a,.s q []]) v:=by
 obtain⟨b,c,d⟩:=h;match b,d with
 | [x,y],⟨f,g,_⟩=>exact⟨[x,y],c,f,Er g,trivial⟩
 | [],h=>exact h.elim
 | [_],⟨_,h⟩=>exact h.elim
 | _::_::_::_,⟨_,_,h⟩=>exact h.elim
def JC:Fn 9 [] (λr=>r=.b true):=by
 refine J2 func9 ?_;intro O u v w;have o:=nO;have i:=Oi;have j:=p9;have p:=CS;have a:=zQ P1 ⟨[P2],[]⟩ (by decide) (by decide);rw [xJ] at a;have c:=UE P1 Xk [I1,P2] (by decide) (by decide);rw [OP] at c;have a:Fn 13 [gy P1,.agg [.s 5 ([P2].map ak),.Q1]] _:=I3.args a λ_ _ _ d h=>match d,h with
  | _::_::_,⟨e,f,g⟩=>⟨e,rU f,g⟩
  | [_],⟨_,h⟩=>h.elim
  | [],h=>h.elim
 have c:Fn 17 [gy P1,.agg [.Q1,.Q1],.s 5<|[I1,P2].map ak] _:=I3.args c λ_ _ _ d h=>match d,h with
  | _::_::_,⟨e,f,g⟩=>⟨e,Wz f,g⟩
  | [_],⟨_,h⟩=>h.elim
  | [],h=>h.elim
 have k:=mn P4 P4;rw [Xt] at k;have m:=l7 [P2,I1] [P2,I1];rw [eo X0.T3] at m;have q:=Pc 0 [4,5];have t:=Pc 1 [4,5];have n:=mn IJ IJ;rw [Xt] at n;repeat' (first|refine zr ?_|refine z21 ?_ o|refine z21 ?_ i|refine z22 ?_ i|refine z21 ?_ j|refine z22 ?_ j|refine z22 ?_ p|refine z21 ?_ a|refine z21 ?_ c|refine z22 ?_ k|refine z22 ?_ m|refine z22 ?_ q|refine z22 ?_ t|refine z22 ?_ n|fail)
 exact bi rfl rfl
end
section
open Go Go.RowKit
variable [iB : Y0]
attribute [local irreducible] DW DS DL DQ Ev X1 I3 du bl DT
def vV (a b:X2) (h1:a.I0.length<=4398046511104) (d:a.K0.length<=4398046511104) (f:b.I0.length<=4398046511104) (g:b.K0.length<=4398046511104) :
  ∃ (x y:X2) (e:Int),∀ i:Y0,@I3 i false prog U5 bt 15 [df a,df b] (λr=>r=.M2 [@qo i x,@qo i y,.i e]):=by
 by_cases c:Ye a b=0
 ·obtain⟨j,k⟩:=BL c;obtain⟨o,m⟩:=iL (m7 j).2.2<|oo b.I0<|sk a;obtain⟨q,n⟩:=iL (m7 k).2.2<|oo a.I0<|sk b;have h:∀ i:Y0,_:=λi=>@We i a b o q h1 d f g (λ_=>m) (λ_=>n)
  simp only [if_pos c] at h;cases o with
  | none=>exact⟨⟨[],[]⟩,⟨[],[]⟩,2,h⟩
  | some x=>cases q with
   | none=>exact⟨⟨[],[]⟩,⟨[],[]⟩,2,h⟩
   | some y=>exact⟨x,y,0,h⟩
 ·refine⟨⟨[],[]⟩,⟨[],[]⟩,Ye a b,λi=>?_⟩
  have h:=@We i a b none none h1 d f g (λh=>absurd h c)<|λh=>absurd h c;rw [if_neg c] at h;exact h
abbrev eP (g:D->SV) (p:R3):SV:=.agg [g (.slice 1 (p.F0.map aq)),g (.slice 1 (p.Z0.map qn)),g (.slice 5 (p.M0.map dq))]
abbrev eR (g:D->SV) (r:X2):SV:=.agg [g (.slice 5 (r.I0.map ak)),g (.slice 5 (r.K0.map ak))]
abbrev eUs (g:D->SV) (u:X0):List SV:=[.i u.id.J1,.i u.id.L1,g (.slice 2 (u.P0.map ay)),g (.slice 2 (u.F1.map aa)),g (.slice 2 (u.V0.map ay))]
abbrev qX (l:List X0):List D:=[.slice 5 (l.map ak)]
abbrev jZ (g:D->SV) (u:X0) (m:List U0) (e:Int) (i:Nat) (t:Sl):Sl:=
 (4,.loc 0 0)::(5,.loc 1 0)::(6,.loc 2 0)::(7,.loc 3 0)::(9,.loc 4 0)::(10,.loc 5 0)::(11,g (.slice 5 [ak u]))::(12,g (.slice 2 (m.map aa)))::(13,.i e)::(14,.i (i:Int))::t
abbrev kZ (g:D->SV) (p:R3) (r s:X2) (u:X0):Hp:=
 [(0,.M1 26 [g (.slice 1 (p.F0.map aq)),g (.slice 1 (p.Z0.map qn)),g (.slice 5 (p.M0.map dq))]),(1,.M1 29 [g (.slice 5 (r.I0.map ak)),g (.slice 5 (r.K0.map ak))]),(2,.M1 29 [g (.slice 5 (s.I0.map ak)),g (.slice 5 (s.K0.map ak))]),(3,.M1 35 (eUs g u)),
  (4,.M1 29 [g (.slice 5 (r.I0.map ak)),g (.slice 5 (r.K0.map ak))]),(5,.M1 29 [g (.slice 5 (s.I0.map ak)),g (.slice 5 (s.K0.map ak))])]
def RY (u:X0):Prop:=u.F1.length<=4398046511104/\(∀ f∈u.F1,f.args.length<=17592186044416)/\u.P0.length<=8796093022208/\u.V0.length<=8796093022208
def Yz (l:List X0):Prop:=l.length<=1599289640400/\∀ u∈l,RY u
def Zi {l:List X0} (h:Yz l):Fn 11 [.s 5 (l.map ak)] (λr=>r=.s 5 (l.map ak)):=
 Tm l h.1 (λx a=>(h.2 x a).1) (λx a=>(h.2 x a).2.1) (λx a=>(h.2 x a).2.2.1) (λx a=>(h.2 x a).2.2.2)
def Kq (p:R3) (r s:X2) (u:X0) (N:Yz r.I0) (O:Yz r.K0) (P:Yz s.I0) (Q:Yz s.K0) (hu:RY u) :
  Fn 3 [gy p,df r,df s,fg u] (λr=>r=.b true):=by
 refine J2 func3 ?_;intro b4 w0 E0 K1;have f:=VH;have C:=ax;have E:=JC;have R:=IC;have S:=Zi N;have T:=Zi O;have U:=Zi P;have V:=Zi Q;have W:=Zi (l:=[u]) ⟨by show 1<=_;decide,λx w=>by rw [List.mem_singleton.1 w];exact hu⟩;have b5:=N.1;have b6:=O.1;have b7:=P.1;have c0:=Q.1;have f1:=jV p r (by omega) (by omega);repeat' (first|(apply qp;(iterate 6 exact rfl);(refine⟨?_,?_,?_⟩<;>(first|omega|(simp only [Aa];omega)));((with_reducible apply pm);(first|exact ez _|exact kw _));exact rfl;exact rfl)|refine zs ?_|refine z21 ?_ f|refine z21 ?_ C|refine z21 ?_ E|refine z21 ?_ R|refine z22 ?_ S|refine z22 ?_ T|refine z22 ?_ U|refine z22 ?_ V|refine z21 ?_ W|refine z21 ?_ f1|fail)
 obtain⟨m,G⟩:∃ m,(J4 p r).1=m:=⟨_,rfl⟩;obtain⟨e,H⟩:∃ e,(J4 p r).2=e:=⟨_,rfl⟩;simp only [G,H];refine ae (ι:=Nat) (λi=>⟨6,jZ .d u m e i [],kZ .d p r s u⟩)
  (λi=>i<=2) (λi=>2-i) 0 (Ai _) (er<|λj=>match j with|4=>11|5=>20|j=>j) ?_
 intro i hi;clear f C E R S T U V W f1;dsimp only;refine zS ?_;refine a6 rfl (λc6=>?_)<|λe9=>?_;rotate_left
 ·refine zR ?_;exact bi rfl rfl
 refine ag (k':=6) (L':=jZ .d u m e i []) (H':=kZ .d p r s u) (er id) ?_;refine CY λB o=>?_
 have o:w0.heap.size<=B:=o;dsimp only [Sl.T5,Hp.T5,HB.T5,SV.VV,SV.tG];obtain⟨w1,w2,e1,X⟩:=vV r s (by omega) (by omega) (by omega) (by omega);obtain⟨z,e2,Y⟩:∃ (l:List U0) (e:Int),∀ i:Y0,@I3 i false prog U5 bt 18 [df r] (λq=>q=.M2 [.d (.own i.B<|.slice 2<|l.map aa),.i e]):=by
  by_cases A:bq r=0
  ·exact⟨_,0,λi=>by have h:=@Kg i r (by omega) (by omega);rw [if_pos A] at h;exact h⟩
  ·exact⟨[],bq r,λi=>by have h:=@Kg i r (by omega) (by omega);rw [if_neg A] at h;exact h⟩
 obtain⟨g,e3,Z⟩:∃ (l:List Z1) (e:Int),∀ i:Y0,@I3 i false prog U5 bt 19 [df r] (λq=>q=.M2 [.d (.own i.B<|.slice 2<|l.map ay),.i e]):=by
  by_cases A:bq r=0
  ·exact⟨_,0,λi=>by have h:=@Jg i r (by omega) (by omega);rw [if_pos A] at h;exact h⟩
  ·exact⟨[],bq r,λi=>by have h:=@Jg i r (by omega) (by omega);rw [if_neg A] at h;exact h⟩
 obtain⟨I,e4,hM⟩:∃ (l:List X0) (e:Int),∀ i:Y0,@I3 i false prog U5 bt 16 [df r,.s 2 []] (λq=>q=.M2 [.d (.own i.B<|.slice 5<|l.map ak),.i e]):=⟨_,_,λi=>@Ji i r [] (by omega)<|by omega⟩;obtain⟨d1,d2,d3,hD⟩:∃ (x:X2) (c:List YW) (e:Int),∀ i:Y0,@I3 i false prog U5 bt 17 [gy p,df r,.s 5 [ak u]] (λq=>q=.M2 [@qo i x,.d (.own i.B<|.slice 2<|c.map Oa),.i e]):=⟨(R6 p r [u]).1,(R6 p r [u]).2.1,(R6 p r [u]).2.2,λi=>@Wg i p r [u] (by omega)<|by omega⟩;obtain⟨J,e5,hS⟩:∃ l e,Fn 20 [fg u] (λq=>q=.M2 [.t (rj l),.i e]):=by
  have h:=aC u;unfold tP at h;split at h
  ·exact⟨_,_,h⟩
  ·exact⟨[],_,h⟩
 have a0:Fn 13 [eP (.rg B 0) p,eR (.rg B 0) r] (λq=>q=.M2 [.rg B 1 (.slice 2<|m.map aa),.i e]):=
  I3.QY B (@OA (ke iB B) p r (by omega)<|by omega) rfl (.agg _ _<|.here ..) (by rintro _ rfl;exact⟨⟨rfl,trivial,trivial⟩,by subst G;subst H;rfl⟩)
 have a1:Fn 14 [eR (.rg B 0) r,fg u] (λq=>∃ (y:X2) (e:Int),q=.M2 [eR (.rg B 1) y,.i e]):=
  I3.QY B (@WH (ke iB B) r u (by omega)<|by omega) rfl (.agg _ _<|.here ..) (by rintro _ ⟨y,e,_,rfl⟩;exact⟨⟨⟨rfl,rfl,trivial⟩,trivial,trivial⟩,y,e,rfl⟩)
 have a2:Fn 15 [eR (.rg B 0) r,eR (.rg B 0) s] (λq=>q=.M2 [eR (.rg B 1) w1,eR (.rg B 1) w2,.i e1]):=
  I3.QY B (X<|ke iB B) rfl (.agg _ _<|.here ..) (by rintro _ rfl;exact⟨⟨⟨rfl,rfl,trivial⟩,⟨rfl,rfl,trivial⟩,trivial,trivial⟩,rfl⟩)
 have a3:Fn 16 [eR (.rg B 0) r,.Q1] (λq=>q=.M2 [.rg B 1 (.slice 5<|I.map ak),.i e4]):=
  I3.args (args:=[eR (.rg B 0) r,.s 2 []]) (I3.QY B (hM<|ke iB B) rfl (.agg _ _<|.here ..)<|by rintro _ rfl;exact⟨⟨rfl,trivial,trivial⟩,rfl⟩) λ_ _ _ vs h=>match vs,h with
   | _::_::_,⟨f,C,E⟩=>⟨f,Er C,E⟩
   | [_],⟨_,h⟩=>h.elim
   | [],h=>h.elim
 have a4:Fn 17 [eP (.rg B 0) p,eR (.rg B 0) r,.rg B 0<|.slice 5 [ak u]] (λq=>q=.M2 [eR (.rg B 1) d1,.rg B 1 (.slice 2<|d2.map Oa),.i d3]):=
  I3.QY B (hD<|ke iB B) rfl (.agg _ _<|.here ..) (by rintro _ rfl;exact⟨⟨⟨rfl,rfl,trivial⟩,rfl,trivial,trivial⟩,rfl⟩)
 have a5:Fn 18 [eR (.rg B 0) r] (λq=>q=.M2 [.rg B 1 (.slice 2<|z.map aa),.i e2]):=
  I3.QY B (Y<|ke iB B) rfl (.agg _ _<|.here ..) (by rintro _ rfl;exact⟨⟨rfl,trivial,trivial⟩,rfl⟩)
 have a9:Fn 19 [eR (.rg B 0) r] (λq=>q=.M2 [.rg B 1 (.slice 2<|g.map ay),.i e3]):=
  I3.QY B (Z<|ke iB B) rfl (.agg _ _<|.here ..) (by rintro _ rfl;exact⟨⟨rfl,trivial,trivial⟩,rfl⟩)
 have v1:Fn 22 [.rg B 1 (.slice 2<|m.map aa),.i e,.i e,.rg B 0<|.slice 2<|m.map aa] (λr=>r=.b true):=by
  have h:=pH m e e m;rw [decide_eq_true rfl,Do] at h;have F:(if e≠0 then [] else m)=m:=by
   split
   ·rename_i F;rw [<- H] at F;rw [<- G,Jv F]
   ·rfl
  rw [F,Xt] at h;exact h.Y6 _ rfl
 have L:∀ x:X2,Fn 23 [eR (.rg B 0) x,eR (.rg B 0) x] (λr=>r=.b true):=λx=>by
  have h:=W8 x x;rw [eo X0.T3,eo X0.T3] at h;exact h.Y6 _ rfl
 have v3:=L r;have v4:=L s;have v5:Fn 24 [fg u,.agg<|eUs (.rg B 0) u] (λr=>r=.b true):=by
  have h:=ut u u;rw [X0.T3] at h;exact h.Y6 _ rfl
 clear X Y Z hM hD L;repeat' (first|refine zs ?_|refine z21 ?_ a0|fail)
 refine qE rfl rfl a1 rfl rfl rfl rfl ⟨_,⟨[],[]⟩,0,rfl⟩ ?_;rintro _ ⟨w3,e6,rfl⟩;repeat' (first|refine zs ?_|refine z21 ?_ a2|refine z21 ?_ a3|refine z21 ?_ a4|refine z21 ?_ a5|refine z21 ?_ a9|refine z21 ?_ hS|fail)
 refine BK (B:=B) rfl rfl (.cell 4 0 0 _ _ _ rfl rfl) (gC J) rfl rfl rfl rfl ?_;rintro _ rfl;dsimp only [SV.fresh,SV.Hx];generalize (qy J).1=k;generalize (qy J).2=e7;clear a0 a1 a2 a3 a4 a5 a9 hS;repeat' (first|refine zs ?_|refine z22 ?_ v1|refine z22 ?_ v3|refine z22 ?_ v4|refine z22 ?_ v5|fail)
 refine TT (B:=B) (es:=5) (len:=1) (cs':=eUs (.rg B 1) k) [ak k] (.cell 4 0 0 _ _ _ rfl rfl) rfl rfl rfl rfl rfl rfl (by kernel_rfl) rfl (by kernel_rfl) ⟨.inr (.inr ⟨rfl,rfl⟩),.inr (.inr ⟨rfl,rfl⟩),.inl rfl,.inl rfl,.inl rfl,trivial⟩ (λx w=>by rw [List.mem_singleton.1 w];rfl) rfl rfl rfl ?_;obtain⟨v,M⟩:∃ q:List (List X0),q=[w3.I0,w3.K0,w1.I0,w1.K0,w2.I0,w2.K0,I,d1.I0,d1.K0,[k]]:=⟨_,rfl⟩;refine TT (B:=B) (es:=1) (len:=10) (cs':=[.rg B 1 (.slice 5<|w3.I0.map ak),.rg B 1 (.slice 5<|w3.K0.map ak),.rg B 1 (.slice 5<|w1.I0.map ak),.rg B 1 (.slice 5<|w1.K0.map ak),.rg B 1 (.slice 5<|w2.I0.map ak),.rg B 1 (.slice 5<|w2.K0.map ak),.rg B 1 (.slice 5<|I.map ak),.rg B 1 (.slice 5<|d1.I0.map ak),.rg B 1 (.slice 5<|d1.K0.map ak),.rg B 2<|.slice 5 [ak k]]) (v.map qX) (.cell 4 0 0 _ _ _ rfl rfl) rfl rfl rfl rfl rfl rfl (by kernel_rfl) rfl (by kernel_rfl) (by rw [M];exact⟨.inl rfl,.inl rfl,.inl rfl,.inl rfl,.inl rfl,.inl rfl,.inl rfl,.inl rfl,.inl rfl,.inr (.inl rfl),trivial⟩) (λx w=>by obtain⟨y,_,rfl⟩:=List.mem_map.1 w;rfl) (by rw [M];rfl) rfl rfl ?_;clear M v1 v3 v4 v5;refine zS ?_;refine AK ?_;refine oE 35 rfl λb1=>?_
 have g0:v.length<=9223372036854775807:=by simpa using b1.1
 refine oE 25 rfl λb2=>?_
 have HS:d2.length<=9223372036854775807:=by simpa using b2.1
 refine oE 29 rfl λb3=>?_
 have g1:g.length<=9223372036854775807:=by simpa using b3.1
 refine ae (ι:=Nat) (λj=>⟨6,jZ (.rg B 0) u m e i [(15,.rg B 2<|.slice 2<|m.map aa),(25,.rg B 2<|.slice 2<|d2.map Oa),(27,.rg B 2<|.slice 2<|z.map aa),(29,.rg B 2<|.slice 2<|g.map ay),(35,.rg B 2<|.slice 1<|v.map qX),(36,.i (j:Int))],kZ (.rg B 0) p r s u⟩)
  (λj=>j<=v.length) (λj=>v.length-j) 0 (Ai _) (er id) ?_
 intro j b0;dsimp only;repeat' (first|(first|refine zs ?_|fail)|refine rE ?_)
 refine a6 rfl (λn=>?_)<|λn=>?_
 ·have a:j<v.length:=by simpa using n
  repeat' (first|(first|refine zs ?_|fail)|refine Sc (h1:=a) ?_|refine Ky ?_)
  refine wj (B:=B) (Cq B v[j]) o rfl rfl (.here ..) rfl rfl (by (repeat' (first|exact trivial|exact Af _|refine⟨?_,?_⟩))) (by (repeat' (first|exact trivial|exact Af _|refine⟨?_,?_⟩))) ?_;refine zS ?_;exact⟨j+1,a,(er id),by omega⟩
 refine zS ?_;refine ae (ι:=Nat) (λj=>⟨6,jZ (.rg B 0) u m e i [(15,.rg B 2<|.slice 2<|m.map aa),(25,.rg B 2<|.slice 2<|d2.map Oa),(27,.rg B 2<|.slice 2<|z.map aa),(29,.rg B 2<|.slice 2<|g.map ay),(37,.i (j:Int))],kZ (.rg B 0) p r s u⟩)
  (λj=>j<=d2.length) (λj=>d2.length-j) 0 (Ai _) (er id) ?_
 intro j b0;dsimp only;repeat' (first|(first|refine zs ?_|fail)|refine rE ?_)
 refine a6 rfl (λn=>?_)<|λn=>?_
 ·have a:j<d2.length:=by simpa using n
  repeat' (first|(first|refine zs ?_|fail)|refine Sc (h1:=a) ?_|refine Pm ?_|refine Ky ?_)
  refine wj (B:=B) (ni B d2[j].1) o rfl rfl (.here ..) rfl rfl (by (repeat' (first|exact trivial|exact Af _|refine⟨?_,?_⟩))) (by (repeat' (first|exact trivial|exact Af _|refine⟨?_,?_⟩))) ?_;repeat' (first|(first|refine zs ?_|fail)|refine Sc (h1:=a) ?_|refine Pm ?_|refine Ky ?_)
  refine wj (B:=B) (ni B d2[j].2) o rfl rfl (.here ..) rfl rfl (by (repeat' (first|exact trivial|exact Af _|refine⟨?_,?_⟩))) (by (repeat' (first|exact trivial|exact Af _|refine⟨?_,?_⟩))) ?_;refine zS ?_;exact⟨j+1,a,(er id),by omega⟩
 refine zS ?_;refine ae (ι:=Nat) (λj=>⟨6,jZ (.rg B 0) u m e i [(15,.rg B 2<|.slice 2<|m.map aa),(25,.rg B 2<|.slice 2<|d2.map Oa),(27,.rg B 2<|.slice 2<|z.map aa),(29,.rg B 2<|.slice 2<|g.map ay),(38,.i (j:Int))],kZ (.rg B 0) p r s u⟩)
  (λj=>j<=g.length) (λj=>g.length-j) 0 (Ai _) (er id) ?_
 intro j b0;dsimp only;repeat' (first|(first|refine zs ?_|fail)|refine rE ?_)
 refine a6 rfl (λn=>?_)<|λn=>?_
 ·have a:j<g.length:=by simpa using n
  repeat' (first|(first|refine zs ?_|fail)|refine Sc (h1:=a) ?_|refine Pm ?_|refine BP ?_)
  exact⟨j+1,a,(er id),by omega⟩
 refine zS ?_;refine wj (B:=B) (ni B m) o rfl rfl (.here ..) rfl rfl (by (repeat' (first|exact trivial|exact Af _|refine⟨?_,?_⟩))) (by (repeat' (first|exact trivial|exact Af _|refine⟨?_,?_⟩))) ?_;refine zS ?_;refine wj (B:=B) (ni B z) o rfl rfl (.here ..) rfl rfl (by (repeat' (first|exact trivial|exact Af _|refine⟨?_,?_⟩))) (by (repeat' (first|exact trivial|exact Af _|refine⟨?_,?_⟩))) ?_;refine zS ?_;exact⟨i+1,by omega,xK EH (er id),by omega⟩
end
section
open Go Go.RowKit
variable [Y0]
def cM {R:Nat} {α:Type} {e:RT} {enc:α->List D} {p:α->Prop} (h:∀ x,zi R e x->∃ t,x=enc t/\p t):∀ (l:List (List D)),(∀ x∈l,zi R e x)->∃ a:List α,l=a.map enc/\∀ t∈a,p t
 | [],_=>⟨[],rfl,by simp⟩
 | x::l,b=>by
  obtain⟨t,rfl,c⟩:=h x (b x<|Ac ..)
  obtain⟨a,rfl,d⟩:=cM h l λy f=>b y<|Ak _ f
  exact⟨t::a,rfl,λu g=>(List.mem_cons.1 g).elim (λe=>e▸c)<|d u⟩
def ko {R:Nat} {α:Type} {c b:Nat} {e:RT} {enc:α->List D} {p:α->Prop} (h:∀ x,zi R e x->∃ t,x=enc t/\p t) (x:List D) (d:zi R (.slice c b e) x):∃ a:List α,x=[.slice c (a.map enc)]/\a.length*b<=R/\∀ t∈a,p t:=by obtain⟨l,g,_,rfl,i⟩:=d;obtain⟨a,rfl,j⟩:=cM h l i;exact⟨a,rfl,by rw [<- Aa (f:=enc)];exact g,j⟩
abbrev mR:RT:=.struct [.int .i64,.slice 1 8 (.int .i64)]
def lM {R:Nat} (x:List D) (h:zi R (.int .i64) x):∃ n:Int,x=aq n/\True:=by obtain⟨n,_,rfl⟩:=h;exact⟨n,rfl,trivial⟩
def uW {R:Nat} (x:List D) (h:zi R mR x):∃ t:U0,x=aa t/\t.args.length*8<=R:=by obtain⟨a,b,rfl,⟨k,_,rfl⟩,c,d,rfl,e,rfl⟩:=h;obtain⟨l,rfl,f,_⟩:=ko lM c e;exact⟨⟨k,l⟩,rfl,f⟩
abbrev ZI:RT:=.struct [.int .i64,.int .i64]
abbrev lR:RT:=.struct [.int .i64,.int .i64,.int .i64,.slice 2 16 ZI]
abbrev kR:RT:=.struct [.int .i64,.slice 2 16 ZI,.int .i64,.slice 4 48 lR,.int .i64]
abbrev aJ:RT:=.struct [.slice 1 8 (.int .i64),.slice 1 16 .str,.slice 5 72 kR]
def UU {R:Nat} (x:List D) (h:zi R .str x):∃ n:ByteArray,x=qn n/\True:=by obtain⟨n,_,rfl⟩:=h;exact⟨n,rfl,trivial⟩
def fL {R:Nat} (x:List D) (h:zi R ZI x):∃ t:I6,x=a7 t/\True:=by obtain⟨a,b,rfl,⟨k,_,rfl⟩,c,d,rfl,⟨p,_,rfl⟩,rfl⟩:=h;exact⟨⟨k,p⟩,rfl,trivial⟩
def XV {R:Nat} (x:List D) (h:zi R lR x):∃ t:T2,x=bf t/\True:=by obtain⟨a,b,rfl,⟨k,_,rfl⟩,c,d,rfl,⟨p,_,rfl⟩,e,f,rfl,⟨q,_,rfl⟩,g,i,rfl,j,rfl⟩:=h;obtain⟨l,rfl,_⟩:=ko fL g j;exact⟨⟨k,p,q,l⟩,rfl,trivial⟩
def qV {R:Nat} (x:List D) (h:zi R kR x):∃ t:O3,x=dq t/\True:=by obtain⟨a,b,rfl,⟨k,_,rfl⟩,c,d,rfl,o,e,f,rfl,⟨q,_,rfl⟩,g,i,rfl,p,j,m,rfl,⟨v,_,rfl⟩,rfl⟩:=h;obtain⟨l,rfl,_⟩:=ko fL c o;obtain⟨n,rfl,_⟩:=ko XV g p;exact⟨⟨k,l,q,n,v⟩,rfl,trivial⟩
def HR {R:Nat} (x:List D) (h:zi R aJ x):∃ p:R3,RT.arg aJ x=gy p:=by obtain⟨c,d,rfl,a,e,f,rfl,b,g,h,rfl,i,rfl⟩:=h;obtain⟨l,rfl,_⟩:=ko lM c a;obtain⟨m,rfl,_⟩:=ko UU e b;obtain⟨n,rfl,_⟩:=ko qV g i;exact⟨⟨l,m,n⟩,rfl⟩
end
end Go.Proofs.YtapciiffpnociabGreat
