/- Several texts in one: ScoD ScoF GxOrd RuP RuA RuQ RuB RuR RuC RuD. Condition: none. -/
import Derived.Test.YtapciiffpnociabGreatM08
set_option linter.all false
set_option maxHeartbeats 8000000
open Bool renaming and_eq_true→Ae,and_true→Hf,false_and→E9,false_or→Ci,not_eq_true→C5,or_eq_true→Ei,true_and→Do
open List renaming all_cons→Dx,all_eq_true→Cc,any_cons→It,drop_eq_getElem_cons→An,drop_of_length_le→Ar,drop_succ_cons→Ft,drop_zero→Fb,findIdx_getElem→D8,findIdx_lt_length_of_exists→Fa,foldlM_cons→Gj,foldl_cons→Bi,foldl_nil→Im,getD→A4,getD_cons_succ→Es,getD_cons_zero→Et,getElem?_eq_getElem→Ad,getElem?_eq_none→Be,getElem?_map→Bh,getElem?_set_ne→B5,getElem?_set_self→B8,getElem_mem→Ah,length_drop→A9,length_eraseIdx→D9,length_map→Aa,length_set→A6,length_take→Ap,map_append→Au,map_cons→A3,map_nil→Dm,map_set→Db,mem_cons_of_mem→Ak,mem_cons_self→Ac,mem_of_mem_drop→B4,mem_singleton→A1,replicate→Aq,take_of_length_le→Aj,take_succ_eq_append_getElem→Am
open Nat renaming zero_le→Ai
namespace Go.Proofs.YtapciiffpnociabGreat
open Tryz
section
open Go Go.RowKit
variable [Y0]
attribute [local irreducible] DW DS DL DQ Ev X1 I3 du bl DT
def un {α:Type} {f:α->Int}:∀ {l:List α},bp f l=0->∀ x∈l,f x=0
 | [],_,x,a=>by simp at a
 | y::l,h,x,a=>by
  unfold bp at h
  split at h
  ·rename_i b;exact absurd h b
  ·rename_i b
   rcases List.mem_cons.1 a with rfl|a
   ·exact Decidable.not_not.1 b
   ·exact un h x a
def LQ {a:Int} {t:I6} (c:0<=a) (h:yz a t=0):W5 a.toNat t:=by
 unfold yz at h;split at h
 ·cases h
 ·rename_i b;rw [Bool.not_eq_false] at b;have:=nl b
  unfold W5;omega
def Kr {c:List Int} {a:Int} {l:T2} (d:0<=a) (h:nf c a l=0):(∀ t∈l.D0,W5 a.toNat t)/\(l.R0=4->l.D0.length=3):=by
 have b:p8 a l.D0=0->∀ t∈l.D0,W5 a.toNat t:=λh t b=>LQ d<|un h t b
 unfold nf at h;split at h
 ·cases h
 split at h
 ·cases h
 split at h
 ·split at h
  ·cases h
  split at h
  ·cases h
  exact⟨b h,λe=>by omega⟩
 ·split at h
  ·cases h
  exact⟨b h,λe=>by omega⟩
def any_false (l:List Bool):(l.any λx=>fZ x false) = !l.all id:=by
 induction l with
 | nil=>rfl
 | cons b l ih=>rw [It,Dx,ih];cases b<;>rfl
abbrev sJ (p:R3):HB:=.M1 26 [.s 1 (p.F0.map aq),.s 1 (p.Z0.map qn),.s 5 (p.M0.map dq)]
def pV (p:R3) (r:O3):Fn 171 [gy p,th r] (λx=>x=.i (pu p.F0 r)):=by
 refine J2 func171 ?_;intro O G H I;have y:(p.F0.map aq).length=p.F0.length:=Aa _;have z:(r.D0.map a7).length=r.D0.length:=Aa _;have A:(r.body.map bf).length=r.body.length:=Aa _;refine ig 0 0 rfl rfl<|λJ=>?_;refine ig 1 1 rfl rfl<|λK=>?_;refine ig 1 3 rfl rfl<|λL=>?_;have b:=gr r.N0 0 (((p.F0.map aq).length:Int)-1);have f:=gr r.vars 0 8;have o:=gr r.T0 0 4;unfold pu;rw [<- y,<- z,<- A];by_cases c:L5 r.N0 0 (((p.F0.map aq).length:Int)-1)=true
 ·have M:=nl c;have q:=Rj (p:=p) (n:=r.N0) (by omega) (by omega);rw [c] at b ⊢;rw [if_neg (show ¬ (true=false) by decide),q];by_cases d:L5 r.vars 0 8=true
  ·have a:=nl d;rw [d] at f ⊢;rw [if_neg<|show ¬ (true=false) by decide];have t:=kF r.D0 r.vars a.1 a.2;clear d c q;have B:=λl=>YX p l r.vars a.1 a.2
   generalize p8 r.vars r.D0=g at t ⊢;generalize L5 r.T0 0 4=u at o ⊢;repeat' (first|refine zr ?_|refine z21 ?_ b|refine z21 ?_ f|refine z21 ?_ o|refine z21 ?_ t|(refine zm ?_ ?_<;>intro h)|fail)
   all_goals try (refine bh rfl ?_;(repeat' split)<;>(first|rfl|omega|(exfalso;simp_all;done)))
   all_goals
    have j:∀ e,bp (nf p.F0 r.vars) r.body=e->(if (((r.D0.map a7).length:Nat):Int)≠p.F0[r.N0.toNat]'(by omega) then 1 else if g≠0 then g else if u=false then 7 else if r.T0≠0/\((r.D0.map a7).length=0∨(r.body.map bf).length=0) then 1 else if 4<(r.body.map bf).length then 2 else if bp (nf p.F0 r.vars) r.body≠0 then bp (nf p.F0 r.vars) r.body else if uc r=false then 4 else 0)=if e≠0 then e else if uc r=false then 4 else 0:=by
     rintro e rfl;(repeat' split)<;>(first|rfl|omega|(exfalso;simp_all;done))
    generalize (if (((r.D0.map a7).length:Nat):Int)≠p.F0[r.N0.toNat]'(by omega) then 1 else if g≠0 then g else if u=false then 7 else if r.T0≠0/\((r.D0.map a7).length=0∨(r.body.map bf).length=0) then 1 else if 4<(r.body.map bf).length then 2 else if bp (nf p.F0 r.vars) r.body≠0 then bp (nf p.F0 r.vars) r.body else if uc r=false then 4 else 0)=res at j ⊢;refine ae (ι:=Nat) (λi=>⟨2,[(2,.loc 0 0),(3,.loc 1 0),(4,.i 0),(69,.s 4<|r.body.map bf),(70,.i (r.body.map bf).length),(71,.i i)],[(0,sJ p),(1,ve r)]⟩)
     (λi=>i<=r.body.length/\bp (nf p.F0 r.vars) r.body=bp (nf p.F0 r.vars) (r.body.drop i)) (λi=>r.body.length-i) 0 ⟨Ai _,rfl⟩ (er id) ?_
    rintro i ⟨g1,g2⟩;by_cases C:i<r.body.length
    ·rw [gg C] at g2;have v:=B r.body[i];generalize nf p.F0 r.vars r.body[i]=E at v g2;repeat' (first|refine zr ?_|refine z21 ?_ v|(refine zm ?_ ?_<;>intro h)|fail)
     all_goals first
      | omega
      | (refine bh rfl ?_;rw [j E (by rw [g2,if_pos<|by assumption]),if_pos<|by assumption];done)
      | exact⟨i+1,⟨by omega,by rw [g2,if_neg<|by assumption]⟩,er id,by show r.body.length-(i+1)<r.body.length-i;omega⟩
    ·rw [iu<|by omega] at g2;have w:=un g2;have F:=iU r a.1 a.2 (λl k=>(Kr a.1<|w l k).1)<|λl k=>(Kr a.1<|w l k).2;have m:=vE false<|yt r;rw [any_false] at m;rw [j 0 g2,if_neg<|by decide];unfold uc;generalize (yt r).all id=N at m ⊢;repeat' (first|refine zr ?_|refine z21 ?_ F|refine z21 ?_ m|(refine zm ?_ ?_<;>intro h)|fail)
     all_goals first
      | omega
      | (refine bh rfl ?_;simp_all;done)
  ·rw [C5] at d;rw [d] at f ⊢;repeat' (first|refine zr ?_|refine z21 ?_ b|refine z21 ?_ f|(refine zm ?_ ?_<;>intro h)|fail)
   all_goals exact bh rfl<|by simp_all
 ·rw [C5] at c;rw [c] at b ⊢;rw [if_pos rfl];repeat' (first|refine zr ?_|refine z21 ?_ b|fail)
  all_goals exact bh rfl rfl
def cU (p:R3):Fn 121 [gy p] (λx=>x=.i (dn T9 p)):=by
 refine J2 func121 ?_;intro O g h j;have k:(p.F0.map aq).length=p.F0.length:=Aa _;have m:(p.Z0.map qn).length=p.Z0.length:=Aa _;have n:(p.M0.map dq).length=p.M0.length:=Aa _;refine ig 0 0 rfl rfl<|λo=>?_;refine ig 0 2 rfl rfl<|λq=>?_;unfold dn;by_cases b:10<p.F0.length∨12<p.M0.length
 ·rw [if_pos b];repeat' (first|refine zr ?_|(refine zm ?_ ?_<;>intro a)|fail)
  all_goals first
   | omega
   | exact bh rfl rfl
 ·rw [if_neg b];by_cases c:p.Z0.length≠p.F0.length
  ·rw [if_pos c];repeat' (first|refine zr ?_|(refine zm ?_ ?_<;>intro a)|fail)
   all_goals first
    | omega
    | exact bh rfl rfl
  ·rw [if_neg c];have d:=JR p (by omega);generalize k7 (s0 T9 p) 0 p.Z0.length=r at d ⊢;repeat' (first|refine zr ?_|refine z21 ?_ d|(refine zm ?_ ?_<;>intro a)|omega)
   ·exact bh rfl<|by rw [if_pos a]
   rw [if_neg a];refine ae (ι:=Nat) (λi=>⟨1,[(1,.loc 0 0),(2,.i 0),(32,.s 5<|p.M0.map dq),(33,.i (p.M0.map dq).length),(34,.i i)],[(0,sJ p)]⟩)
    (λi=>i<=p.M0.length/\bp (pu p.F0) p.M0=bp (pu p.F0) (p.M0.drop i)) (λi=>p.M0.length-i) 0 ⟨Ai _,rfl⟩ (er id) ?_
   rintro i ⟨g1,g2⟩;by_cases f:i<p.M0.length
   ·rw [gg f] at g2;have e:=pV p p.M0[i];generalize pu p.F0 p.M0[i]=t at e g2;repeat' (first|refine zr ?_|refine z21 ?_ e|(refine zm ?_ ?_<;>intro a)|fail)
    all_goals first
     | omega
     | (refine bh rfl ?_;rw [g2,if_pos<|by assumption];done)
     | exact⟨i+1,⟨by omega,by rw [g2,if_neg<|by assumption]⟩,er id,by show p.M0.length-(i+1)<p.M0.length-i;omega⟩
   ·rw [iu<|by omega] at g2;repeat' (first|refine zr ?_|(refine zm ?_ ?_<;>intro a)|fail)
    all_goals first
     | omega
     | exact bh rfl g2.symm
def f7 (n a b:Int):Fn 80 [.i n,.i a,.i b] (λr=>r=.b (L5 n a b)):=tq n a b
def ml (n:Int):Fn 81 [.i n] (λr=>r=.b (Q3 n)):=by
 refine J2 func81 ?_;intro O a c d;unfold Q3;repeat' (first|refine zr ?_|refine z31 ?_ (hc:=by apply f7)|fail)
 exact bi rfl rfl
def gB (l:List I6) (a:Int) (d:0<=a) (e:a<=8):Fn 165 [.s 2 (l.map a7),.i a] (λr=>r=.i (p8 a l)):=by
 refine J2 func165 ?_;intro O f g h;have j:(l.map a7).length=l.length:=Aa _;unfold p8;refine po (t:=0) rfl<|λk=>?_;refine zS ?_;refine ae (ι:=Nat) (λi=>⟨0,[(0,.s 2<|l.map a7),(1,.i a),(4,.i 0),(5,.i i)],[]⟩)
  (λi=>i<=l.length/\bp (yz a) l=bp (yz a) (l.drop i)) (λi=>l.length-i) 0 ⟨Ai _,rfl⟩ (er id) ?_
 rintro i ⟨g1,g2⟩;by_cases c:i<l.length
 ·rw [gg c,show yz a l[i]=if L5 l[i].var (-1) (a-1)=false then 5 else if Q3 l[i].n=false∨(0<=l[i].var/\l[i].n≠0) then 3 else 0 from rfl] at g2;repeat' (first|refine zr ?_|refine z31 ?_ (hc:=by apply f7)|refine z31 ?_ (hc:=by apply ml)|(refine zm ?_ ?_<;>intro b)|fail)
  all_goals first
   | exact absurd b<|by omega
   | exact bh rfl<|by rw [g2];simp_all<;>omega
   | exact⟨i+1,⟨by omega,by rw [g2];simp_all<;>omega⟩,er id,by show l.length-(i+1)<l.length-i;omega⟩
 ·rw [iu<|by omega] at g2;repeat' (first|refine zr ?_|refine z31 ?_ (hc:=by apply f7)|refine z31 ?_ (hc:=by apply ml)|(refine zm ?_ ?_<;>intro b)|fail)
  all_goals first
   | exact absurd b<|by omega
   | exact bh rfl g2.symm
def vO (s:ByteArray):Fn 164 [.t s] (λr=>r=.b (SE s)):=by
 refine J2 func164 ?_;intro O a c d;unfold SE HC;repeat' (first|refine zr ?_|(refine zm ?_ ?_<;>intro e)|fail)
 all_goals exact bi rfl<|by simp_all [JU]
def db (s:ByteArray):Bool:=To 1 s && !SE s
def wO (s:ByteArray):Fn 116 [.t s] (λr=>r=.b (db s)):=by
 refine J2 func116 ?_;intro O a c d;unfold db;repeat' (first|refine zr ?_|refine z31 ?_ (hc:=by apply RJ)|refine z31 ?_ (hc:=by apply vO)|(refine zm ?_ ?_<;>intro e)|fail)
 all_goals exact bi rfl<|by simp_all
def nw (bs:List Bool) (l:T2):Nat:=if l.R0=4 then (if co bs l then 2 else 3) else 0
def TK {bs:List Bool} {l:T2} (d:l.R0=4->l.D0.length=3):nr bs l=if l.R0=1∨l.R0=4 then (l.D0.drop (nw bs l)).foldl kj bs else bs:=by
 unfold nr nw ef;by_cases b:l.R0=1
 ·have c:co bs l=true:=by unfold co;rw [decide_eq_true b];rfl
  simp [c,b]
 ·by_cases a:l.R0=4
  ·cases c:co bs l with
   | true=>simp [a]
   | false =>
    have e:l.D0.drop 3=[]:=Ar (by have:=d a;omega);simp [a,e]
  ·have c:co bs l=false:=by unfold co;rw [decide_eq_false b,decide_eq_false a];rfl
   simp [c,b,a]
abbrev Vl (l:T2):HB:=.M1 156 [.i l.R0,.i l.op,.i l.N0,.s 2 (l.D0.map a7)]
def nV (r:O3) (N:r.body.length<=4) (G:0<=r.vars) (P:r.vars<=8) (H:∀ l∈r.body,∀ t∈l.D0,W5 r.vars.toNat t) (I:∀ l∈r.body,l.R0=4->l.D0.length=3) :
  Fn 166 [th r] (λx=>x=.b (uc r)):=by
 refine J2 func166 ?_;intro O Q R S;have T:(r.body.map bf).length=r.body.length:=Aa _;refine ig 0 3 rfl rfl<|λU=>?_;refine zS ?_;refine KH ((Aq r.vars.toNat false).map cu) rfl rfl (Int.toNat_of_nonneg G).symm rfl rfl rfl rfl rfl rfl (by show 1*_<=_;omega) (by unfold maxLen;omega) (by rw [List.map_replicate];rfl) rfl rfl ?_;refine zS ?_;refine ae (ι:=Nat×List Bool) (λx=>⟨2,[(1,.loc 0 0),(2,.b false),(3,.row 1),(4,.i x.1)],[(0,ve r),(1,.row 4 1<|x.2.map cu)]⟩)
  (λx=>x.1<=r.body.length+1/\x.2=gz r.body x.1 (Aq r.vars.toNat false)) (λx=>r.body.length+1-x.1)
  (0,Aq r.vars.toNat false) ⟨Ai _,rfl⟩ (er id) ?_
 rintro⟨n,d⟩ ⟨J,v⟩;dsimp only at J v ⊢;have K:d.length=r.vars.toNat:=by rw [v,wy,List.length_replicate]
 by_cases V:n<r.body.length+1
 ·repeat' (first|refine zs ?_|(refine zm ?_ ?_<;>intro e)|omega)
  refine ae (ι:=Nat×List Bool) (λx=>⟨2,[(1,.loc 0 0),(2,.b false),(3,.row 1),(4,.i n),(5,.i x.1)],[(0,ve r),(1,.row 4 1<|x.2.map cu)]⟩)
   (λx=>x.1<=r.body.length/\x.2=(r.body.take x.1).foldl nr d) (λx=>r.body.length-x.1)
   (0,d) ⟨Ai _,rfl⟩ (er id) ?_
  rintro⟨i,a⟩ ⟨f1,f2⟩;dsimp only at f1 f2 ⊢;have E:a.length=r.vars.toNat:=by rw [f2,sC,K]
  by_cases w:i<r.body.length
  ·have y:=H r.body[i]<|Ah w;have z:=I r.body[i]<|Ah w;have m:nr a r.body[i]=(r.body.take<|i+1).foldl nr d:=by rw [Dg nr d w,<- f2]
   rw [TK z] at m;repeat' ((fail_if_success (apply jm 10));(first|refine zs ?_|(refine zm ?_ ?_<;>intro e)|fail))
   all_goals try omega
   generalize r.body[i]=l at y z m ⊢;have W:(l.D0.map a7).length=l.D0.length:=Aa _;have X:(a.map cu).length=a.length:=Aa _;refine my (ι:=Unit) (λ_=>⟨3,[(1,.loc 0 0),(2,.b false),(3,.row 1),(4,.i n),(5,.i i),(6,.loc 2 0),(7,.i<|nw a l)],[(0,ve r),(1,.row 4 1<|a.map cu),(2,Vl l)]⟩) (λ_=>True) ?_ ?_
   ·by_cases o:l.R0=4
    ·have L:=z o;have Y:=mT (bs:=a) (by omega) o L;have A:∀ t∈l.D0,W5 a.length t:=by rw [E];exact y
     repeat' (first|refine zs ?_|(refine zm ?_ ?_<;>intro e)|omega)
     refine ae (ι:=Nat×Int) (λx=>⟨3,[(1,.loc 0 0),(2,.b false),(3,.row 1),(4,.i n),(5,.i i),(6,.loc 2 0),(7,.i x.2),(8,.i x.1)],[(0,ve r),(1,.row 4 1<|a.map cu),(2,Vl l)]⟩)
      (λx=>x.1<=2/\x.2=if (l.D0.take x.1).all (S5 a) then 2 else 3) (λx=>2-x.1)
      (0,2) ⟨Ai _,rfl⟩ (er id) ?_
     rintro⟨j,f⟩ ⟨h,c⟩;dsimp only at h c ⊢;by_cases p:j<2
     ·have q:=A (l.D0[j]'(by omega))<|Ah _;have k:(l.D0.take<|j+1).all (S5 a)=((l.D0.take j).all (S5 a)&&S5 a (l.D0[j]'(by omega))):=by
       rw [Am (by omega),List.all_append];simp
      by_cases s:(l.D0[j]'(by omega)).var<0
      ·rw [AD s,Hf] at k;repeat' (first|refine zs ?_|(refine zm ?_ ?_<;>intro e)|omega)
       all_goals exact⟨(j+1,f),⟨by omega,by dsimp only;rw [k,c]⟩,er id,by show 2-(j+1)<2-j;omega⟩
      ·rw [BD s q] at k;unfold W5 at q;repeat' (first|refine zs ?_|(refine zm ?_ ?_<;>intro e)|omega)
       ·have u:a[(l.D0[j]'(by omega)).var.toNat]'(by omega)=false:=by simpa using e
        exact⟨(j+1,3),⟨by omega,by dsimp only;rw [k,u,Bool.and_false];rfl⟩,er id,by show 2-(j+1)<2-j;omega⟩
       ·have u:a[(l.D0[j]'(by omega)).var.toNat]'(by omega)=true:=by simpa using e
        exact⟨(j+1,f),⟨by omega,by dsimp only;rw [k,u,Hf,c]⟩,er id,by show 2-(j+1)<2-j;omega⟩
     ·repeat' (first|refine zs ?_|(refine zm ?_ ?_<;>intro e)|omega)
      refine⟨(),trivial,?_⟩
      have M:f=(nw a l:Int):=by
       unfold nw;rw [if_pos o,c,show j=2 by omega];have:co a l=(l.D0.take 2).all (S5 a):=by unfold co;rw [decide_eq_false (by omega),decide_eq_true o];simp
       rw [this];split<;>rfl
      rw [M];exact er id
    ·repeat' (first|refine zs ?_|(refine zm ?_ ?_<;>intro e)|omega)
     refine⟨(),trivial,?_⟩
     unfold nw;rw [if_neg o];exact er id
   ·intro _ _;have Z:nw a l<=3:=by unfold nw;split<;>(try split)<;>omega
    refine pE 2 3 rfl rfl<|λa0=>?_;refine zS ?_;by_cases F:l.R0=1∨l.R0=4
    ·rw [if_pos F] at m;have A:∀ t∈l.D0,W5 a.length t:=by rw [E];exact y
     refine ae (ι:=Nat×List Bool) (λx=>⟨3,[(1,.loc 0 0),(2,.b false),(3,.row 1),(4,.i n),(5,.i i),(6,.loc 2 0),(9,.i x.1)],[(0,ve r),(1,.row 4 1<|x.2.map cu),(2,Vl l)]⟩)
      (λx=>x.2.length=a.length/\(l.D0.drop x.1).foldl kj x.2=(l.D0.drop<|nw a l).foldl kj a/\x.1<=l.D0.length+3) (λx=>l.D0.length+3-x.1)
      (nw a l,a) ⟨rfl,rfl,by dsimp only;omega⟩ (er id) ?_
     rintro⟨j,g⟩ ⟨h,c,k⟩;dsimp only at h c k ⊢;have a1:(g.map cu).length=g.length:=Aa _;by_cases p:j<l.D0.length
     ·have q:=A l.D0[j]<|Ah p;rw [<- h] at q;rw [An p,Bi] at c;by_cases s:l.D0[j].var<0
      ·have B:kj g l.D0[j]=g:=by unfold kj;rw [if_pos s]
       rw [B] at c;repeat' (first|refine z0 ?_|refine z12 ?_|apply i7|(apply mh;exact rfl;exact rfl;(apply k0;(omega));exact rfl;exact rfl;(exact mc rfl);(iterate 6 exact rfl))|refine zs ?_|(refine zm ?_ ?_<;>intro e)|omega)
       all_goals exact⟨(j+1,g),⟨h,c,by dsimp only;omega⟩,er id,by show l.D0.length+3-(j+1)<l.D0.length+3-j;omega⟩
      ·have B:kj g l.D0[j]=g.set l.D0[j].var.toNat true:=by unfold kj;rw [if_neg s]
       rw [B] at c;unfold W5 at q;repeat' (first|refine z0 ?_|refine z12 ?_|apply i7|(apply mh;exact rfl;exact rfl;(apply k0;(omega));exact rfl;exact rfl;(exact mc rfl);(iterate 6 exact rfl))|refine zs ?_|(refine zm ?_ ?_<;>intro e)|omega)
       all_goals exact⟨(j+1,g.set l.D0[j].var.toNat true),⟨by dsimp only;rw [A6];exact h,c,by dsimp only;omega⟩,er id,by show l.D0.length+3-(j+1)<l.D0.length+3-j;omega⟩
     ·rw [Ar<|by omega] at c;have c:g=(l.D0.drop<|nw a l).foldl kj a:=c;repeat' (first|refine z0 ?_|refine z12 ?_|apply i7|(apply mh;exact rfl;exact rfl;(apply k0;(omega));exact rfl;exact rfl;(exact mc rfl);(iterate 6 exact rfl))|refine zs ?_|(refine zm ?_ ?_<;>intro e)|omega)
      all_goals exact⟨(i+1,g),⟨by omega,by dsimp only;rw [c,m]⟩,er id,by show r.body.length-(i+1)<r.body.length-i;omega⟩
    ·rw [if_neg F] at m;refine ae (ι:=Unit) (λ_=>⟨3,[(1,.loc 0 0),(2,.b false),(3,.row 1),(4,.i n),(5,.i i),(6,.loc 2 0),(9,.i<|nw a l)],[(0,ve r),(1,.row 4 1<|a.map cu),(2,Vl l)]⟩)
      (λ_=>True) (λ_=>0) () trivial (er id) ?_
     intro _ _;repeat' (first|refine z0 ?_|refine z12 ?_|apply i7|(apply mh;exact rfl;exact rfl;(apply k0;(omega));exact rfl;exact rfl;(exact mc rfl);(iterate 6 exact rfl))|refine zs ?_|(refine zm ?_ ?_<;>intro e)|omega)
     all_goals exact⟨(i+1,a),⟨by omega,by rw [m]⟩,er id,by show r.body.length-(i+1)<r.body.length-i;omega⟩
  ·repeat' (first|refine zs ?_|(refine zm ?_ ?_<;>intro e)|omega)
   refine⟨(n+1,a),⟨by omega,?_⟩,er id,by show r.body.length+1-(n+1)<r.body.length+1-n;omega⟩
   dsimp only;rw [n9,<- v,f2,Aj<|by omega];rfl
 ·repeat' (first|refine zs ?_|(refine zm ?_ ?_<;>intro e)|omega)
  have u:d=yt r:=by rw [v,show n=r.body.length+1 by omega];rfl
  unfold uc;rw [<- u];have a2:(d.map cu).length=d.length:=Aa _;refine ae (ι:=Nat) (λx=>⟨2,[(1,.loc 0 0),(2,.b false),(3,.row 1),(10,.i x)],[(0,ve r),(1,.row 4 1<|d.map cu)]⟩)
   (λx=>x<=d.length/\d.all id=(d.drop x).all id) (λx=>d.length-x)
   0 ⟨Ai _,rfl⟩ (er id) ?_
  rintro j ⟨h,c⟩;dsimp only at h c ⊢;by_cases p:j<d.length
  ·rw [An p,Dx] at c;repeat' (first|refine zr ?_|(refine zm ?_ ?_<;>intro e)|omega)
   ·refine bi rfl ?_;have C:d[j]=false:=by simpa using e
    rw [c,C];rfl
   ·have C:d[j]=true:=by simpa using e
    exact⟨j+1,⟨by omega,by rw [c,C];rfl⟩,er id,by show d.length-(j+1)<d.length-j;omega⟩
  ·rw [Ar<|by omega] at c;repeat' (first|refine zr ?_|(refine zm ?_ ?_<;>intro e)|omega)
   all_goals exact bi rfl<|by rw [c];rfl
end
section
open Go Go.RowKit
variable [Y0]
section
variable {Γ : Ctx} {l : List Oper} {κ : Nat}
structure GoO (l:List Oper) (listed:Array Bool) (rem:List (Nat×Oper)):Prop where
 size:listed.size=l.length
 closed:∀ j o,l[j]?=some o->listed.getD j false=true->∀ e∈o.after,Region.binds .any e=true->listed.getD e.on false=true
 left:∀ q,q∈rem↔l[q.1]?=some q.2/\listed.getD q.1 true=false
 sorted:rem.Pairwise (λp q=>p.1≠q.1/\rt l p.1 q.1=false)
def GoO.rest {c:Array Bool} {p pre post:List (Nat×Oper)} {i:Nat} {o:Oper} (g:GoO l c p) (v:i∈Region.ready .any l.toArray c) (m:p=pre++(i,o)::post) (hi:l[i]?=some o):GoO l (c.setIfInBounds i true) (pre++post) where
 size:=by simp [g.size]
 closed j oj hj hl e he' hb:=by
  have r:∀ x,c.getD x false=true->(c.setIfInBounds i true).getD x false=true:=by
   intro x w;by_cases s:i=x
   ·subst s;have:i<c.size:=by rw [g.size];exact dj hi
    simp [this]
   ·rw [getD_set_ne false s];exact w
  by_cases t:i=j
  ·subst t;obtain⟨_,y,z,A⟩:=mem_ready.1 v;have u:l[i]?=some y:=by simpa using z
   rw [hj] at u;cases u;exact r _<|A e he' hb
  ·rw [getD_set_ne false t] at hl;exact r _<|g.closed j oj hj hl e he' hb
 left q:=by
  have d:=g.sorted;rw [m] at d;have B:∀ q∈pre++post,q.1≠i:=by
   intro q n f;rw [List.pairwise_append] at d;obtain⟨_,C,E⟩:=d;rcases List.mem_append.1 n with h|h
   ·exact (E q h (i,o)<|Ac ..).1 f
   ·exact ((List.pairwise_cons.1 C).1 q h).1 f.symm
  constructor
  ·intro n;have k:q∈p:=by rw [m];rcases List.mem_append.1 n with h|h<;>simp [h]
   obtain⟨a,b⟩:=(g.left q).1 k;exact⟨a,by rw [getD_set_ne true<|Ne.symm<|B q n];exact b⟩
  ·rintro⟨a,b⟩;have f:i≠q.1:=by
    intro h;have:i<c.size:=by rw [g.size];exact dj hi
    rw [<- h] at b;simp [this] at b
   rw [getD_set_ne true f] at b;have k:=(g.left q).2 ⟨a,b⟩;rw [m] at k;simp only [List.mem_append,List.mem_cons] at k ⊢;rcases k with h|h|h
   ·exact .inl h
   ·exact absurd (by rw [h]) f
   ·exact .inr h
 sorted:=by
  have d:=g.sorted;rw [m] at d;exact d.sublist<|List.Sublist.append (List.Sublist.refl _)<|List.sublist_cons_self _ _
end
abbrev RE:=List (Option Int)
def T6 (e:RE) (t:I6):Option Int:=if t.var<0 then some t.n else e.getD t.var.toNat none
def vA (a:List Int) (t:I6):Int:=if t.var<0 then t.n else a.getD t.var.toNat 0
def b8 (e:RE):List Bool:=e.map Option.isSome
def bx (e:RE):List Int:=e.map λx=>x.getD 0
def mg (e:RE) (a:List Int):Prop:=a.length=e.length/\∀ (v:Nat) (x:Int),e[v]?=some (some x)->a[v]?=some x
def cv:RE->List I6->List Int->Option RE
 | e,t::a,n::b=>match T6 e t with
  | some x=>if x=n then cv e a b else none
  | none=>cv (e.set t.var.toNat (some n)) a b
 | e,_,_=>some e
def cw (e:RE):(b8 e).length=e.length:=Aa _
def eb (e:RE):(bx e).length=e.length:=Aa _
def s8 (e:RE) (t:I6):S5 (b8 e) t=(T6 e t).isSome:=by
 unfold S5 T6 b8;by_cases h:t.var<0
 ·simp [h]
 ·simp only [h,decide_false,Ci,if_false,A4,Bh];cases e[t.var.toNat]?<;>rfl
def cL {e:RE} {t:I6} {x:Int} (h:T6 e t=some x):vA (bx e) t=x:=by
 unfold T6 at h;unfold vA bx;by_cases a:t.var<0
 ·simp [a] at h ⊢;exact h
 ·simp only [a,if_false,A4,Bh] at h ⊢;cases b:e[t.var.toNat]? with
  | none=>rw [b] at h;simp at h
  | some y=>rw [b] at h;simp at h;subst h;rfl
def KC {e:RE} {a:List Int} {t:I6} {x:Int} (h:mg e a) (b:T6 e t=some x):vA a t=x:=by
 unfold T6 at b;unfold vA;by_cases d:t.var<0
 ·simp [d] at b ⊢;exact b
 ·simp only [d,if_false,A4] at b ⊢;cases c:e[t.var.toNat]? with
  | none=>rw [c] at b;simp at b
  | some y =>
   rw [c] at b;simp at b;subst b;rw [h.2 _ _ c];rfl
def LC {e:RE} {a:List Int} {t:I6} (h:mg e a) (b:(T6 e t).isSome=true):vA a t=vA (bx e) t:=by obtain⟨x,b⟩:=Option.isSome_iff_exists.1 b;rw [KC h b,cL b]
def Nt {e:RE} {a:List Int} {t:I6} {n:Int} (m:W5 e.length t) (c:T6 e t=none):mg (e.set t.var.toNat (some n)) a↔mg e a/\vA a t=n:=by
 unfold T6 at c;unfold W5 at m;have k:¬ t.var<0:=λh=>by simp [h] at c
 simp only [k,if_false,A4] at c;have i:t.var.toNat<e.length:=by omega
 have o:e[t.var.toNat]?=some none:=by
  rw [Ad i] at c ⊢;simpa using c
 unfold mg vA;rw [A6];simp only [k,if_false];constructor
 ·rintro⟨j,f⟩;have g:=f t.var.toNat n (by rw [B8 i]);refine⟨⟨j,λv x b=>?_⟩,by rw [A4,g];rfl⟩
  by_cases d:t.var.toNat=v
  ·subst d;rw [o] at b;cases b
  ·exact f v x<|by rw [B5 d];exact b
 ·rintro⟨⟨j,f⟩,g⟩;refine⟨j,λv x b=>?_⟩
  by_cases d:t.var.toNat=v
  ·subst d;rw [B8 i] at b;simp at b;subst b;rw [A4,Ad<|by omega] at g;rw [Ad<|by omega];simpa using g
  ·exact f v x<|by rw [B5 d] at b;exact b
def uL {e:RE} {t:I6} {n:Int} (a:T6 e t=none):b8 (e.set t.var.toNat (some n))=kj (b8 e) t:=by
 have b:¬ t.var<0:=λh=>by unfold T6 at a;simp [h] at a
 unfold b8 kj;rw [if_neg b,Db];rfl
def ik:∀ {b:List I6} {d:List Int} {e e':RE},b.length=d.length->(∀ t∈b,W5 e.length t)->cv e b d=some e' ->
  e'.length=e.length/\(∀ a,mg e' a↔mg e a/\b.map (vA a)=d)/\b8 e'=b.foldl kj (b8 e)
 | [],[],e,e',_,_,h=>by
  simp only [cv,Option.some.injEq] at h;subst h;exact⟨rfl,λa=>by simp,rfl⟩
 | t::b,n::d,e,e',f,i,h=>by
  have q:b.length=d.length:=by simpa using f
  rw [cv] at h;cases c:T6 e t with
  | some x =>
   rw [c] at h;simp only at h;split at h
   ·rename_i r;subst r;obtain⟨j,k,m⟩:=ik q (λy o=>i y<|Ak _ o) h;refine⟨j,λa=>?_,?_⟩
    ·rw [k,A3,List.cons.injEq];exact⟨fun⟨g,p⟩=>⟨g,KC g c,p⟩,fun⟨g,_,p⟩=>⟨g,p⟩⟩
    ·rw [m,Bi,r9<|by rw [s8,c];rfl]
   ·cases h
  | none =>
   rw [c] at h;simp only at h;obtain⟨j,k,m⟩:=ik q (λy o=>by rw [A6];exact i y<|Ak _ o) h;refine⟨by rw [j,A6],λa=>?_,?_⟩
   ·rw [k,Nt (i t<|Ac ..) c,A3,List.cons.injEq,and_assoc]
   ·rw [m,Bi,uL c]
 | [],_::_,_,_,f,_,_=>by simp at f
 | _::_,[],_,_,f,_,_=>by simp at f
def uh:∀ {b:List I6} {c:List Int} {e:RE},b.length=c.length->(∀ t∈b,W5 e.length t)->cv e b c=none->∀ a,mg e a->b.map (vA a)≠c
 | [],[],e,_,_,h,_,_=>by simp [cv] at h
 | t::b,n::c,e,d,i,h,a,j=>by
  have m:b.length=c.length:=by simpa using d
  rw [cv] at h;intro f;rw [A3,List.cons.injEq] at f;cases g:T6 e t with
  | some x =>
   rw [g] at h;simp only at h;split at h
   ·exact uh m (λy k=>i y<|Ak _ k) h a j f.2
   ·rename_i o;exact o<|(KC j g).symm.trans f.1
  | none =>
   rw [g] at h;simp only at h;exact uh m (λy k=>by rw [A6];exact i y<|Ak _ k) h a ((Nt (i t<|Ac ..) g).2 ⟨j,f.1⟩) f.2
 | [],_::_,_,d,_,_,_,_=>by simp at d
 | _::_,[],_,d,_,_,_,_=>by simp at d
def Nd (op a b:Int):Bool:=if op=1 then decide (a<b) else if op=2 then decide (a<=b) else if op=3 then decide (a=b) else decide (a≠b)
def ov (op a b:Int):Int:=if op=5 then a+b else if op=6 then a-b else a*b
def nc (l:T2) (a:List Int):Int:=ov l.op ((l.D0.map<|vA a).getD 0 0)<|(l.D0.map<|vA a).getD 1 0
def K3 (S:List U0) (l:T2) (a:List Int):Bool:=
 if l.R0=1 then Z4 S ⟨l.N0,l.D0.map<|vA a⟩
 else if l.R0=2 then !Z4 S ⟨l.N0,l.D0.map<|vA a⟩
 else if l.R0=3 then Nd l.op ((l.D0.map<|vA a).getD 0 0) ((l.D0.map<|vA a).getD 1 0)
 else Q3 (nc l a)&&decide (nc l a=(l.D0.map<|vA a).getD 2 0)
def oS {e:RE} {a:List Int} (h:mg e a) {b:List I6} (c:∀ t∈b,(T6 e t).isSome=true):b.map (vA a)=b.map (vA (bx e)):=
 List.map_congr_left λt d=>LC h<|c t d
def Wf {S:List U0} {l:T2} {e:RE} {a:List Int} (h:mg e a) (b:∀ t∈l.D0,(T6 e t).isSome=true):K3 S l a=K3 S l (bx e):=by unfold K3 nc;rw [oS h b]
structure Qv (S:List U0) (v:Nat) (l:T2):Prop where
 R0:1<=l.R0/\l.R0<=4
 D0:∀ t∈l.D0,W5 v t
 bX:l.R0=3->l.D0.length=2
 Mj:l.R0=4->l.D0.length=3
 facts:l.R0=1->∀ x∈S,x.N0=l.N0->x.args.length=l.D0.length
def Xc (body:List T2) (bs:List Bool):Prop:=∀ l∈body,co bs l=true->∀ t∈ef l,S5 bs t=true
def Bd (body:List T2) (bs:List Bool):Prop:=∀ a,O7 bs a->Xc body a->∀ v,v<a.length->a.getD v false=true
def Cx {e:RE} (h:∀ v,v<(b8 e).length->(b8 e).getD v false=true) (a:List Int):mg e a↔a=bx e:=by
 rw [cw] at h;have d:∀ v,v<e.length->∃ x,e[v]?=some (some x):=λv c=>by
  have:=h v c
  unfold b8 at this;rw [A4,Bh,Ad c] at this;simp at this;obtain⟨x,b⟩:=Option.isSome_iff_exists.1 this;exact⟨x,by rw [Ad c,b]⟩
 constructor
 ·rintro⟨g,f⟩;refine List.ext_getElem? λv=>?_
  by_cases c:v<e.length
  ·obtain⟨x,b⟩:=d v c;rw [f v x b];unfold bx;rw [Bh,b];rfl
  ·rw [Be (by omega),Be<|by rw [eb];omega]
 ·rintro rfl;refine⟨eb e,λv x b=>?_⟩
  unfold bx;rw [Bh,b];rfl
def RB {e:RE} (h:∀ v,v<(b8 e).length->(b8 e).getD v false=true) {t:I6} (a:W5 e.length t):(T6 e t).isSome=true:=by
 rw [<- s8];unfold S5;unfold W5 at a;by_cases b:t.var<0
 ·rw [decide_eq_true b];rfl
 ·rw [h _ (by rw [cw];omega),Bool.or_true]
def Rv {n:Int}:Q3 n=true↔-1000000<=n/\n<=1000000:=by unfold Q3 L5;simp
def fO {a b:Int} (e:-1000000<=a/\a<=1000000) (hb:-1000000<=b/\b<=1000000):-1000000000000<=a*b/\a*b<=1000000000000:=by
 have c:a.natAbs<=1000000:=by omega
 have d:b.natAbs<=1000000:=by omega
 have f:(a*b).natAbs<=1000000*1000000:=by rw [Int.natAbs_mul];exact Nat.mul_le_mul c d
 omega
attribute [local irreducible] DW DS DL DQ Ev X1 I3 du bl DT
def pC (op a b:Int) (f:-1000000<=a/\a<=1000000) (hb:-1000000<=b/\b<=1000000):Fn 199 [.i op,.i a,.i b] (λr=>r=.i (ov op a b)):=by
 refine J2 func199 ?_;intro O g h j;have k:=fO f hb;unfold ov;by_cases c:op=5
 ·rw [if_pos c];repeat' (first|refine zr ?_|(refine zm ?_ ?_<;>intro d)|omega)
  all_goals exact⟨.inl rfl,_,rfl,rfl,rfl⟩
 ·rw [if_neg c];by_cases e:op=6
  ·rw [if_pos e];repeat' (first|refine zr ?_|(refine zm ?_ ?_<;>intro d)|omega)
   all_goals exact⟨.inl rfl,_,rfl,rfl,rfl⟩
  ·rw [if_neg e];repeat' (first|refine zr ?_|(refine zm ?_ ?_<;>intro d)|omega)
   exact⟨.inl rfl,_,rfl,rfl,rfl⟩
def TJ (l:List I6) (bs:List Bool) (g:∀ t∈l,W5 bs.length t):Fn 198 [.s 2 (l.map a7),.s 1 (bs.map cu)] (λr=>r=.b (l.all (S5 bs))):=by
 refine J2 func198 ?_;intro O k m n;have o:(l.map a7).length=l.length:=Aa _;have p:(bs.map cu).length=bs.length:=Aa _;refine po (t:=0) rfl<|λq=>?_;refine zS ?_;refine ae (ι:=Nat) (λi=>⟨0,[(0,.s 2<|l.map a7),(1,.s 1<|bs.map cu),(5,.i i)],[]⟩)
  (λi=>i<=l.length/\l.all (S5 bs)=(l.drop i).all (S5 bs)) (λi=>l.length-i) 0 ⟨Ai _,rfl⟩ (er id) ?_
 rintro i ⟨g1,g2⟩;dsimp only at g1 g2 ⊢;by_cases c:i<l.length
 ·have h:=g l[i]<|Ah c;unfold W5 at h;rw [An c,Dx] at g2;by_cases f:l[i].var<0
  ·have e:S5 bs l[i]=true:=by unfold S5;rw [decide_eq_true f];rfl
   rw [e,Do] at g2;repeat' (first|refine zs ?_|(refine zm ?_ ?_<;>intro a)|omega)
   all_goals exact⟨i+1,⟨c,g2⟩,er id,by omega⟩
  ·have j:l[i].var.toNat<bs.length:=by omega
   have u:l[i].var=((l[i].var.toNat:Nat):Int):=by omega
   have e:S5 bs l[i]=bs[l[i].var.toNat]:=by
    unfold S5;rw [decide_eq_false f,Ci,A4,Ad j];rfl
   rw [e] at g2;cases d:bs[l[i].var.toNat] with
   | false =>
    rw [d,E9] at g2;rw [g2];repeat' (first|refine zr ?_|(refine zm ?_ ?_<;>intro a)|omega)
    all_goals try (exfalso;rw [d] at a;cases a;done)
    exact⟨.inl rfl,_,rfl,rfl,rfl⟩
   | true =>
    rw [d,Do] at g2;repeat' (first|refine zs ?_|(refine zm ?_ ?_<;>intro a)|omega)
    all_goals try (exfalso;rw [d] at a;cases a;done)
    exact⟨i+1,⟨c,g2⟩,er id,by omega⟩
 ·rw [Ar<|by omega] at g2;rw [g2];repeat' (first|refine zr ?_|(refine zm ?_ ?_<;>intro a)|omega)
  exact⟨.inl rfl,_,rfl,rfl,rfl⟩
def Vo (l:List I6) (bs:List Bool) (g:∀ t∈l,W5 bs.length t):X1 false prog U5 bt 198 [.s 2 (l.map a7),.row 0] 1 1 [(0,.row 4 1 (bs.map cu))] (λ_ r H=>r=.b (l.all (S5 bs))/\H=[(0,.row 4 1 (bs.map cu))]):=by
 refine T8 func198 ?_;intro O k m n;have o:(l.map a7).length=l.length:=Aa _;have p:(bs.map cu).length=bs.length:=Aa _;refine po (t:=0) rfl<|λq=>?_;refine zS ?_;refine ae (ι:=Nat) (λi=>⟨1,[(0,.s 2<|l.map a7),(1,.row 0),(5,.i i)],[(0,.row 4 1<|bs.map cu)]⟩)
  (λi=>i<=l.length/\l.all (S5 bs)=(l.drop i).all (S5 bs)) (λi=>l.length-i) 0 ⟨Ai _,rfl⟩ (er id) ?_
 rintro i ⟨g1,g2⟩;dsimp only at g1 g2 ⊢;by_cases c:i<l.length
 ·have h:=g l[i]<|Ah c;unfold W5 at h;rw [An c,Dx] at g2;by_cases f:l[i].var<0
  ·have e:S5 bs l[i]=true:=by unfold S5;rw [decide_eq_true f];rfl
   rw [e,Do] at g2;repeat' (first|refine zs ?_|(refine zm ?_ ?_<;>intro a)|omega)
   all_goals exact⟨i+1,⟨c,g2⟩,er id,by omega⟩
  ·have j:l[i].var.toNat<bs.length:=by omega
   have u:l[i].var=((l[i].var.toNat:Nat):Int):=by omega
   have e:S5 bs l[i]=bs[l[i].var.toNat]:=by
    unfold S5;rw [decide_eq_false f,Ci,A4,Ad j];rfl
   rw [e] at g2;cases d:bs[l[i].var.toNat] with
   | false =>
    rw [d,E9] at g2;rw [g2];repeat' (first|refine zr ?_|(refine zm ?_ ?_<;>intro a)|omega)
    all_goals try (exfalso;rw [d] at a;cases a;done)
    exact⟨.inl rfl,_,rfl,kp id 1 _ ([(0,.row 4 1<|bs.map cu)]) ⟨rfl,rfl⟩⟩
   | true =>
    rw [d,Do] at g2;repeat' (first|refine zs ?_|(refine zm ?_ ?_<;>intro a)|omega)
    all_goals try (exfalso;rw [d] at a;cases a;done)
    exact⟨i+1,⟨c,g2⟩,er id,by omega⟩
 ·rw [Ar<|by omega] at g2;rw [g2];repeat' (first|refine zr ?_|(refine zm ?_ ?_<;>intro a)|omega)
  exact⟨.inl rfl,_,rfl,kp id 1 _ ([(0,.row 4 1<|bs.map cu)]) ⟨rfl,rfl⟩⟩
def Dd (l:List I6) (a:List Int) (g:∀ t∈l,W5 a.length t) (k:l.length<=4398046511104):Fn 102 [.s 2 (l.map a7),.s 1 (a.map aq)] (λr=>r=.s 1 ((l.map (vA a)).map aq)):=by
 refine J2 func102 ?_;intro O m o p;have q:(l.map a7).length=l.length:=Aa _;have u:(a.map aq).length=a.length:=Aa _;refine zS ?_;refine ag (ce (t:=5) 3 1 rfl) ?_;refine ae (ι:=Nat) (λi=>⟨1,[(0,.s 2<|l.map a7),(1,.s 1<|a.map aq),(5,.row 0),(6,.i i)],(0,.row 3 1<|((l.take i).map<|vA a).map aq)::[]⟩)
  (λi=>i<=l.length) (λi=>l.length-i) 0 (Ai _) (er id) ?_
 intro i v;by_cases d:i<l.length
 ·have h:=g l[i]<|Ah d;unfold W5 at h;have w:(((l.take i).map<|vA a).map aq).length=i:=by rw [Aa,Aa,Ap];omega
  have b:((l.take<|i+1).map<|vA a).map aq=((l.take i).map<|vA a).map aq++[aq<|vA a l[i]]:=by rw [Am d,Au,Au];rfl
  by_cases e:l[i].var<0
  ·have c:vA a l[i]=l[i].n:=by unfold vA;rw [if_pos e]
   rw [c] at b;repeat' (first|refine zs ?_|(refine zm ?_ ?_<;>intro f)|omega)
   exact⟨i+1,by omega,er (λ_=>1) (hH:=⟨by rw [b];rfl,trivial⟩),by omega⟩
  ·have j:l[i].var.toNat<a.length:=by omega
   have c:vA a l[i]=a[l[i].var.toNat]:=by
    unfold vA;rw [if_neg e,A4,Ad j];rfl
   rw [c] at b;repeat' (first|refine zs ?_|(refine zm ?_ ?_<;>intro f)|omega)
   exact⟨i+1,by omega,er (λ_=>1) (hH:=⟨by rw [b];rfl,trivial⟩),by omega⟩
 ·rw [Aj<|by omega];repeat' (first|refine zs ?_|(refine zm ?_ ?_<;>intro f)|omega)
  refine ag (ck 4 rfl rfl rfl) ?_;repeat' (apply cr)
  exact⟨.inl rfl,_,rfl,rfl,rfl⟩
def UK (l:List I6) (a:List Int) (g:∀ t∈l,W5 a.length t) (m:l.length<=4398046511104):X1 false prog U5 bt 102 [.s 2 (l.map a7),.row 0] 1 1 [(0,.row 3 1 (a.map aq))] (λ_ r H=>r=.s 1 ((l.map (vA a)).map aq)/\H=[(0,.row 3 1 (a.map aq))]):=by
 refine T8 func102 ?_;intro O o p q;have u:(l.map a7).length=l.length:=Aa _;have v:(a.map aq).length=a.length:=Aa _;refine zS ?_;refine ag (ce (t:=5) 3 1 rfl) ?_;refine ae (ι:=Nat) (λi=>⟨2,[(0,.s 2<|l.map a7),(1,.row 0),(5,.row 1),(6,.i i)],(1,.row 3 1<|((l.take i).map<|vA a).map aq)::[(0,.row 3 1<|a.map aq)]⟩)
  (λi=>i<=l.length) (λi=>l.length-i) 0 (Ai _) (er id (hH:=⟨rfl,⟨rfl,trivial⟩⟩)) ?_
 intro i w;by_cases d:i<l.length
 ·have h:=g l[i]<|Ah d;unfold W5 at h;have x:(((l.take i).map<|vA a).map aq).length=i:=by rw [Aa,Aa,Ap];omega
  have b:((l.take<|i+1).map<|vA a).map aq=((l.take i).map<|vA a).map aq++[aq<|vA a l[i]]:=by rw [Am d,Au,Au];rfl
  by_cases e:l[i].var<0
  ·have c:vA a l[i]=l[i].n:=by unfold vA;rw [if_pos e]
   rw [c] at b;repeat' (first|refine zs ?_|(refine zm ?_ ?_<;>intro f)|omega)
   exact⟨i+1,by omega,er (λj=>match j with|1=>2|j=>j) (hH:=⟨by rw [b];rfl,⟨rfl,trivial⟩⟩),by omega⟩
  ·have k:l[i].var.toNat<a.length:=by omega
   have c:vA a l[i]=a[l[i].var.toNat]:=by
    unfold vA;rw [if_neg e,A4,Ad k];rfl
   rw [c] at b;repeat' (first|refine zs ?_|(refine zm ?_ ?_<;>intro f)|omega)
   exact⟨i+1,by omega,er (λj=>match j with|1=>2|j=>j) (hH:=⟨by rw [b];rfl,⟨rfl,trivial⟩⟩),by omega⟩
 ·rw [Aj<|by omega];repeat' (first|refine zs ?_|(refine zm ?_ ?_<;>intro f)|omega)
  refine ag (ck 4 rfl rfl rfl) ?_;repeat' (apply cr)
  exact⟨.inl rfl,_,rfl,kp id 1 _ ([(0,.row 3 1<|a.map aq)]) ⟨rfl,rfl⟩⟩
def rp (l:T2):List I6:=if l.R0=4 then l.D0.take 2 else l.D0
def xq (e:RE) (l:T2):Bool:=(rp l).all λt=>(T6 e t).isSome
def gc (e:RE) (left:List T2):Nat:=if left.findIdx (xq e)<left.length then left.findIdx (xq e) else left.findIdx λl=>decide (l.R0=1)
def X9 (S:List U0) (a:RE->List (List Int)) (l:T2) (e:RE):List (List Int):=
 if l.R0=1 then S.flatMap λx=>if x.N0=l.N0 then (match cv e l.D0 x.args with|some b=>a b|none=>[]) else []
 else if l.R0=4 then (if Q3 (nc l<|bx e) then (match cv e (l.D0.drop 2) [nc l<|bx e] with|some b=>a b|none=>[]) else [])
 else if K3 S l (bx e) then a e else []
def js (S:List U0):Nat->List T2->RE->List (List Int)
 | _,[],e=>[bx e]
 | 0,_::_,_=>[]
 | k+1,a::b,e=>match (a::b)[gc e (a::b)]? with
  | none=>[]
  | some l=>X9 S (js S k ((a::b).eraseIdx (gc e (a::b)))) l e
def vp {α:Type} {l:List α} {i:Nat} (h:i<l.length) (x:α):x∈l↔x=l[i]∨x∈l.eraseIdx i:=by
 rw [List.mem_eraseIdx_iff_getElem];constructor
 ·intro c;obtain⟨j,a,rfl⟩:=List.mem_iff_getElem.1 c;by_cases b:j=i
  ·subst b;exact .inl rfl
  ·exact .inr ⟨j,a,b,rfl⟩
 ·rintro (rfl|⟨j,a,_,rfl⟩)
  ·exact Ah h
  ·exact Ah a
def qD {S:List U0} {e:RE} {left:List T2} (g:left≠[]) (i:∀ l∈left,Qv S e.length l) (j:Bd left (b8 e)):gc e left<left.length:=by
 unfold gc;split
 ·assumption
 ·rename_i k;refine Fa ?_;apply Classical.byContradiction;intro m;have d:∀ l∈left,xq e l=false:=by
   intro l a;cases h:xq e l with
   | false=>rfl
   | true=>exact absurd (Fa ⟨l,a,h⟩) k
  have n:Xc left (b8 e):=by
   intro l a b;exfalso;unfold co at b;rw [Ei,Ae] at b;rcases b with b|⟨b,f⟩
   ·exact m ⟨l,a,b⟩
   ·have:=d l a
    unfold xq rp at this;rw [if_pos<|of_decide_eq_true b] at this;have o:(l.D0.take 2).all (λt=>(T6 e t).isSome)=true:=by
     rw [Cc] at f ⊢;intro t c;rw [<- s8];exact f t c
    rw [o] at this;cases this
  have p:=j _ (O7.refl _) n;obtain⟨l,a⟩:=List.exists_mem_of_ne_nil left g;have:=d l a
  unfold xq at this;have q:(rp l).all (λt=>(T6 e t).isSome)=true:=by
   rw [Cc];intro t c;refine RB p<|(i l a).D0 t ?_;unfold rp at c;split at c
   ·exact List.mem_of_mem_take c
   ·exact c
  rw [q] at this;cases this
def UL {e:RE} {left:List T2} (h:gc e left<left.length):xq e (left[gc e left])=true∨(left[gc e left]).R0=1:=by
 unfold gc at h ⊢;split
 ·left;exact D8
 ·rename_i a;rw [if_neg a] at h;right;have:=D8 (xs:=left) (p:=λl=>decide (l.R0=1)) (w:=h)
  exact of_decide_eq_true this
def Cs {left:List T2} {i:Nat} (hi:i<left.length) {bs cs:List Bool} (f:Bd left bs) (g:O7 bs cs) (a:(∀ t∈ef left[i],S5 cs t=true)∨∀ ds,co ds left[i]=false):Bd (left.eraseIdx i) cs:=by
 intro ds d h;refine f ds (g.trans d) λl b c t e=>?_
 rcases (vp hi l).1 b with rfl|b
 ·rcases a with a|a
  ·exact vr d<|a t e
  ·rw [a ds] at c;cases c
 ·exact h l b c t e
def Xf {S:List U0} {l:T2} {a:List Int} (c:l.R0=4) (b:l.D0.length=3):K3 S l a=true↔Q3 (nc l a)=true/\(l.D0.drop 2).map (vA a)=[nc l a]:=by
 unfold K3;rw [if_neg (by omega),if_neg (by omega),if_neg (by omega),Ae,decide_eq_true_eq];match d:l.D0,b with
 | [t1,t2,t3],_ =>
  simp only [A3,Dm,Ft,Fb,Es,Et,List.cons.injEq,and_true];exact and_congr Iff.rfl eq_comm
def yr {l:T2} {e:RE} {a:List Int} (h:mg e a) (c:l.D0.length=3) (b:∀ t∈l.D0.take 2,(T6 e t).isSome=true):nc l a=nc l (bx e):=by
 unfold nc;match d:l.D0,c with
 | [t1,t2,t3],_ =>
  rw [d] at b;simp only [A3,Et,Es];rw [LC h (b t1<|by simp),LC h<|b t2<|by simp]
def FG {S:List U0} {C:RE->List (List Int)} {l:T2} {e:RE} (h:Qv S e.length l) (j:xq e l=true∨l.R0=1) (a:List Int) {P:List Int->Prop}
  (k:∀ e',e'.length=e.length->O7 (b8 e) (b8 e')->((∀ t∈ef l,S5 (b8 e') t=true)∨∀ ds,co ds l=false)->(a∈C e'↔mg e' a/\P a)) :
  a∈X9 S C l e↔(mg e a/\K3 S l a=true)/\P a:=by
 unfold X9;by_cases i:l.R0=1
 ·rw [if_pos i,List.mem_flatMap];have m:ef l=l.D0:=by unfold ef;rw [if_pos i]
  have E:K3 S l a=true↔(⟨l.N0,l.D0.map<|vA a⟩:U0)∈S:=by unfold K3;rw [if_pos i,M4]
  constructor
  ·rintro⟨x,F,b⟩;split at b
   ·rename_i G;have u:=(h.facts i x F G).symm;split at b
    ·rename_i e' f;obtain⟨d,g,c⟩:=ik u h.D0 f;have n:=(k e' d (by rw [c];exact nj _ _)<|.inl<|by rw [m,c];exact o8<|by rw [cw];exact h.D0).1 b;obtain⟨v,z⟩:=(g a).1 n.1;refine⟨⟨v,E.2 ?_⟩,n.2⟩
     rw [z,<- G];exact F
    ·simp at b
   ·simp at b
  ·rintro⟨⟨b,o⟩,p⟩;refine⟨_,E.1 o,?_⟩
   rw [if_pos rfl];have u:l.D0.length=(l.D0.map<|vA a).length:=(Aa _).symm;cases f:cv e l.D0 (l.D0.map<|vA a) with
   | none=>exact absurd rfl<|uh u h.D0 f a b
   | some e' =>
    obtain⟨d,g,c⟩:=ik u h.D0 f;exact (k e' d (by rw [c];exact nj _ _)<|.inl<|by rw [m,c];exact o8<|by rw [cw];exact h.D0).2 ⟨(g a).2 ⟨b,rfl⟩,p⟩
 ·rw [if_neg i];have j:=j.resolve_right i;unfold xq rp at j;by_cases q:l.R0=4
  ·rw [if_pos q] at j ⊢;have w:=h.Mj q;have r:∀ t∈l.D0.take 2,(T6 e t).isSome=true:=List.all_eq_true.1 j;have A:(l.D0.drop 2).length=[nc l<|bx e].length:=by rw [A9,w];rfl
   have s:∀ t∈l.D0.drop 2,W5 e.length t:=λt I=>h.D0 t<|B4 I
   have m:ef l=l.D0.drop 2:=by unfold ef;rw [if_neg i]
   rw [Xf q w];constructor
   ·intro b;split at b
    ·rename_i y;split at b
     ·rename_i e' f;obtain⟨d,g,c⟩:=ik A s f;have n:=(k e' d (by rw [c];exact nj _ _)<|.inl<|by rw [m,c];exact o8<|by rw [cw];exact s).1 b;obtain⟨v,z⟩:=(g a).1 n.1;rw [yr v w r];exact⟨⟨v,y,z⟩,n.2⟩
     ·simp at b
    ·simp at b
   ·rintro⟨⟨b,y,B⟩,p⟩;rw [yr b w r] at y B;rw [if_pos y];cases f:cv e (l.D0.drop 2) [nc l<|bx e] with
    | none=>exact absurd B<|uh A s f a b
    | some e' =>
     obtain⟨d,g,c⟩:=ik A s f;exact (k e' d (by rw [c];exact nj _ _)<|.inl<|by rw [m,c];exact o8<|by rw [cw];exact s).2 ⟨(g a).2 ⟨b,B⟩,p⟩
  ·rw [if_neg q] at j ⊢;have r:∀ t∈l.D0,(T6 e t).isSome=true:=List.all_eq_true.1 j;have J:∀ ds,co ds l=false:=λds=>by unfold co;rw [decide_eq_false i,decide_eq_false q];rfl
   have H:=k e rfl (O7.refl _)<|.inr J;constructor
   ·intro b;split at b
    ·rename_i o;obtain⟨d,g⟩:=H.1 b;exact⟨⟨d,by rw [Wf d r];exact o⟩,g⟩
    ·simp at b
   ·rintro⟨⟨b,o⟩,p⟩;rw [if_pos<|by rw [<- Wf b r];exact o];exact H.2 ⟨b,p⟩
def Mm (S:List U0):∀ (k:Nat) (left:List T2) (e:RE),left.length<=k->(∀ l∈left,Qv S e.length l)->Bd left (b8 e)->∀ a,a∈js S k left e↔mg e a/\∀ l∈left,K3 S l a=true
 | k,[],e,_,_,g,a=>by
  have h:js S k [] e=[bx e]:=by cases k<;>rfl
  rw [h,A1,Cx<|g _ (O7.refl _)<|by intro l b;simp at b];simp
 | 0,_::_,_,n,_,_,_=>by simp at n
 | k+1,o::p,e,n,j,g,a=>by
  have c:=qD (by simp) j g;have q:=UL c;rw [js];generalize u:gc e (o::p)=i at c q;rw [Ad c];generalize v:o::p=left at *;have s:(left.eraseIdx i).length<=k:=by rw [D9,if_pos c];omega
  have r:∀ l∈left.eraseIdx i,l∈left:=λl b=>(vp c l).2<|.inr b
  simp only;rw [FG (P:=λa=>∀ l∈left.eraseIdx i,K3 S l a=true) (j _<|Ah c) q a λt f d m=>Mm S k (left.eraseIdx i) t s (λl b=>by rw [f];exact j l<|r l b) (Cs c g d m) a];constructor
  ·rintro⟨⟨f,d⟩,m⟩;exact⟨f,λl b=>((vp c l).1 b).elim (λh=>h▸d)<|m l⟩
  ·rintro⟨f,d⟩;exact⟨⟨f,d _<|Ah c⟩,λl b=>d l<|r l b⟩
def Lw {S:List U0} {g:RE->List (List Int)} {l:T2} {e:RE} (z:S.Nodup) (h:Qv S e.length l) (p:∀ e',e'.length=e.length->O7 (b8 e) (b8 e')->((∀ t∈ef l,S5 (b8 e') t=true)∨∀ ds,co ds l=false)->(g e').Nodup/\∀ a∈g e',mg e' a):(X9 S g l e).Nodup:=by
 unfold X9;by_cases d:l.R0=1
 ·rw [if_pos d];have q:ef l=l.D0:=by unfold ef;rw [if_pos d]
  have r:∀ x∈S,x.N0=l.N0->∀ e',cv e l.D0 x.args=some e'->(g e').Nodup/\∀ a∈g e',l.D0.map (vA a)=x.args:=by
   intro x i b e' c;obtain⟨f,j,k⟩:=ik (h.facts d x i b).symm h.D0 c;obtain⟨A,B⟩:=p e' f (by rw [k];exact nj _ _) (.inl<|by rw [q,k];exact o8<|by rw [cw];exact h.D0);exact⟨A,λa C=>((j a).1<|B a C).2⟩
  refine List.pairwise_flatMap.2 ⟨λx i=>?_,z.imp_of_mem fun {x y} i E F u m v n=>?_⟩
  ·split
   ·rename_i b;split
    ·rename_i e' c;exact (r x i b e' c).1
    ·exact .nil
   ·exact .nil
  ·rintro rfl;split at m
   ·rename_i b;split at m
    ·rename_i e' c;split at n
     ·rename_i s;split at n
      ·rename_i G H;have f:=(r x i b e' c).2 u m;have j:=(r y E s G H).2 u n;apply F;obtain⟨M,N⟩:=x;obtain⟨O,P⟩:=y;simp only at b s f j;rw [b,s,<- f,<- j]
      ·simp at n
     ·simp at n
    ·simp at m
   ·simp at m
 ·rw [if_neg d];by_cases o:l.R0=4
  ·rw [if_pos o];have I:=h.Mj o;have J:(l.D0.drop 2).length=[nc l<|bx e].length:=by rw [A9,I];rfl
   have w:∀ t∈l.D0.drop 2,W5 e.length t:=λt K=>h.D0 t<|B4 K
   have q:ef l=l.D0.drop 2:=by unfold ef;rw [if_neg d]
   split
   ·split
    ·rename_i e' c;obtain⟨f,j,k⟩:=ik J w c;exact (p e' f (by rw [k];exact nj _ _)<|.inl<|by rw [q,k];exact o8<|by rw [cw];exact w).1
    ·exact .nil
   ·exact .nil
  ·rw [if_neg o];have L:∀ ds,co ds l=false:=λds=>by unfold co;rw [decide_eq_false d,decide_eq_false o];rfl
   split
   ·exact (p e rfl (O7.refl _)<|.inr L).1
   ·exact .nil
def Pp (S:List U0) (g:S.Nodup):∀ (k:Nat) (left:List T2) (e:RE),left.length<=k->(∀ l∈left,Qv S e.length l)->Bd left (b8 e)->(js S k left e).Nodup
 | k,[],e,_,_,_=>by
  have h:js S k [] e=[bx e]:=by cases k<;>rfl
  rw [h];exact List.nodup_cons.2 ⟨by simp,.nil⟩
 | 0,_::_,_,j,_,_=>by simp at j
 | k+1,m::n,e,j,d,f=>by
  have b:=qD (by simp) d f;rw [js];generalize v:gc e (m::n)=i at b;rw [Ad b];generalize w:m::n=left at *;have o:(left.eraseIdx i).length<=k:=by rw [D9,if_pos b];omega
  have p:∀ l∈left.eraseIdx i,l∈left:=λl c=>(vp b l).2<|.inr c
  exact Lw g (d _<|Ah b) λq r s t=>⟨Pp S g k _ q o (λl c=>by rw [r];exact d l<|p l c) (Cs b f s t),
   λa u=>((Mm S k _ q o (λl c=>by rw [r];exact d l<|p l c) (Cs b f s t) a).1 u).1⟩
def GG (S:List U0) (l:T2) (a:List Int) (g:Qv S a.length l) (m:l.R0=3->1<=l.op/\l.op<=4) (h:l.R0=4->∀ t∈l.D0,-1000000<=vA a t/\vA a t<=1000000) (A:l.D0.length<=4398046511104) :
  Fn 200 [bC l,.s 1 (a.map aq),.s 2 (S.map aa)] (λr=>r=.b (K3 S l a)):=by
 have d:=Dd l.D0 a g.D0 A;have i:=Yf S ⟨l.N0,l.D0.map<|vA a⟩;have E:=g.R0;have n:=g.bX;have o:=g.Mj;clear g;obtain⟨j,op,f,e⟩:=l;dsimp only [bC] at *;refine J2 func200 ?_;intro O F G H;have B:j=1∨j=2∨j=3∨j=4:=by omega
 rcases B with rfl|rfl|rfl|rfl
 ·have c:K3 S ⟨1,op,f,e⟩ a=Z4 S ⟨f,e.map<|vA a⟩:=rfl;rw [c];repeat' (first|refine zr ?_|refine z21 ?_ d|refine z21 ?_ i|fail)
  exact⟨.inl rfl,_,rfl,rfl,rfl⟩
 ·have c:K3 S ⟨2,op,f,e⟩ a = !Z4 S ⟨f,e.map<|vA a⟩:=rfl;rw [c];repeat' (first|refine zr ?_|refine z21 ?_ d|refine z21 ?_ i|fail)
  exact⟨.inl rfl,_,rfl,rfl,rfl⟩
 ·have c:K3 S ⟨3,op,f,e⟩ a=Nd op ((e.map<|vA a).getD 0 0) ((e.map<|vA a).getD 1 0):=rfl;rw [c];clear c i h o;match e,n rfl with
  | [t1,t2],_ =>
   simp only [A3,Dm,Et,Es] at d ⊢;generalize vA a t1=x at d ⊢;generalize vA a t2=y at d ⊢;have C:op=1∨op=2∨op=3∨op=4:=by have:=m rfl;omega
   clear m;rcases C with rfl|rfl|rfl|rfl
   ·have c:Nd 1 x y=decide (x<y):=rfl;rw [c];repeat' (first|refine zr ?_|refine z21 ?_ d|(refine zm ?_ ?_<;>intro p)|fail)
    all_goals first
     | exact⟨.inl rfl,_,rfl,rfl,rfl⟩
     | exact bi rfl<|by simp_all
   ·have c:Nd 2 x y=decide (x<=y):=rfl;rw [c];repeat' (first|refine zr ?_|refine z21 ?_ d|(refine zm ?_ ?_<;>intro p)|fail)
    all_goals first
     | exact⟨.inl rfl,_,rfl,rfl,rfl⟩
     | exact bi rfl<|by simp_all
   ·have c:Nd 3 x y=decide (x=y):=rfl;rw [c];repeat' (first|refine zr ?_|refine z21 ?_ d|(refine zm ?_ ?_<;>intro p)|fail)
    all_goals first
     | exact⟨.inl rfl,_,rfl,rfl,rfl⟩
     | exact bi rfl<|by simp_all
   ·have c:Nd 4 x y=decide (x≠y):=rfl;rw [c];repeat' (first|refine zr ?_|refine z21 ?_ d|fail)
    all_goals first
     | exact⟨.inl rfl,_,rfl,rfl,rfl⟩
     | exact bi rfl<|by simp_all
 ·have c:K3 S ⟨4,op,f,e⟩ a=(Q3 (ov op ((e.map<|vA a).getD 0 0)<|(e.map<|vA a).getD 1 0)&&decide (ov op ((e.map<|vA a).getD 0 0) ((e.map<|vA a).getD 1 0)=(e.map<|vA a).getD 2 0)):=rfl;rw [c];have h:=h rfl;clear c i m n;match e,o rfl with
  | [t1,t2,t3],_ =>
   have q:=h t1 (by simp);have u:=h t2 (by simp);simp only [A3,Dm,Et,Es] at d ⊢;generalize vA a t1=x at d q ⊢;generalize vA a t2=y at d u ⊢;generalize vA a t3=z at d ⊢;have v:=pC op x y q u;have k:=ml<|ov op x y;cases w:Q3 (ov op x y) with
   | false =>
    rw [w] at k;repeat' (first|refine zr ?_|refine z21 ?_ d|refine z22 ?_ v|refine z21 ?_ k|fail)
    exact⟨.inl rfl,_,rfl,rfl,rfl⟩
   | true =>
    rw [w] at k;repeat' (first|refine zr ?_|refine z21 ?_ d|refine z22 ?_ v|refine z21 ?_ k|fail)
    exact⟨.inl rfl,_,rfl,rfl,rfl⟩
def tz (e:RE) (l:T2):Option RE:=
 if l.R0=4/\(l.D0.take 2).all (λt=>(T6 e t).isSome)=true/\(l.D0.drop 2).all (λt=>(T6 e t).isSome)=false then
  (if Q3 (nc l<|bx e) then some ((l.D0.drop 2).foldl (λe t=>e.set t.var.toNat<|some<|nc l<|bx e) e) else none)
 else some e
def xn (body:List T2) (e:RE):Option RE:=body.foldlM tz e
def q9 (body:List T2):Nat->RE->Option RE
 | 0,e=>some e
 | n+1,e=>(xn body e).bind (q9 body n)
def p7 (S:List U0) (body:List T2) (e:RE):Bool:=body.any λl=>l.D0.all (λt=>(T6 e t).isSome) && !K3 S l (bx e)
def ek (S:List U0) (body:List T2):List T2->RE->List (List Int)
 | [],e=>match q9 body (body.length+1) e with
  | none=>[]
  | some a=>if p7 S body a then [] else [bx a]
 | l::b,e=>match q9 body (body.length+1) e with
  | none=>[]
  | some a=>if p7 S body a then [] else X9 S (ek S body b) l a
def sX {l:T2} (a:l.D0.length=3):∃ t1 t2 t3,l.D0=[t1,t2,t3]:=by
 match h:l.D0,a with
 | [t1,t2,t3],_=>exact⟨t1,t2,t3,rfl⟩
def Zb {S:List U0} {e e':RE} {l:T2} (m:Qv S e.length l) (h:tz e l=some e') :
  e'.length=e.length/\(∀ a,K3 S l a=true->(mg e' a↔mg e a))/\b8 e'=(if l.R0=4 then nr (b8 e) l else b8 e)/\∀ a,mg e' a->mg e a:=by
 unfold tz at h;by_cases c:l.R0=4
 ·have j:=m.Mj c;obtain⟨t1,t2,t3,o⟩:=sX j;have r:W5 e.length t3:=m.D0 t3 (by rw [o];simp);have f:l.D0.drop 2=[t3]:=by rw [o];rfl
  have s:ef l=[t3]:=by unfold ef;rw [if_neg (by omega),f]
  rw [if_pos c];by_cases d:(l.D0.take 2).all (λt=>(T6 e t).isSome)=true
  ·have u:co (b8 e) l=true:=by
    unfold co;rw [decide_eq_true c,Do,Ei];right;rw [Cc] at d ⊢;intro t k;rw [s8];exact d t k
   have p:nr (b8 e) l=kj (b8 e) t3:=by unfold nr;rw [if_pos u,s];rfl
   cases i:T6 e t3 with
   | some x =>
    rw [if_neg<|by rw [f];simp [i]] at h;simp only [Option.some.injEq] at h;subst h;exact⟨rfl,λa _=>Iff.rfl,by rw [p,r9<|by rw [s8,i];rfl],λa b=>b⟩
   | none =>
    rw [if_pos ⟨c,d,by rw [f];simp [i]⟩] at h;split at h
    ·rw [f] at h;simp only [Bi,Im,Option.some.injEq] at h;subst h;have q:=λa=>Nt (a:=a) (n:=nc l<|bx e) r i
     refine⟨A6 ..,λa b=>?_,by rw [uL i,p],λa b=>((q a).1 b).1⟩
     rw [q a];refine⟨λg=>g.1,λg=>⟨g,?_⟩⟩
     have:=((Xf c j).1 b).2
     rw [f,yr g j<|List.all_eq_true.1 d] at this;simpa using this
    ·cases h
  ·rw [if_neg<|by rintro⟨_,g,_⟩;exact d g] at h;simp only [Option.some.injEq] at h;subst h;refine⟨rfl,λa _=>Iff.rfl,?_,λa b=>b⟩
   have v:¬ co (b8 e) l=true:=by
    unfold co;rw [decide_eq_false (by omega),Ci,Ae];rintro⟨_,g⟩;apply d;rw [Cc] at g ⊢;intro t k;rw [<- s8];exact g t k
   unfold nr;rw [if_neg v]
 ·rw [if_neg<|by rintro⟨g,_⟩;exact c g] at h;simp only [Option.some.injEq] at h;subst h;rw [if_neg c];exact⟨rfl,λa _=>Iff.rfl,rfl,λa b=>b⟩
def LN {S:List U0} {e:RE} {l:T2} (d:Qv S e.length l) (h:tz e l=none) (a:List Int) (f:mg e a):K3 S l a=false:=by
 unfold tz at h;split at h
 ·rename_i g;obtain⟨b,i,_⟩:=g;split at h
  ·cases h
  ·rename_i j;have c:=d.Mj b;cases k:K3 S l a with
   | false=>rfl
   | true =>
    have:=((Xf b c).1 k).1
    rw [yr f c<|List.all_eq_true.1 i] at this;exact absurd this j
 ·cases h
def ww (body:List T2):List T2:=body.filter λl=>decide (l.R0=4)
def iI (l:T2) (body:List T2) (bs:List Bool):jq (ww (l::body)) bs=jq (ww body) (if l.R0=4 then nr bs l else bs):=by
 unfold ww;rw [List.filter_cons];by_cases h:l.R0=4
 ·simp only [h,decide_true,if_true];rfl
 ·simp only [h,decide_false,if_false];rfl
def Yb {S:List U0}:∀ {body:List T2} {e e':RE},(∀ l∈body,Qv S e.length l)->xn body e=some e' ->
  e'.length=e.length/\(∀ a,(∀ l∈body,K3 S l a=true)->(mg e' a↔mg e a))/\b8 e'=jq (ww body) (b8 e)/\∀ a,mg e' a->mg e a
 | [],e,e',_,h=>by
  simp only [xn,List.foldlM_nil] at h
  cases h
  exact⟨rfl,λa _=>Iff.rfl,rfl,λa b=>b⟩
 | l::body,e,e',f,h=>by
  simp only [xn,Gj] at h
  cases c:tz e l with
  | none=>rw [c] at h;cases h
  | some i =>
   rw [c] at h
   obtain⟨g,j,k,m⟩:=Zb (f l<|Ac ..) c
   obtain⟨n,o,p,q⟩:=Yb (body:=body) (e:=i) (λx d=>by rw [g];exact f x<|Ak _ d) h
   refine⟨n.trans g,λa b=>?_,by rw [p,k,iI],λa b=>m a<|q a b⟩
   rw [o a λx d=>b x (Ak _ d),j a<|b l<|Ac ..]
def oB {S:List U0}:∀ {body:List T2} {e:RE},(∀ l∈body,Qv S e.length l)->xn body e=none->∀ a,mg e a->¬ ∀ l∈body,K3 S l a=true
 | [],e,_,h,_,_,_=>by simp [xn] at h
 | l::body,e,b,h,a,g,c=>by
  simp only [xn,Gj] at h
  cases d:tz e l with
  | none =>
   have:=LN (b l<|Ac ..) d a g
   rw [c l<|Ac ..] at this;cases this
  | some i =>
   rw [d] at h
   obtain⟨j,k,_,_⟩:=Zb (b l<|Ac ..) d
   exact oB (body:=body) (e:=i) (λx f=>by rw [j];exact b x<|Ak _ f) h a ((k a<|c l<|Ac ..).2 g) λx f=>c x<|Ak _ f
def qc {S:List U0} {body:List T2}:∀ {n:Nat} {e e':RE},(∀ l∈body,Qv S e.length l)->q9 body n e=some e' ->
  e'.length=e.length/\(∀ a,(∀ l∈body,K3 S l a=true)->(mg e' a↔mg e a))/\b8 e'=gz (ww body) n (b8 e)/\∀ a,mg e' a->mg e a
 | 0,e,e',_,h=>by
  simp only [q9,Option.some.injEq] at h
  subst h
  exact⟨rfl,λa _=>Iff.rfl,rfl,λa b=>b⟩
 | n+1,e,e',c,h=>by
  rw [q9,Option.bind_eq_some_iff] at h
  obtain⟨s,f,g⟩:=h
  obtain⟨d,i,j,k⟩:=Yb c f
  obtain⟨m,o,p,q⟩:=qc (λx r=>by rw [d];exact c x r) g
  refine⟨m.trans d,λa b=>by rw [o a b,i a b],by rw [p,j];rfl,λa b=>k a<|q a b⟩
def Jl {S:List U0} {body:List T2}:∀ {n:Nat} {e:RE},(∀ l∈body,Qv S e.length l)->q9 body n e=none->∀ a,mg e a->¬ ∀ l∈body,K3 S l a=true
 | 0,e,_,h,_,_,_=>by simp [q9] at h
 | n+1,e,b,h,a,f,c=>by
  rw [q9] at h
  cases d:xn body e with
  | none=>exact oB b d a f c
  | some k =>
   rw [d] at h
   obtain⟨g,i,_,_⟩:=Yb b d
   exact Jl (λx j=>by rw [g];exact b x j) h a ((i a c).2 f) c
def RF {S:List U0} {body:List T2} {e e':RE} (c:∀ l∈body,Qv S e.length l) (h:q9 body (body.length+1) e=some e'):Xc (ww body) (b8 e'):=by
 obtain⟨_,_,i,_⟩:=qc c h;have j:∀ l∈ww body,l∈body:=λl b=>(List.mem_filter.1 b).1
 have f:∀ l∈ww body,∀ t∈ef l,W5 (b8 e).length t:=by
  intro l b t a;rw [cw];refine (c l<|j l b).D0 t ?_;unfold ef at a;split at a
  ·exact a
  ·exact B4 a
 have o:(ww body).length<=body.length:=List.length_filter_le _ _;have g:=Vp f;have k:jq (ww body) (b8 e')=b8 e':=by
  obtain⟨d,m⟩:=Nat.exists_eq_add_of_le (show (ww body).length<=body.length+1 by omega);rw [i,m,Zc,Yc g,g]
 intro l b n t a;rw [<- k];exact Lb (λl b t a=>by
  have:=f l b t a
  rw [cw] at this ⊢;rw [(qc c h).1];exact this) l b n t a
def Nn {S:List U0} {body:List T2} {e:RE} {a:List Int} (c:mg e a) (d:∀ l∈body,K3 S l a=true):p7 S body e=false:=by
 unfold p7;rw [List.any_eq_false];intro l f b;rw [Ae,Cc] at b;have:=Wf (S:=S) c b.1
 rw [d l f] at this;rw [<- this] at b;exact absurd b.2<|by simp
def Fx (S:List U0) (G:S.Nodup) (body:List T2):∀ (ys:List T2) (e:RE),(∀ l∈ys,l∈body/\l.R0=1)->(∀ l∈body,Qv S e.length l)->Bd body (b8 e)->(∀ l∈body,l.R0=1->l∈ys∨∀ t∈l.D0,S5 (b8 e) t=true) ->
  (∀ a,a∈ek S body ys e↔mg e a/\∀ l∈body,K3 S l a=true)/\(ek S body ys e).Nodup
 | [],e,_,j,B,C=>by
  rw [ek];cases r:q9 body (body.length+1) e with
  | none=>exact⟨λa=>⟨λh=>by simp at h,fun⟨c,b⟩=>absurd b (Jl j r a c)⟩,.nil⟩
  | some f =>
   simp only;obtain⟨z,s,E,H⟩:=qc j r;have K:=RF j r;have w:O7 (b8 e) (b8 f):=by
    rw [E];have:∀ n k,O7 k (gz (ww body) n k):=by
     intro n;induction n with
     | zero=>intro k;exact O7.refl _
     | succ n ih=>intro k;exact (wx _ _).trans<|ih _
    exact this _ _
   have F:∀ v,v<(b8 f).length->(b8 f).getD v false=true:=by
    refine B _ w λl i A t m=>?_
    by_cases c:l.R0=1
    ·have y:ef l=l.D0:=by unfold ef;rw [if_pos c]
     rw [y] at m;rcases C l i c with h|h
     ·simp at h
     ·exact vr w<|h t m
    ·have L:l.R0=4:=by
      unfold co at A;rw [decide_eq_false c,Ci,Ae] at A;exact of_decide_eq_true A.1
     exact K l (List.mem_filter.2 ⟨i,decide_eq_true L⟩) A t m
   have M:∀ l∈body,∀ t∈l.D0,(T6 f t).isSome=true:=λl i t m=>RB F<|by rw [z];exact (j l i).D0 t m
   split
   ·rename_i o;refine⟨λa=>⟨λh=>by simp at h,fun⟨c,b⟩=>?_⟩,.nil⟩
    rw [Nn ((s a b).2 c) b] at o;cases o
   ·rename_i o;refine⟨λa=>?_,List.nodup_cons.2 ⟨by simp,.nil⟩⟩
    rw [A1];constructor
    ·rintro rfl;have p:=(Cx F<|bx f).2 rfl;refine⟨H _ p,λl i=>?_⟩
     cases N:K3 S l (bx f) with
     | true=>rfl
     | false =>
      exfalso;apply o;unfold p7;rw [List.any_eq_true];exact⟨l,i,by rw [N,Ae,Cc];exact⟨λt m=>M l i t m,rfl⟩⟩
    ·rintro⟨c,b⟩;exact (Cx F a).1<|(s a b).2 c
 | l::ys,e,I,j,B,C=>by
  rw [ek];cases r:q9 body (body.length+1) e with
  | none=>exact⟨λa=>⟨λh=>by simp at h,fun⟨c,b⟩=>absurd b<|Jl j r a c⟩,.nil⟩
  | some f =>
   simp only;obtain⟨z,s,E,H⟩:=qc j r;have w:O7 (b8 e) (b8 f):=by
    rw [E];have:∀ n k,O7 k (gz (ww body) n k):=by
     intro n;induction n with
     | zero=>intro k;exact O7.refl _
     | succ n ih=>intro k;exact (wx _ _).trans<|ih _
    exact this _ _
   obtain⟨i,y⟩:=I l<|Ac ..;have O:ef l=l.D0:=by unfold ef;rw [if_pos y]
   split
   ·rename_i o;refine⟨λa=>⟨λh=>by simp at h,fun⟨c,b⟩=>?_⟩,.nil⟩
    rw [Nn ((s a b).2 c) b] at o;cases o
   ·have ih:∀ d,d.length=f.length->O7 (b8 f) (b8 d)->((∀ t∈ef l,S5 (b8 d) t=true)∨∀ Q,co Q l=false)->(∀ a,a∈ek S body ys d↔mg d a/\∀ l∈body,K3 S l a=true)/\(ek S body ys d).Nodup:=by
     intro d u q g;refine Fx S G body ys d (λx p=>I x<|Ak _ p) (λx p=>by rw [u,z];exact j x p) (λR T U=>B R ((w.trans q).trans T) U) λx p V=>?_
     rcases C x p V with h|h
     ·rcases List.mem_cons.1 h with rfl|h
      ·right;rcases g with g|g
       ·rw [O] at g;exact g
       ·have:=g []
        unfold co at this;rw [decide_eq_true y] at this;simp at this
      ·exact .inl h
     ·exact .inr λt m=>vr (w.trans q)<|h t m
    have J:Qv S f.length l:=by rw [z];exact j l i
    refine⟨λa=>?_,Lw G J λd u q g=>⟨(ih d u q g).2,λa W=>(((ih d u q g).1 a).1 W).1⟩⟩
    rw [FG (P:=λa=>∀ l∈body,K3 S l a=true) J (.inr y) a λd u q g=>(ih d u q g).1 a];constructor
    ·rintro⟨⟨c,_⟩,b⟩;exact⟨(s a b).1 c,b⟩
    ·rintro⟨c,b⟩;exact⟨⟨(s a b).2 c,b l i⟩,b⟩
def gk (a:List Int):List D:=[.slice 1<|a.map aq]
structure okB (S:List U0) (v:Nat) (body:List T2):Prop where
 lit:∀ l∈body,Qv S v l
 op:∀ l∈body,l.R0=3->1<=l.op/\l.op<=4
 pA:∀ l∈body,∀ t∈l.D0,-1000000<=t.n/\t.n<=1000000
 facts:∀ x∈S,∀ y∈x.args,-1000000<=y/\y<=1000000
 len:body.length<=4
 RZ:v<=8
 Jd:∀ l∈body,l.D0.length<=3
def rn (e:RE):Prop:=∀ (v:Nat) (x:Int),e[v]?=some (some x)->-1000000<=x/\x<=1000000
def MC {e:RE} (h:rn e) {t:I6} (a:-1000000<=t.n/\t.n<=1000000):-1000000<=vA (bx e) t/\vA (bx e) t<=1000000:=by
 unfold vA bx;split
 ·exact a
 ·rw [A4,Bh];cases b:e[t.var.toNat]? with
  | none=>simp
  | some y =>
   cases y with
   | none=>simp
   | some z=>simpa using h _ _ b
def Xr (e:RE) (l:List I6):l.all (S5 (b8 e))=l.all λt=>(T6 e t).isSome:=by congr 1;funext t;exact s8 e t
abbrev kY (r:O3) (S:List U0) (o:SV) (m:Bool):HB:=.M1 148 [.i r.N0,.s 2 (r.D0.map a7),.i r.T0,.s 4 (r.body.map bf),.i r.vars,.s 2 (S.map aa),o,.b m]
abbrev t7 (r:O3) (S:List U0) (a:List (List Int)) (m:Bool):Hp:=[(0,kY r S (.row 1) m),(1,.row 22 1 (a.map gk))]
def RO (r:O3) (S:List U0) (c:List (List Int)) (m:Bool) (e:RE) (d:okB S e.length r.body) (p:rn e) :
  X1 false prog U5 bt 153 [.loc 0 0,.s 1 ((bx e).map aq),.s 1 ((b8 e).map cu)] 2 2 (t7 r S c m) (λ_ q H=>q=.b (p7 S r.body e)/\H=t7 r S c m):=by
 refine T8 func153 ?_;intro O w x y;have z:(r.body.map bf).length=r.body.length:=Aa _;have A:=d.len;refine zS ?_;refine ae (ι:=Nat) (λi=>⟨2,[(0,.loc 0 0),(1,.s 1<|(bx e).map aq),(2,.s 1<|(b8 e).map cu),(7,.i i)],t7 r S c m⟩)
  (λi=>i<=r.body.length/\p7 S r.body e=p7 S (r.body.drop i) e) (λi=>r.body.length-i) 0 ⟨Ai _,rfl⟩ (er id) ?_
 rintro i ⟨g1,g2⟩;dsimp only at g1 g2 ⊢;by_cases f:i<r.body.length
 ·have g:=Ah f;have k:=d.lit _ g;have B:=d.Jd _ g;have a:=TJ r.body[i].D0 (b8 e) (by rw [cw];exact k.D0);rw [Xr] at a;have h:=GG S r.body[i] (bx e) (by rw [eb];exact k) (d.op _ g) (λ_ t u=>MC p<|d.pA _ g t u) (by omega);have v:p7 S (r.body.drop i) e=((r.body[i].D0.all (λt=>(T6 e t).isSome) && !K3 S r.body[i] (bx e))||p7 S (r.body.drop<|i+1) e):=by
   unfold p7;rw [An f,It]
  rw [v] at g2;cases n:r.body[i].D0.all (λt=>(T6 e t).isSome) with
  | false =>
   rw [n] at a g2;rw [E9,Ci] at g2;repeat' (first|refine zr ?_|refine z22 ?_ a|(refine zm ?_ ?_<;>intro j)|omega)
   exact⟨i+1,⟨f,g2⟩,er id,by omega⟩
  | true =>
   rw [n] at a g2;rw [Do] at g2;cases o:K3 S r.body[i] (bx e) with
   | false =>
    rw [o] at h g2;rw [Bool.not_false,Bool.true_or] at g2;rw [g2];repeat' (first|refine zr ?_|refine z22 ?_ a|refine z22 ?_ h|(refine zm ?_ ?_<;>intro j)|omega)
    exact⟨.inl rfl,_,rfl,kp id 2 _ (t7 r S c m) ⟨rfl,rfl⟩⟩
   | true =>
    rw [o] at h g2;rw [Bool.not_true,Ci] at g2;repeat' (first|refine zr ?_|refine z22 ?_ a|refine z22 ?_ h|(refine zm ?_ ?_<;>intro j)|omega)
    exact⟨i+1,⟨f,g2⟩,er id,by omega⟩
 ·rw [Ar<|by omega] at g2;rw [g2];repeat' (first|refine zr ?_|(refine zm ?_ ?_<;>intro j)|omega)
  exact⟨.inl rfl,_,rfl,kp id 2 _ (t7 r S c m) ⟨rfl,rfl⟩⟩
def qG {e:RE} (h:rn e) {v:Nat} {n:Int} (c:Q3 n=true):rn (e.set v (some n)):=by
 intro u x a;by_cases b:v=u
 ·subst b;by_cases d:v<e.length
  ·rw [B8 d] at a;simp at a;subst a;exact Rv.1 c
  ·rw [Be<|by rw [A6];omega] at a;cases a
 ·rw [B5 b] at a;exact h u x a
def SF {S:List U0} {e e':RE} {l:T2} (b:Qv S e.length l) (a:rn e) (h:tz e l=some e'):rn e':=by
 unfold tz at h;split at h
 ·rename_i c;split at h
  ·rename_i d;obtain⟨t1,t2,t3,f⟩:=sX<|b.Mj c.1;rw [f] at h;simp only [Ft,Fb,Bi,Im,Option.some.injEq] at h;subst h;exact qG a d
  ·cases h
 ·simp only [Option.some.injEq] at h;subst h;exact a
def kG (e:RE) (v:Nat) (x:Int):bx (e.set v (some x))=(bx e).set v x:=by unfold bx;rw [Db];rfl
def aH (e:RE) (v:Nat) (x:Int):b8 (e.set v (some x))=(b8 e).set v true:=by unfold b8;rw [Db];rfl
def JN {body:List T2} {i:Nat} (hi:i<body.length) (e:RE):xn (body.drop i) e=(tz e body[i]).bind (xn (body.drop (i+1))):=by unfold xn;rw [An hi,Gj];rfl
def KN (body:List T2) {n k:Nat} (h:n<k) (e:RE):q9 body (k-n) e=(xn body e).bind (q9 body (k-(n+1))):=by rw [show k-n=(k-(n+1))+1 by omega];rfl
abbrev fX (r:O3) (S:List U0) (a:List (List Int)) (m:Bool) (e:RE):Hp:=[(0,kY r S (.row 3) m),(1,.row 3 1 ((bx e).map aq)),(2,.row 4 1 ((b8 e).map cu)),(3,.row 22 1 (a.map gk))]
def RkR (r:O3) (S:List U0) (c:List (List Int)) (m:Bool) (o:Option RE) (d:SV) (H:Hp):Prop:=match o with
 | some a=>d=.b true/\H=fX r S c m a
 | none=>d=.b false/\∃ a,H=fX r S c m a
def iJ {e:RE} {l:T2} (h:l.R0≠4):tz e l=some e:=by unfold tz;rw [if_neg<|λg=>h g.1]
def jJ {e:RE} {op N0:Int} {t1 t2 t3:I6} (h:[t1,t2].all (S5 (b8 e))=false):tz e ⟨4,op,N0,[t1,t2,t3]⟩=some e:=by rw [Xr] at h;unfold tz;rw [if_neg<|λg=>by have:=g.2.1;simp only [List.take_succ_cons,List.take_zero] at this;rw [h] at this;cases this]
def wR {e:RE} {op N0:Int} {t1 t2 t3:I6} (h:[t3].all (S5 (b8 e))=true):tz e ⟨4,op,N0,[t1,t2,t3]⟩=some e:=by rw [Xr] at h;unfold tz;rw [if_neg<|λg=>by have:=g.2.2;simp only [Ft,Fb] at this;rw [h] at this;cases this]
def vR {e:RE} {op N0:Int} {t1 t2 t3:I6} (h:[t1,t2].all (S5 (b8 e))=true) (a:[t3].all (S5 (b8 e))=false):tz e ⟨4,op,N0,[t1,t2,t3]⟩=if Q3 (ov op (vA (bx e) t1) (vA (bx e) t2)) then some (e.set t3.var.toNat (some (ov op (vA (bx e) t1) (vA (bx e) t2)))) else none:=by rw [Xr] at h a;unfold tz;rw [if_pos ⟨rfl,by simpa using h,by simpa using a⟩];rfl
def IN (r:O3) (S:List U0) (o:List (List Int)) (m:Bool) (e:RE) (w:okB S e.length r.body) (Z:rn e) :
  X1 false prog U5 bt 152 [.loc 0 0,.row 1,.row 2] 4 4 (fX r S o m e) (λ_ c H=>RkR r S o m (q9 r.body (r.body.length+1) e) c H):=by
 refine T8 func152 ?_;intro a4 w0 E0 K1;have lb:(r.body.map bf).length=r.body.length:=Aa _;have a5:=w.len;refine zS ?_;refine ae (ι:=Nat×RE) (λx=>⟨4,[(0,.loc 0 0),(1,.row 1),(2,.row 2),(7,.i x.1)],fX r S o m x.2⟩)
  (λx=>x.1<=r.body.length+1/\x.2.length=e.length/\rn x.2/\q9 r.body (r.body.length+1) e=q9 r.body (r.body.length+1-x.1) x.2) (λx=>r.body.length+1-x.1) (0,e) ⟨Ai _,rfl,Z,rfl⟩ (er id) ?_
 rintro⟨n,q⟩ ⟨g1,M,N,f⟩;dsimp only at g1 M N f ⊢;by_cases a0:n<r.body.length+1
 ·rw [KN r.body a0] at f;repeat' (first|refine zr ?_|(refine zm ?_ ?_<;>intro s)|omega)
  refine ae (ι:=Nat×RE) (λx=>⟨4,[(0,.loc 0 0),(1,.row 1),(2,.row 2),(7,.i n),(8,.i x.1)],fX r S o m x.2⟩)
   (λx=>x.1<=r.body.length/\x.2.length=e.length/\rn x.2/\xn r.body q=xn (r.body.drop x.1) x.2) (λx=>r.body.length-x.1) (0,q) ⟨Ai _,M,N,rfl⟩ (er id) ?_
  rintro⟨i,a⟩ ⟨f1,f2,f3,f4⟩;dsimp only at f1 f2 f3 f4 ⊢;by_cases O:i<r.body.length
  ·have z:=Ah O;have g:=w.lit _ z;rw [<- f2] at g;have P:=w.Jd _ z;have A:=w.pA _ z;rw [JN O] at f4;repeat' ((fail_if_success (apply fh 8));(first|refine zs ?_|(refine zm ?_ ?_<;>intro s)|fail))
   all_goals try omega
   refine ag (bk (k':=5) (L':=[(0,.loc 0 0),(1,.row 1),(2,.row 2),(7,.i n),(8,.i i),(9,.loc 4 0)]) (H':=(4,Vl r.body[i])::fX r S o m a) id ⟨rfl,rfl,rfl,rfl,rfl,rfl,trivial⟩ ⟨rfl,rfl,rfl,rfl,rfl,trivial⟩ rfl rfl rfl rfl rfl rfl) ?_;generalize r.body[i]=l at g P A f4 ⊢;clear z;have hk:=g.R0;have u:=g.D0;have Q:=g.Mj;have a1:∀ B,tz a l=some B->B.length=e.length/\rn B:=λB h=>⟨(Zb g h).1.trans f2,SF g f3 h⟩
   clear g;obtain⟨R,b,v,T⟩:=l;dsimp only at hk u Q P A;by_cases J:R=4
   ·subst J;match T,Q rfl with
    | [t1,t2,t3],_ =>
     have a2:∀ t∈[t1,t2],W5 (b8 a).length t:=λt k=>by rw [cw];exact u t<|by simp at k ⊢;rcases k with rfl|rfl<;>simp
     have a3:∀ t∈[t3],W5 (b8 a).length t:=λt k=>by rw [cw];exact u t<|by simp at k ⊢;subst k;simp
     have C:=Vo [t1,t2] (b8 a) a2;have E:=Vo [t3] (b8 a) a3;repeat' (first|(apply qp;(iterate 6 exact rfl);(refine⟨?_,?_,?_⟩<;>(first|omega|(simp only [Aa];omega)));((with_reducible apply pm);(exact ez _));exact rfl;exact rfl)|refine zs ?_|fail)
     cases F:[t1,t2].all (S5<|b8 a) with
     | false =>
      rw [F] at C;rw [jJ F] at f4;refine aw (λj=>match j with|0=>2|j=>j) C rfl rfl rfl rfl ⟨rfl,trivial⟩ rfl rfl rfl rfl rfl rfl ?_ ?_
      ·rintro k2 c H2 ⟨rfl,rfl⟩;exact⟨rfl,rfl⟩
      rintro k2 c H2 ⟨rfl,rfl⟩;change DS _ _ _ _ _ _ _ _;refine zS ?_;all_goals try omega
      exact⟨(i+1,a),⟨by dsimp only;omega,f2,f3,f4⟩,er id,by show r.body.length-(i+1)<r.body.length-i;omega⟩
     | true =>
      rw [F] at C;refine aw (λj=>match j with|0=>2|j=>j) C rfl rfl rfl rfl ⟨rfl,trivial⟩ rfl rfl rfl rfl rfl rfl ?_ ?_
      ·rintro k2 c H2 ⟨rfl,rfl⟩;exact⟨rfl,rfl⟩
      rintro k2 c H2 ⟨rfl,rfl⟩;change DS _ _ _ _ _ _ _ _;repeat' (first|(apply qp;(iterate 6 exact rfl);(refine⟨?_,?_,?_⟩<;>(first|omega|(simp only [Aa];omega)));((with_reducible apply nM);(exact ez _));exact rfl;exact rfl)|refine zs ?_|omega)
      cases p:[t3].all (S5<|b8 a) with
      | true =>
       rw [p] at E;rw [wR p] at f4;refine aw (λj=>match j with|0=>2|j=>j) E rfl rfl rfl rfl ⟨rfl,trivial⟩ rfl rfl rfl rfl rfl rfl ?_ ?_
       ·rintro k2 c H2 ⟨rfl,rfl⟩;exact⟨rfl,rfl⟩
       rintro k2 c H2 ⟨rfl,rfl⟩;change DS _ _ _ _ _ _ _ _;refine zS ?_;all_goals try omega
       exact⟨(i+1,a),⟨by dsimp only;omega,f2,f3,f4⟩,er id,by show r.body.length-(i+1)<r.body.length-i;omega⟩
      | false =>
       rw [p] at E;have d:=vR (op:=b) (N0:=v) F p;refine aw (λj=>match j with|0=>2|j=>j) E rfl rfl rfl rfl ⟨rfl,trivial⟩ rfl rfl rfl rfl rfl rfl ?_ ?_
       ·rintro k2 c H2 ⟨rfl,rfl⟩;exact⟨rfl,rfl⟩
       rintro k2 c H2 ⟨rfl,rfl⟩;change DS _ _ _ _ _ _ _ _;repeat' (first|(apply qp;(iterate 6 exact rfl);(refine⟨?_,?_,?_⟩<;>(first|omega|(simp only [Aa];omega)));((with_reducible apply pm);(exact ez _));exact rfl;exact rfl)|refine zs ?_|omega)
       have U:=MC f3 (A t1<|by simp);have V:=MC f3 (A t2<|by simp);have G:=UK [t1,t2] (bx a) (λt k=>by rw [eb];exact u t<|by simp at k ⊢;rcases k with rfl|rfl<;>simp) (by simp);simp only [A3,Dm] at G;generalize hx:vA (bx a) t1=x at U G d;generalize hy:vA (bx a) t2=y at V G d;have W:=pC b x y U V;have I:=ml<|ov b x y;refine aw (λj=>match j with|0=>1|j=>j) G rfl rfl rfl rfl ⟨rfl,trivial⟩ rfl rfl rfl rfl rfl rfl ?_ ?_
       ·rintro k2 c H2 ⟨rfl,rfl⟩;exact⟨rfl,rfl⟩
       rintro k2 c H2 ⟨rfl,rfl⟩;change DS _ _ _ _ _ _ _ _;have a9:0<=t3.var/\t3.var<a.length:=by
        have X:=u t3 (by simp);unfold W5 at X;refine⟨?_,X⟩
        simp only [Dx,List.all_nil,Hf] at p;unfold S5 at p;simp only [Bool.or_eq_false_iff,decide_eq_false_iff_not] at p;omega
       have lo:((bx a).map aq).length=a.length:=by rw [Aa,eb]
       have lh:((b8 a).map cu).length=a.length:=by rw [Aa,cw]
       cases Y:Q3 (ov b x y) with
       | false =>
        rw [Y] at I d;have d:tz a ⟨4,b,v,[t1,t2,t3]⟩=none:=d;rw [d] at f4;have K:xn r.body q=none:=f4;rw [K] at f;have L:q9 r.body (r.body.length+1) e=none:=f;rw [L];repeat' (first|refine zr ?_|refine z22 ?_ W|refine z21 ?_ I|omega)
        exact⟨.inl rfl,_,rfl,kp id 4 _ (fX r S o m a) ⟨rfl,a,rfl⟩⟩
       | true =>
        rw [Y] at I d;have d:tz a ⟨4,b,v,[t1,t2,t3]⟩=some (a.set t3.var.toNat<|some<|ov b x y):=d;obtain⟨q1,q2⟩:=a1 _ d;rw [d] at f4;repeat' (first|refine z0 ?_|apply i7|(apply mh;exact rfl;exact rfl;(apply k0;(omega));exact rfl;exact rfl;(exact mc rfl);(iterate 6 exact rfl))|refine zs ?_|refine z22 ?_ W|refine z21 ?_ I|omega)
        have o1:=kG a t3.var.toNat<|ov b x y;have o2:=aH a t3.var.toNat<|ov b x y;exact⟨(i+1,a.set t3.var.toNat<|some<|ov b x y),⟨by dsimp only;omega,q1,q2,f4⟩,er id (hH:=⟨rfl,by rw [o1];rfl,by rw [o2];rfl,rfl,trivial⟩),by show r.body.length-(i+1)<r.body.length-i;omega⟩
   ·have hr:=iJ (e:=a) (l:=⟨R,b,v,T⟩) J;rw [hr] at f4;repeat' (first|refine zs ?_|(refine zm ?_ ?_<;>intro s)|omega)
    all_goals try (exfalso;exact s J)
    exact⟨(i+1,a),⟨by dsimp only;omega,f2,f3,f4⟩,er id,by show r.body.length-(i+1)<r.body.length-i;omega⟩
  ·rw [Ar<|by omega] at f4;have K:xn r.body q=some a:=f4;rw [K] at f;repeat' (first|(apply qp;(iterate 6 exact rfl);(refine⟨?_,?_,?_⟩<;>(omega));((with_reducible apply pm);(exact ez _));exact rfl;exact rfl)|refine zs ?_|(refine zm ?_ ?_<;>intro s)|omega)
   exact⟨(n+1,a),⟨by dsimp only;omega,f2,f3,f⟩,er id,by show r.body.length+1-(n+1)<r.body.length+1-n;omega⟩
 ·have hz:r.body.length+1-n=0:=by omega
  rw [hz] at f;have L:q9 r.body (r.body.length+1) e=some q:=f;rw [L];repeat' (first|refine zr ?_|(refine zm ?_ ?_<;>intro s)|omega)
  exact⟨.inl rfl,_,rfl,kp id 4 _ (fX r S o m q) ⟨rfl,rfl⟩⟩
end
end Go.Proofs.YtapciiffpnociabGreat
