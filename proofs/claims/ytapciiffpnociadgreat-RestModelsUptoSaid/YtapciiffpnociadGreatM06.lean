/- Several texts in one: GxReg GxSim. Condition: none. -/
import Derived.Test.YtapciiffpnociadGreatM05
set_option linter.all false
open Array renaming mem_toList_iff→Gl,toList_append→C6
open Bool renaming and_eq_true→Ad,false_or→Cb,not_true→Ew,or_eq_true→Du
open List renaming all_append→C9,all_eq_true→Bg,any_eq_true→Hg,cons_append→Cd,filterMap_cons→Bf,map_cons→A7,mem_cons→Be,mem_cons_of_mem→Ah,mem_cons_self→Ae,pairwise_append→Ec
open Nat renaming ble→B6,eq_of_beq_eq_true→Aj,le_of_ble_eq_true→Ac,le_refl→Af,not_lt_zero→A6,zero_le→Ai
namespace Go.Proofs.YtapciiffpnociadGreat
section
open Go Go.RowKit
variable [Bnds]
section
variable {Γ : Ctx} {ops : List Oper} {κ : Nat} {s : FS} {i j : Nat} {o oi oj : Oper}
theorem okLog_sub {rd wr:List Nat} {lg lg':Log} (h:∀ q∈lg',q∈lg) (hk:fz ops i rd wr lg=true):fz ops i rd wr lg'=true :=
 okLog_spec.2 λq hq=>okLog_spec.1 hk q (h q hq)
theorem DR.log_sub {l:List (Nat×Oper)} {lg lg':Log} {K:FS->Prop} (h:DR Γ ops κ l lg K s) (hs:∀ q∈lg',q∈lg):DR Γ ops κ l lg' K s:=by
 induction h generalizing lg' with
 | nil h=>exact .nil h
 | cons c S rd wr hm hl hne hn _ ih =>
  refine .cons c S rd wr hm (okLog_sub hs hl) hne hn λv u hv=>ih v u hv λq hq=>?_
  rcases List.mem_cons.1 hq with rfl|hq
  ·exact Ae ..
  ·exact Ah _ (hs q hq)
theorem notIn_comm {l r:List Nat} (h:vm l r=true):vm r l=true:=disj_of λi hi hl=>s9 h i hl hi
def swapOk (ops:List Oper) (j:Nat) (oj:Oper) (i:Nat) (oi:Oper):Prop :=
 qo ops i j=false/\mt ops j i=false/\apartO ops oj oi=true/\(isCall oj=true->isCall oi=false)
theorem DR.swap {rest:List (Nat×Oper)} {lg:Log} {K:FS->Prop} (hs:swapOk ops j oj i oi) (h:DR Γ ops κ ((j,oj)::(i,oi)::rest) lg K s):DR Γ ops κ ((i,oi)::(j,oj)::rest) lg K s:=by
 obtain⟨e1,e2,hap,hcc⟩:=hs;simp only [apartO,Ad] at hap;obtain⟨a1,a2,a3⟩:=hap;have a3':nin oi.dst oj.dst.toList=true:=by
  cases hi:oi.dst with
  | none=>rfl
  | some x =>
   cases hj:oj.dst with
   | none=>rfl
   | some y =>
    rw [hi,hj] at a3;refine n5 λhm=>f7 _ _ a3 ?_
    simp only [Option.toList,List.mem_singleton] at hm ⊢;exact hm.symm
 cases h with
 | cons cj Sj rdj wrj hmj hlj hnej hnj hkj =>
  obtain⟨v0,u0,h0⟩:=hnej;have hk0:=hkj v0 u0 h0;have second:∀ v u,Sj v u->∃ ci Si rdi wri,Mv Γ ops κ s i oi ci Si rdi wri/\fz ops i rdi wri lg=true/\vm wrj rdi=true/\vm wri rdj=true/\vm wri wrj=true/\(∃ v u,Si v u)/\(∀ v u,Si v u->u.names (κ+i)=wri) /\
    ∀ vi ui,Si vi ui->DR Γ ops κ rest ((i,rdi,wri)::(j,rdj,wrj)::lg) K ((s.app (κ+j) oj.dst v u).app (κ+i) oi.dst vi ui):=by
   intro v u hv;have hk:=hkj v u hv;cases hk with
   | cons ci Si rdi wri hmi hli hnei hni hki =>
    simp only [fz,Ad,e1,e2,Bool.or_false] at hli;obtain⟨⟨d1,d2,d3⟩,hl⟩:=hli;have hmi':=(Mv.move a1 (λx hx hu=>s9 d1 x (by rw [<- hnj v u hv];exact hu) hx)).1 hmi;exact⟨ci,Si,rdi,wri,hmi',hl,d1,d2,d3,hnei,hni,hki⟩
  obtain⟨ci,Si,rdi,wri,hmi,hli,d1,d2,d3,hnei,hni,hki⟩:=second v0 u0 h0;refine .cons ci Si rdi wri hmi hli hnei hni λvi ui hvi=>?_
  have hnui:=hni vi ui hvi;have hmj':Mv Γ ops κ (s.app (κ+i) oi.dst vi ui) j oj cj Sj rdj wrj:=(Mv.move a2 (λx hx hu=>s9 d2 x (by rw [<- hnui];exact hu) hx)).2 hmj;refine .cons cj Sj rdj wrj hmj' ?_ ⟨v0,u0,h0⟩ hnj λvj uj hvj=>?_
  ·simp only [fz,Ad,Du];exact⟨.inl ⟨d2,d1,notIn_comm d3⟩,hlj⟩
  ·have hcomm:(s.app (κ+i) oi.dst vi ui).app (κ+j) oj.dst vj uj=(s.app (κ+j) oj.dst vj uj).app (κ+i) oi.dst vi ui :=
    FS.app_comm a3' (by rw [hnui,hnj vj uj hvj];exact d3)
   rw [hcomm];have hlog:∀ q∈((j,rdj,wrj)::(i,rdi,wri)::lg),q∈((i,rdi,wri)::(j,rdj,wrj)::lg):=λq hq=>by
    simp only [Be] at hq ⊢;rcases hq with h|h|h
    ·exact .inr (.inl h)
    ·exact .inl h
    ·exact .inr (.inr h)
   cases cj with
   | false =>
    obtain⟨r1,r2⟩:=Mv.one hmj hvj h0;subst r1;subst r2;exact (hki vi ui hvi).log_sub hlog
   | true =>
    have hci:=hcc (Mv.call_is hmj);obtain⟨ci',Si',rdi',wri',hmi',_,_,_,_,_,_,hki'⟩:=second vj uj hvj;have f1:ci=false:=by
     cases ci with
     | false=>rfl
     | true=>rw [Mv.call_is hmi] at hci;cases hci
    have f2:ci'=false:=by
     cases ci' with
     | false=>rfl
     | true=>rw [Mv.call_is hmi'] at hci;cases hci
    subst f1;subst f2;obtain⟨r1,r2,r3⟩:=Mv.det hmi hmi';subst r1;subst r2;subst r3;exact (hki' vi ui hvi).log_sub hlog
theorem DR.mono {l:List (Nat×Oper)} {lg:Log} {K K':FS->Prop} (h:DR Γ ops κ l lg K s) (hK:∀ s,K s->K' s):DR Γ ops κ l lg K' s:=by
 induction h with
 | nil h=>exact .nil (hK _ h)
 | cons c S rd wr hm hl hne hn _ ih=>exact .cons c S rd wr hm hl hne hn λv u hv=>ih v u hv hK
theorem DR.pull {post:List (Nat×Oper)} {K:FS->Prop}:∀ (pre:List (Nat×Oper)) (lg:Log) (s:FS),(∀ q∈pre,swapOk ops q.1 q.2 i oi)->DR Γ ops κ (pre++(i,oi)::post) lg K s->DR Γ ops κ ((i,oi)::(pre++post)) lg K s
 | [],_,_,_,h=>h
 | (j,oj)::pre,lg,s,hs,h=>by
  refine DR.swap (hs _ (Ae ..)) ?_
  cases h with
  | cons c S rd wr hm hl hne hn hk =>
   exact .cons c S rd wr hm hl hne hn λv u hv=>DR.pull pre _ _ (λq hq=>hs q (Ah _ hq)) (hk v u hv)
def Rep (Γ:Ctx) (k:Nat->Prop) (s:FS) (e:Env) (a:Act) (w:World):Prop:=∃ L H,Models Γ k L H e a w/\ofL L H=s
theorem Models.putO {k:Nat->Prop} {L:Sl} {H:Hp} {e:Env} {a:Act} {w:World} (m:Models Γ k L H e a w) {dst:Option Nat} {v:SV} {u:Value} (hd:dstOk Γ dst=true) (hr:Rel (Γ.X e H) e w v u):Models Γ k (putL dst v L) H e (a.put dst u) w:=by
 cases dst with
 | none=>exact m
 | some d=>exact m.put (Ac hd) hr
theorem appL_get {L:Sl} {H:Hp} (hnd:(H.map (·.1)).Nodup) {dst:Option Nat} {p:Prop} {v:SV} {u:Up} {z:Nat} {op:Op} (h:ir Γ.τ (ai L) (Hp.get H) z dst op=some (p,v,u)):ofL (putL dst v L) (u.appL z H)=(ofL L H).app z dst v u:=by
 have h1:((ofL L H).put dst v).ℓ=(putL dst v L).get:=by rw [li];rfl
 have h2:Hp.get (u.appL z H)=u.app z (Hp.get H):=by
  funext t;cases u with
  | no=>rfl
  | new b=>exact Hp.get_cons z b H t
  | set i b =>
   have:∃ b0,Hp.get H i=some b0:=by
    cases dst with
    | none =>
     cases op<;>simp only [ir] at h<;>try cases h
     case store te x y =>
      simp only [qf,fj] at h;split at h
      ·split at h
       ·rename_i hH;split at h
        ·cases h;exact⟨_,hH⟩
        ·cases h
       ·cases h
      ·split at h
       ·rename_i hH;split at h
        ·split at h
         ·cases h;exact⟨_,hH⟩
         ·cases h
        ·cases h
       ·cases h
      ·cases h
    | some d =>
     exfalso;simp only [ir] at h;cases op<;>simp only [mc,fj] at h
     case alloc=>split at h<;>cases h
     case box=>split at h<;>cases h
     case buildSlice =>
      unfold mv at h;split at h
      ·have:=yc h;cases this
      ·split at h
       ·split at h<;>cases h
       ·cases h
      ·cases h
     case makeSlice =>
      unfold makeC at h;repeat' (split at h)
      all_goals cases h
     case call c =>
      obtain⟨callee,args,ts⟩:=c;cases callee with
      | builtin bb =>
       cases bb<;>dsimp only at h
       case append =>
        split at h
        ·split at h
         ·rw [va] at h;unfold yf at h;repeat' (split at h)
          all_goals cases h
         ·cases h
        ·cases h
       all_goals (split at h<;>cases h)
      | _=>dsimp only at h;split at h<;>cases h
     all_goals (split at h<;>cases h)
   obtain⟨b0,hb0⟩:=this;exact Hp.get_set i b H b0 hb0 t
  | del i =>
   show Hp.get (Hp.del H i) t=_;rw [Hp.get_del i H hnd];rfl
  | trade i b =>
   show Hp.get ((z,b)::Hp.del H i) t=_;rw [Hp.get_cons,Hp.get_del i H hnd];rfl
 unfold FS.app;rw [h1];unfold ofL;rw [h2]
mutual
theorem SV.ren_eq {σ ρ:Nat->Nat} {J:Nat} (h:∀ i,i<J->σ i=ρ i):∀ (s:SV),s.low J=true->s.ren σ=s.ren ρ
 | .junk,_=>rfl
 | .d _,_=>rfl
 | .nils,_=>rfl
 | .pd _,_=>rfl
 | .loc i _,hl=>by simp only [SV.ren];rw [h i (Ac hl)]
 | .mp i,hl=>by simp only [SV.ren];rw [h i (Ac hl)]
 | .md _ _,_=>rfl
 | .row i,hl=>by simp only [SV.ren];rw [h i (Ac hl)]
 | .prow i _ _ _,hl=>by simp only [SV.ren];rw [h i (Ac hl)]
 | .sl i _ _ _,hl=>by simp only [SV.ren];rw [h i (Ac hl)]
 | .rsl i _ _ _,hl=>by simp only [SV.ren];rw [h i (Ac hl)]
 | .rg _ _ _,_=>rfl
 | .fn _ caps,hl=>by simp only [SV.ren];rw [SV.renL_eq h caps hl]
 | .agg ss,hl=>by simp only [SV.ren];rw [SV.renL_eq h ss hl]
 | .tup ss,hl=>by simp only [SV.ren];rw [SV.renL_eq h ss hl]
 | .val _,_=>rfl
theorem SV.renL_eq {σ ρ:Nat->Nat} {J:Nat} (h:∀ i,i<J->σ i=ρ i):∀ (ss:List SV),SV.lowL J ss=true->SV.renL σ ss=SV.renL ρ ss
 | [],_=>rfl
 | s::ss,hl=>by
  simp only [SV.lowL,Ad] at hl
  simp only [SV.renL]
  rw [SV.ren_eq h s hl.1,SV.renL_eq h ss hl.2]
end
theorem HB.ren_eq {σ ρ:Nat->Nat} {J:Nat} (h:∀ i,i<J->σ i=ρ i):∀ (b:HB),b.low J=true->b.ren σ=b.ren ρ
 | .blk _ cs,hl=>by simp only [HB.ren];rw [SV.renL_eq h cs hl]
 | .row _ _ _,_=>rfl
 | .map _ _,_=>rfl
mutual
theorem Rel.dom {X X':Nat->Prop} {e e':Env} {w w':World}:∀ (s:SV) (v v':Value),Rel X e w s v->Rel X' e' w' s v'->Rel X' ⟨e'.β,e'.η,e.dom⟩ w' s v'
 | .junk,_,_,_,_=>trivial
 | .d _,_,_,_,h=>h
 | .nils,_,_,_,h=>h
 | .pd _,_,_,_,h=>h
 | .loc _ _,_,_,g,h=>⟨g.1,h.2⟩
 | .row _,_,_,g,h=>⟨g.1,h.2⟩
 | .mp _,_,_,g,h=>⟨g.1,h.2⟩
 | .md _ _,_,_,_,h=>h
 | .prow _ _ _ _,_,_,g,h=>⟨g.1,h.2⟩
 | .sl _ _ _ _,_,_,g,h=>⟨g.1,h.2⟩
 | .rsl _ _ _ _,_,_,g,h=>⟨g.1,h.2⟩
 | .rg _ _ _,_,_,_,h=>h
 | .fn _ caps,_,_,⟨us,_,g⟩,⟨vs,h1,h2⟩=>⟨vs,h1,RelL.dom caps us vs g h2⟩
 | .agg ss,_,_,⟨us,_,g⟩,⟨vs,h1,h2⟩=>⟨vs,h1,RelL.dom ss us vs g h2⟩
 | .tup ss,_,_,⟨us,_,g⟩,⟨vs,h1,h2⟩=>⟨vs,h1,RelL.dom ss us vs g h2⟩
 | .val _,_,_,_,h=>h
theorem RelL.dom {X X':Nat->Prop} {e e':Env} {w w':World}:∀ (ss:List SV) (us vs:List Value),RelL X e w ss us->RelL X' e' w' ss vs->RelL X' ⟨e'.β,e'.η,e.dom⟩ w' ss vs
 | [],_,[],_,_=>trivial
 | [],_,_::_,_,h=>h.elim
 | _::_,_,[],_,h=>h.elim
 | _::_,[],_::_,g,_=>g.elim
 | s::ss,u::us,v::vs,⟨g1,g2⟩,⟨h1,h2⟩=>⟨Rel.dom s u v g1 h1,RelL.dom ss us vs g2 h2⟩
end
mutual
theorem Rel.free {X:Nat->Prop} {e:Env} {w:World} {e':Env} {σ:Nat->Nat}:∀ (s:SV) (v:Value),s.low 0=true->Rel X e w (s.ren σ) v->Rel X e' w s v
 | .junk,_,_,_=>trivial
 | .d _,_,_,h=>h
 | .nils,_,_,h=>h
 | .pd _,_,_,h=>h
 | .loc _ _,_,hl,_=>absurd (Ac hl) (A6 _)
 | .row _,_,hl,_=>absurd (Ac hl) (A6 _)
 | .mp _,_,hl,_=>absurd (Ac hl) (A6 _)
 | .md _ _,_,_,h=>h
 | .prow _ _ _ _,_,hl,_=>absurd (Ac hl) (A6 _)
 | .sl _ _ _ _,_,hl,_=>absurd (Ac hl) (A6 _)
 | .rsl _ _ _ _,_,hl,_=>absurd (Ac hl) (A6 _)
 | .rg _ _ _,_,_,h=>h
 | .fn _ caps,_,hl,⟨vs,h1,h2⟩=>⟨vs,h1,RelL.free caps vs hl h2⟩
 | .agg ss,_,hl,⟨vs,h1,h2⟩=>⟨vs,h1,RelL.free ss vs hl h2⟩
 | .tup ss,_,hl,⟨vs,h1,h2⟩=>⟨vs,h1,RelL.free ss vs hl h2⟩
 | .val _,_,_,h=>h
theorem RelL.free {X:Nat->Prop} {e:Env} {w:World} {e':Env} {σ:Nat->Nat}:∀ (ss:List SV) (vs:List Value),SV.lowL 0 ss=true->RelL X e w (SV.renL σ ss) vs->RelL X e' w ss vs
 | [],[],_,_=>trivial
 | [],_::_,_,h=>h.elim
 | _::_,[],_,h=>h.elim
 | s::ss,v::vs,hl,⟨h1,h2⟩=>by
  simp only [SV.lowL,Ad] at hl
  exact⟨Rel.free s v hl.1 h1,RelL.free ss vs hl.2 h2⟩
end
theorem Models.back {k k':Nat->Prop} {L:Sl} {H:Hp} {e e':Env} {a:Act} {w w':World} (m:Models Γ k L H e a w) (m':Models Γ k' L H e' a w'):Models Γ k L H ⟨e'.β,e'.η,k⟩ a w':=by
 have hd:e.dom=k:=funext λi=>propext (m.top i)
 have hol:ae ⟨e'.β,e'.η,k⟩ H=ae e' H:=rfl;refine⟨⟨λ_=>Iff.rfl,λp hp=>⟨(m.top _).1 (m.heap p hp).1,?_⟩,m.ids,m'.nodup,m'.mine,m'.os,m'.tape,m'.output,m'.drawn,m'.size,m'.block,m'.obound,m'.tabs,m.jle,m'.anchor⟩,m'.defers,m.len,λt=>?_⟩
 ·have h1:=(m.heap p hp).2;have h2:=(m'.heap p hp).2;obtain⟨i,b⟩:=p;cases b with
  | blk ty cs =>
   obtain⟨us,_,g2,_⟩:=h1;obtain⟨vs,q1,q2,q3⟩:=h2;exact⟨vs,q1,hd▸RelL.dom cs us vs g2 q2,q3⟩
  | row ty es xs=>exact h2
  | map kd kvs=>exact h2
 ·exact hd▸Rel.dom _ _ _ (m.slot t) (m'.slot t)
theorem get_app {H H2:Hp}:∀ (A:Hp) (i:Nat),(∀ p∈A,Hp.get H2 p.1=some p.2)->(∀ j,j ∉ A.map (·.1)->Hp.get H j=Hp.get H2 j)->Hp.get (A++H) i=Hp.get H2 i
 | [],i,_,h=>h i (by simp)
 | (j,b)::A,i,h1,h2=>by
  rw [Cd,Hp.get_cons];split
  ·rename_i hj;subst hj;exact (h1 (j,b) (Ae ..)).symm
  ·rename_i hj;by_cases hi:i∈A.map (·.1)
   ·obtain⟨p,hp,rfl⟩:=List.mem_map.1 hi;have hg:∀ (A:Hp),p∈A->(∀ q∈A,Hp.get H2 q.1=some q.2)->Hp.get (A++H) p.1=Hp.get H2 p.1:=by
     intro A;induction A with
     | nil=>intro hp;simp at hp
     | cons q A ih =>
      intro hp hq;obtain⟨qi,qb⟩:=q;rw [Cd,Hp.get_cons];split
      ·rename_i he;subst he;exact (hq (_,qb) (Ae ..)).symm
      ·rename_i he;rcases List.mem_cons.1 hp with hp|hp
       ·rw [hp] at he;exact absurd rfl he
       ·exact ih hp λq hq'=>hq q (Ah _ hq')
    exact hg A hp λq hq=>h1 q (Ah _ hq)
   ·have hout:∀ (A:Hp),i ∉ A.map (·.1)->Hp.get (A++H) i=Hp.get H i:=by
     intro A;induction A with
     | nil=>intro _;rfl
     | cons q A ih =>
      intro hq;obtain⟨qi,qb⟩:=q;rw [Cd,Hp.get_cons,if_neg (λhe=>hq (by rw [A7];exact he▸Ae ..))];exact ih λh=>hq (Ah _ h)
    rw [hout A hi];exact h2 i (by rw [A7,Be];rintro (h|h);exact hj h.symm;exact hi h)
theorem get_rest {H:Hp} {ids:List Nat} {i:Nat} (h:i ∉ ids):Hp.get (ph H ids) i=Hp.get H i:=by
 unfold ph;induction H with
 | nil=>rfl
 | cons p H ih =>
  obtain⟨j,b⟩:=p;rw [List.filter_cons];split
  ·rw [Hp.get_cons,Hp.get_cons,ih]
  ·rename_i hj;rw [Hp.get_cons,if_neg,ih];rintro rfl;exact hj (n5 h)
theorem ofL_new (L:Sl) (H:Hp) (d:Nat) (v:SV) (z:Nat) (b:HB):ofL ((d,v)::L) ((z,b)::H)=(ofL L H).app z (some d) v (.new b):=by
 have h1:((ofL L H).put (some d) v).ℓ=(putL (some d) v L).get:=by rw [li];rfl
 have h2:Hp.get ((z,b)::H)=(Up.new b).app z (Hp.get H):=funext λt=>Hp.get_cons z b H t
 unfold FS.app;rw [h1];unfold ofL;rw [h2];rfl
theorem ofL_trade (L:Sl) (H:Hp) (d:Nat) (v:SV) (z j:Nat) (b:HB) (hnd:(H.map (·.1)).Nodup):ofL ((d,v)::L) ((z,b)::Hp.del H j)=(ofL L H).app z (some d) v (.trade j b):=by
 have h1:((ofL L H).put (some d) v).ℓ=(putL (some d) v L).get:=by rw [li];rfl
 have h2:Hp.get ((z,b)::Hp.del H j)=(Up.trade j b).app z (Hp.get H):=funext λt=>by
  rw [Hp.get_cons,Hp.get_del j H hnd];rfl
 unfold FS.app;rw [h1];unfold ofL;rw [h2];rfl
theorem ofL_set (L:Sl) (H:Hp) (d:Nat) (v:SV) (z j:Nat) (b b0:HB) (hb:Hp.get H j=some b0):ofL ((d,v)::L) (Hp.set H j b)=(ofL L H).app z (some d) v (.set j b):=by
 have h1:((ofL L H).put (some d) v).ℓ=(putL (some d) v L).get:=by rw [li];rfl
 have h2:Hp.get (Hp.set H j b)=(Up.set j b).app z (Hp.get H):=funext λt=>by
  rw [Hp.get_set j b H b0 hb t];rfl
 unfold FS.app;rw [h1];unfold ofL;rw [h2];rfl
theorem Mv.sound {k:Nat->Prop} {c:Bool} {S:SV->Up->Prop} {rd wr:List Nat} (h:Mv Γ ops κ s i o c S rd wr) {e:Env} {a:Act} {w:World} (hr:Rep Γ k s e a w) (hbd:∃ N,∀ x,k x->x<N) (hz:¬ k (κ+i)) (hi:ops[i]?=some o) (Q:Exit->Act->World->Prop) (K:Act->World->Prop)
  (hK:∀ v u a' w' e',S v u->Rep Γ (m5 k (κ+i)) (s.app (κ+i) o.dst v u) e' a' w'->K a' w'):wpOp Γ.P ops.toArray Q i K a w:=by
 obtain⟨L,H,m,rfl⟩:=hr;have hwanted:∀ b,io ops (ofL L H).ℓ o.guard=some b->Region.wanted o (yielded ops.toArray a.tmps)=b:=λb hb=>ie m ((j3 ops L o.guard)▸hb)
 unfold wpOp;have hi':ops.toArray[i]?=some o:=by simpa using hi
 rw [hi'];cases h with
 | skip hw hd =>
  simp only [hwanted _ hw];obtain⟨e',m'⟩:=(m.putO (v:=.tup []) (u:=undef) hd ⟨[],rfl,trivial⟩).widen (κ+i);exact hK _ _ _ _ e' ⟨rfl,rfl⟩ ⟨_,_,m',(li L H o.dst (.tup [])).symm▸by cases o.dst<;>rfl⟩
 | step p v0 u0 hw hs hp hu hok hd =>
  simp only [hwanted _ hw,if_true];rw [j6] at hs;have hss:=stepC_sound (k:=k) (ty:=o.type) (pos:=o.pos) (af:=o.after) (gd:=o.guard) hs hp hu hok hd hz;refine .inl (Oper.wp_mono ?_ (hss e a w Q m));rintro a' w' ⟨e',m'⟩;exact hK _ _ _ _ e' ⟨rfl,rfl⟩ ⟨_,_,m',appL_get m.ids hs⟩
 | bs0 d t te es hw ho hdst h1 h2 h3 h4 h5 h6 hd =>
  simp only [hwanted _ hw,if_true];obtain⟨dst,op,ty,pos,af,g⟩:=o;simp only at ho hdst;subst ho;subst hdst;refine .inl (Oper.wp_mono ?_ (op_bs0 (ty:=ty) (pos:=pos) (af:=af) (g:=g) hz h1 h2 h3 h4 h5 h6 hd e a w Q m));rintro a' w' ⟨e',m'⟩;exact hK _ _ _ _ e' ⟨rfl,rfl⟩ ⟨_,_,m',ofL_new L H d (.row (κ+i)) (κ+i) (.row te es [])⟩
 | call d f x caps xs ts R hw ho hdst hx hc hlow hok hd =>
  simp only [hwanted _ hw,if_true];rw [j6] at hx;have e1:xs.map (ofL L H).op=mz L xs:=by rw [j6,j5]
  rw [e1] at hc hlow;have hok':de x=true/\dy xs=true:=by
   unfold bt at hok;rw [ho] at hok;simp only [Op.operands,Call.operands,C9,C6,Ad] at hok;exact⟨by simpa using hok.1,n3 _ (by simpa using hok.2)⟩
  refine .inl ?_;have hrx:=m.op x (b7 hok'.1);rw [hx] at hrx;obtain⟨us,hu,hru⟩:=hrx;obtain⟨dst,op,ty,pos,af,gd⟩:=o;simp only at ho hdst;subst ho;subst hdst;unfold Oper.wp;rw [sd hc.1 a x us hu,Oper.upon_enter];refine (hc.use (τ:=Γ.τ) (τok:=Γ.τok) (Γ:=Γ) m hlow _ (RelL.append _ _ _ _ (e7 m xs hok'.2) hru)).mono ?_;rintro en w' ⟨r,v,hR,rfl,hb,hlr,hrel⟩;obtain⟨e',m'⟩:=((m.below hb).put (Ac hd) (Rel.keep (Af _) (λ_ _ _=>rfl) (λ_ _ hy=>hy) _ _ hrel)).widen (κ+i);exact hK r .no _ _ e' ⟨hR,rfl⟩ ⟨_,_,m',(li L H (some d) r).symm⟩
 | callW d f x caps xs ts te es R hw ho hdst hx hc hlow hok hd =>
  simp only [hwanted _ hw,if_true];rw [j6] at hx;have e1:xs.map (ofL L H).op=mz L xs:=by rw [j6,j5]
  rw [e1] at hc hlow;have hok':de x=true/\dy xs=true:=by
   unfold bt at hok;rw [ho] at hok;simp only [Op.operands,Call.operands,C9,C6,Ad] at hok;exact⟨by simpa using hok.1,n3 _ (by simpa using hok.2)⟩
  refine .inl ?_;have hrx:=m.op x (b7 hok'.1);rw [hx] at hrx;obtain⟨us,hu,hru⟩:=hrx;obtain⟨dst,op,ty,pos,af,gd⟩:=o;simp only at ho hdst;subst ho;subst hdst;unfold Oper.wp;rw [sd hc.1 a x us hu,Oper.upon_enter];refine (hc.use (τ:=Γ.τ) (τok:=Γ.τok) (Γ:=Γ) m hlow _ (RelL.append _ _ _ _ (e7 m xs hok'.2) hru) (κ+i)).mono ?_;rintro en w' ⟨ys,v,hR,rfl,hb,hone,hfresh,hrow⟩;have hze:¬ e.dom (κ+i):=λh=>hz ((m.top _).1 h)
  have hη:(e.bindRow (κ+i) v).η (κ+i)=v:=if_pos rfl;have hext:=e.bindRow_ext (κ+i) v hze;have hol:ae (e.bindRow (κ+i) v) H=ae e H:=l7 hext H λp hp=>(m.heap p hp).1
  have m2:=m.new hz (hb:=.row te es ys) (e':=e.bindRow (κ+i) v) (w':=w') (λi=>or_congr (m.top i) Iff.rfl) hext hb
   (λb ho=>hfresh b (by rw [<- hη];exact ho)) (λ_=>hrow _ _ hη λb hx=>by
    rcases hx with hx|hx
    ·exact .inl (.inl hx)
    ·unfold ae at hx;rw [Bf] at hx;split at hx
     ·exact .inl (.inr (hol▸hx))
     ·rename_i c hc;rcases List.mem_cons.1 hx with rfl|hx
      ·exact .inr (by rw [<- hη];exact hc)
      ·exact .inl (.inr (hol▸hx)))
  exact hK _ _ _ _ _ ⟨ys,hR,rfl,rfl⟩ ⟨_,_,m2.put (s:=.row (κ+i)) (v:=v) (Ac hd) ⟨.inr rfl,hη.symm,hone⟩,ofL_new L H d (.row (κ+i)) (κ+i) (.row te es ys)⟩
 | callT d f xs ts j args te0 te es0 es ds R hw ho hdst hc hargs hlow hH hok hd hdr =>
  simp only [hwanted _ hw,if_true];have e1:xs.map (ofL L H).op=mz L xs:=by rw [j6,j5]
  rw [e1] at hargs;have hok':dy xs=true:=by
   unfold bt at hok;rw [ho] at hok;simp only [Op.operands,Call.operands,C9,C6,Ad] at hok;exact n3 _ (by simpa using hok.2)
  refine .inl ?_;obtain⟨dst,op,ty,pos,af,gd⟩:=o;simp only at ho hdst;subst ho;subst hdst;have hH':Hp.get H j=some (.row te0 es0 ds):=hH;unfold Oper.wp;rw [jc hc.1,Oper.upon_enter];refine (hc.use m hH' hlow _ (hargs▸e7 m xs hok') (κ+i)).mono ?_;rintro en w' ⟨ys,v,hR,rfl,h1,h2,h3,h4,_,hone,hblk,hfresh,hrow⟩;have hze:¬ e.dom (κ+i):=λh=>hz ((m.top _).1 h)
  have hη:(e.bindRow (κ+i) v).η (κ+i)=v:=if_pos rfl;have hext:=e.bindRow_ext (κ+i) v hze;have hdm:=Hp.del_mem (i:=j) H m.ids;have hol:ae (e.bindRow (κ+i) v) (Hp.del H j)=ae e (Hp.del H j):=l7 hext _ λp hp=>(m.heap p (hdm p hp).1).1
  have m2:=m.trade (hb:=.row te es ys) hH' hz (e':=e.bindRow (κ+i) v) (w':=w') (λi=>or_congr (m.top i) Iff.rfl) hext h1 h2 h3 h4 (λhd=>by rw [hdr] at hd;cases hd) hblk
   (λc hc'=>hfresh c (by rw [<- hη];exact hc')) (λ_=>hrow _ _ hη λb hx=>by
    rcases hx with hx|hx
    ·exact .inl (.inl hx)
    ·unfold ae at hx;rw [Bf] at hx;split at hx
     ·exact .inl (.inr (hol▸hx))
     ·rename_i c hc';rcases List.mem_cons.1 hx with rfl|hx
      ·exact .inr (by rw [<- hη];exact hc')
      ·exact .inl (.inr (hol▸hx)))
  exact hK _ _ _ _ _ ⟨ys,hR,rfl,rfl⟩ ⟨_,_,m2.put (s:=.row (κ+i)) (v:=v) (Ac hd) ⟨.inr rfl,hη.symm,hone⟩,ofL_trade L H d (.row (κ+i)) (κ+i) j (.row te es ys) m.ids⟩
 | look d j v0 hw hci hdst hE hd =>
  simp only [hwanted _ hw,if_true];obtain⟨v,h1,h2⟩:=hE k L H (λx _=>by rw [j6]) rfl e a w m;obtain⟨dst,op,ty',pos,af,gd⟩:=o;simp only at hdst;subst hdst;refine .inl ?_;unfold Oper.wp;rw [h1 (some d) pos af gd w (Below.refl _ _)];obtain⟨e',m'⟩:=(m.put (Ac hd) h2).widen (κ+i);exact hK v0 .no _ _ e' ⟨rfl,rfl⟩ ⟨_,_,m',(li L H (some d) v0).symm⟩
 | callB d f xs ts j args ty cs R hw ho hdst hc hargs hlow hH hcs hok hd =>
  simp only [hwanted _ hw,if_true];have e1:xs.map (ofL L H).op=mz L xs:=by rw [j6,j5]
  rw [e1] at hargs;have hok':dy xs=true:=by
   unfold bt at hok;rw [ho] at hok;simp only [Op.operands,Call.operands,C9,C6,Ad] at hok;exact n3 _ (by simpa using hok.2)
  refine .inl ?_;obtain⟨dst,op,ty',pos,af,gd⟩:=o;simp only at ho hdst;subst ho;subst hdst;have hH':Hp.get H j=some (.blk ty cs):=hH;unfold Oper.wp;rw [jc hc.1,Oper.upon_enter];refine (hc.use m hH' hcs hlow _ (hargs▸e7 m xs hok')).mono ?_;rintro en w' ⟨r,cs',v,hR,rfl,h1,h2,h3,h4,h5,hblk,hrel,hv⟩;have m2:=m.turn (b':=.blk ty cs') hH' h1 h2 h3 h4 h5 hblk rfl hrel;have hX:Γ.X e (Hp.set H j (.blk ty cs'))=Γ.X e H:=by unfold Ctx.X;rw [Hp.set_owned (b:=.blk ty cs) (b':=.blk ty cs') rfl H hH']
  obtain⟨e',m'⟩:=(m2.put (Ac hd) (Rel.keep (Af _) (λ_ _ _=>rfl) (λb _ hy=>by rw [hX] at hy;exact hy) _ _ hv)).widen (κ+i);exact hK r (.set j (.blk ty cs')) _ _ e' ⟨cs',hR,rfl⟩ ⟨_,_,m',ofL_set L H d r (κ+i) j (.blk ty cs') _ hH'⟩
 | callR d f x caps xs ts ρ args J Hc R hw ho hdst hx hc hargs hlA hKF hlow hdis hdis' hall hbel hR hrows hok hd =>
  simp only [hwanted _ hw,if_true];rw [j6] at hx;have e1:xs.map (ofL L H).op=mz L xs:=by rw [j6,j5]
  rw [e1] at hargs;have hok':de x=true/\dy xs=true:=by
   unfold bt at hok;rw [ho] at hok;simp only [Op.operands,Call.operands,C9,C6,Ad] at hok;exact⟨by simpa using hok.1,n3 _ (by simpa using hok.2)⟩
  refine .inl ?_;have hrx:=m.op x (b7 hok'.1);rw [hx] at hrx;obtain⟨us,hu,hru⟩:=hrx;obtain⟨dst,op,ty,pos,af,gd⟩:=o;simp only at ho hdst;subst ho;subst hdst;unfold Oper.wp;rw [sd hc.1 a x us hu,Oper.upon_enter];obtain⟨N,hN⟩:=hbd;obtain⟨e1',m1⟩:=m.widenTo (k':=lo N) hN;have hKH:KnowsH ρ H Hc:=(knowsF_is ρ H Hc).1 hKF;have hrx':=m1.op x (b7 hok'.1);rw [hx] at hrx';obtain⟨us',hu',hru'⟩:=hrx';have hus:us'=us:=by
   rw [hu] at hu';simpa using hu'.symm
  subst hus;refine (hc.use ρ m1 hlA hKH hlow hdis hdis' (by simp) hall _ (hargs▸RelL.append _ _ _ _ (e7 m1 xs hok'.2) hru') (λk2 r H2 hh=>⟨(hR r hh.1).2,hh.2▸hrows⟩)).mono ?_;rintro en w' ⟨k2,r,H2,v,e'',⟨hRr,hH2⟩,rfl,hm,hrel⟩;rw [hH2] at hm hrel;have hsig:∀ i,i<J->sig ρ J N i=ρ i:=λi hi=>tq hi
  have hlo:=Hp.low_spec Hc hlow;have hmem:=KnowsH.mem Hc hKH;have hgetH:∀ p∈Hc,Hp.get H (ρ p.1)=some (p.2.ren ρ):=λp hp=>Hp.mem_get H m.ids _ (hmem p hp)
  have hmap:(Hc.map λp=>(sig ρ J N p.1,p.2.ren (sig ρ J N)))=Hc.map λp=>(ρ p.1,p.2.ren ρ) :=
   List.map_congr_left λp hp=>by rw [hsig _ (allBelow_spec hbel p hp),HB.ren_eq hsig p.2 (hlo p hp).2]
  rw [hmap] at hm hrel;have hsame:∀ i,Hp.get ((Hc.map λp=>(ρ p.1,p.2.ren ρ))++ph H (Hc.map λp=>ρ p.1)) i=Hp.get H i:=λi =>
   get_app _ i (λp hp=>by
    obtain⟨q,hq,rfl⟩:=List.mem_map.1 hp;exact hgetH q hq) λj hj=>get_rest (by simpa [List.map_map,Function.comp_def] using hj)
  have m2:=hm.same (L':=L) (H':=H) (λ_=>rfl) hsame m.ids;have m3:=m.back m2;have hlr:=(hR r hRr).1;have hrel2:Rel (Γ.X ⟨e''.β,e''.η,k⟩ H) ⟨e''.β,e''.η,k⟩ w' r v:=by
   refine Rel.keep (Af _) (λ_ _ _=>rfl) (λb _ hy=>?_) _ _ (Rel.free r v hlr hrel);refine hy.imp id λhb=>?_
   have hb':b∈ae e'' H:=hb;obtain⟨p,hp,ho⟩:=List.mem_filterMap.1 hb';have hg:=Hp.mem_get H m.ids p hp;rw [<- hsame] at hg;exact List.mem_filterMap.2 ⟨p,Hp.get_mem _ p.1 p.2 hg,ho⟩
  obtain⟨e',m'⟩:=(m3.put (Ac hd) hrel2).widen (κ+i);exact hK r .no _ _ e' ⟨hRr,rfl⟩ ⟨_,_,m',(li L H (some d) r).symm⟩
end
end
section
open Go Go.RowKit
variable [Bnds]
def bu:Nat->List Oper->List (Nat×Oper)
 | _,[]=>[]
 | i,o::l=>(i,o)::bu (i+1) l
theorem cd:∀ (l:List Oper) (b:Nat) (q:Nat×Oper),q∈bu b l↔b<=q.1/\l[q.1-b]?=some q.2
 | [],b,q=>by simp [bu]
 | o::l,b,q=>by
  simp only [bu,Be,cd l (b+1) q]
  constructor
  ·rintro (rfl|⟨h1,h2⟩)
   ·exact⟨Af _,by simp⟩
   ·refine⟨by omega,?_⟩
    rw [show q.1-b=(q.1-(b+1))+1 by omega]
    simpa using h2
  ·rintro⟨h1,h2⟩
   by_cases h:q.1=b
   ·left
    rw [h,Nat.sub_self] at h2
    simp at h2
    exact Prod.ext h h2.symm
   ·right
    refine⟨by omega,?_⟩
    rw [show q.1-b=(q.1-(b+1))+1 by omega] at h2
    simpa using h2
theorem np:∀ (l:List Oper) (b:Nat),(bu b l).Pairwise (λp q=>p.1<q.1)
 | [],_=>.nil
 | o::l,b=>by
  refine List.pairwise_cons.2 ⟨λq hq=>?_,np l (b+1)⟩
  have:=((cd l (b+1) q).1 hq).1
  show b<q.1
  omega
def qm (l:List Oper):Bool:=(bu 0 l).all λq=>q.2.after.toList.all λe=>!Region.binds .any e || Nat.blt e.on q.1
def wz (l:List Oper):Bool:=(bu 0 l).all λq=>(bu 0 l).all λr=>B6 q.1 r.1 || (mt l q.1 r.1 || apartO l r.2 q.2)
def w9 (l:List Oper):Nat->Nat->Nat->Bool
 | 0,_,_=>false
 | n+1,i,j=>match mi l i with
  | none=>false
  | some o=>o.after.toList.any λe=>Region.binds .any e && (Nat.beq e.on j || (Nat.blt j e.on && w9 l n e.on j))
def regCallB (l:List Oper):Bool:=(bu 0 l).all λq=>!isCall q.2 || (bu 0 l).all λr=>B6 q.1 r.1 || (!isCall r.2 || w9 l l.length q.1 r.1)
def jx (l:List Oper):Bool:=qm l && (wz l && regCallB l)
theorem edgeB_spec {l:List Oper} {i j:Nat}:mt l i j=true↔∃ o,l[i]?=some o/\∃ e∈o.after,Region.binds .any e=true/\e.on=j:=by
 unfold mt;rw [xf];cases h:l[i]? with
 | none=>simp
 | some o =>
  simp only [Hg,Ad,Gl,Option.some.injEq,exists_eq_left'];constructor
  ·rintro⟨e,h1,h2,h3⟩;exact⟨e,h1,h2,Aj h3⟩
  ·rintro⟨e,h1,h2,h3⟩;exact⟨e,h1,h2,by rw [h3];exact Nat.beq_refl j⟩
section
variable {Γ : Ctx} {l : List Oper} {κ : Nat}
structure Going (l:List Oper) (listed:Array Bool) (rem:List (Nat×Oper)):Prop where
 size:listed.size=l.length
 closed:∀ j o,l[j]?=some o->listed.getD j false=true->∀ e∈o.after,Region.binds .any e=true->listed.getD e.on false=true
 left:∀ q,q∈rem↔l[q.1]?=some q.2/\listed.getD q.1 true=false
 sorted:rem.Pairwise (λp q=>p.1<q.1)
theorem rk {listed:Array Bool} {i q:Nat} {o:Oper} (hio:l[i]?=some o) (hall:∀ e∈o.after,Region.binds .any e=true->listed.getD e.on false=true)
  (hcl:∀ j oj,l[j]?=some oj->listed.getD j false=true->∀ e∈oj.after,Region.binds .any e=true->listed.getD e.on false=true) (hq:listed.getD q false=false):qo l i q=false:=by
 have one:∀ (x:Nat) (ox:Oper),l[x]?=some ox->(∀ e∈ox.after,Region.binds .any e=true->listed.getD e.on false=true)->mt l x q=false:=by
  intro x ox hx hl;cases he:mt l x q with
  | false=>rfl
  | true =>
   obtain⟨o',ho',e',he',hb',hon⟩:=edgeB_spec.1 he;rw [hx] at ho';cases ho';have:=hl e' he' hb'
   rw [hon,hq] at this;cases this
 unfold qo;rw [one i o hio hall,xf,hio,Cb];simp only;rw [List.any_eq_false];intro e he;rw [Ad];rintro⟨hb,hed⟩;have hle:=hall e (by simpa using he) hb;obtain⟨ox,hox,_⟩:=edgeB_spec.1 hed;rw [one e.on ox hox (hcl e.on ox hox hle)] at hed;cases hed
theorem ua {i q:Nat} (h:qo l i q=false):mt l i q=false:=by
 unfold qo at h;rw [Bool.or_eq_false_iff] at h;exact h.1
theorem eb {listed:Array Bool} {j:Nat} (hj:j<listed.size):listed.getD j true=listed.getD j false:=by simp [hj]
theorem bf {o:Oper} {j:Nat} (h:l[j]?=some o):j<l.length:=(List.getElem?_eq_some_iff.1 h).1
theorem Going.rest {listed:Array Bool} {rem pre post:List (Nat×Oper)} {i:Nat} {o:Oper} (g:Going l listed rem) (hr:i∈Region.ready .any l.toArray listed) (he:rem=pre++(i,o)::post) (hi:l[i]?=some o):Going l (listed.setIfInBounds i true) (pre++post) where
 size:=by simp [g.size]
 closed j oj hj hl e he' hb:=by
  have key:∀ x,listed.getD x false=true->(listed.setIfInBounds i true).getD x false=true:=by
   intro x hx;by_cases hix:i=x
   ·subst hix;have:i<listed.size:=by rw [g.size];exact bf hi
    simp [this]
   ·rw [getD_set_ne false hix];exact hx
  by_cases hij:i=j
  ·subst hij;obtain⟨_,o',ho',hall⟩:=mem_ready.1 hr;have ho2:l[i]?=some o':=by simpa using ho'
   rw [hj] at ho2;cases ho2;exact key _ (hall e he' hb)
  ·rw [getD_set_ne false hij] at hl;exact key _ (g.closed j oj hj hl e he' hb)
 left q:=by
  have hs:=g.sorted;rw [he] at hs;have hne:∀ q∈pre++post,q.1≠i:=by
   intro q hq hqi;rw [Ec] at hs;obtain⟨_,h2,h3⟩:=hs;rcases List.mem_append.1 hq with h|h
   ·have:=h3 q h (i,o) (Ae ..);simp at this;omega
   ·have:=(List.pairwise_cons.1 h2).1 q h;simp at this;omega
  constructor
  ·intro hq;have h1:q∈rem:=by rw [he];rcases List.mem_append.1 hq with h|h<;>simp [h]
   obtain⟨a,b⟩:=(g.left q).1 h1;exact⟨a,by rw [getD_set_ne true (Ne.symm (hne q hq))];exact b⟩
  ·rintro⟨a,b⟩;have hqi:i≠q.1:=by
    intro h;have:i<listed.size:=by rw [g.size];exact bf hi
    rw [<- h] at b;simp [this] at b
   rw [getD_set_ne true hqi] at b;have h1:=(g.left q).2 ⟨a,b⟩;rw [he] at h1;simp only [List.mem_append,Be] at h1 ⊢;rcases h1 with h|h|h
   ·exact .inl h
   ·exact absurd (by rw [h]) hqi
   ·exact .inr h
 sorted:=by
  have hs:=g.sorted;rw [he] at hs;exact hs.sublist (List.Sublist.append (List.Sublist.refl _) (List.sublist_cons_self _ _))
theorem l6 {listed:Array Bool} {rem:List (Nat×Oper)} (g:Going l listed rem) {j:Nat}:∀ (n i:Nat) (oi:Oper),w9 l n i j=true->l[i]?=some oi ->
  (∀ e∈oi.after,Region.binds .any e=true->listed.getD e.on false=true)->listed.getD j false=true
 | 0,_,_,h,_,_=>by cases h
 | n+1,i,oi,h,hi,hall=>by
  unfold w9 at h;rw [xf,hi] at h;simp only [Hg,Ad,Du,Gl] at h;obtain⟨e,hea,heb,he⟩:=h;have hl:=hall e hea heb;rcases he with he|⟨_,he⟩
  ·rw [<- Aj he];exact hl
  ·cases ho:l[e.on]? with
   | none =>
    have h1:¬ e.on<listed.size:=by rw [g.size];intro h;rw [List.getElem?_eq_getElem h] at ho;cases ho
    rw [Array.getD_eq_getD_getElem?,Array.getElem?_eq_none (by omega)] at hl;cases hl
   | some o'=>exact l6 g n e.on o' he ho (g.closed e.on o' ho hl)
theorem u5 {listed:Array Bool} {rem:List (Nat×Oper)} (g:Going l listed rem) (hc:regCallB l=true) {j:Nat} {oj:Oper} (hj:l[j]?=some oj) (hcj:isCall oj=true)
  (i:Nat) (oi:Oper) (hi:l[i]?=some oi) (hci:isCall oi=true) (hji:j<i) (hall:∀ e∈oi.after,Region.binds .any e=true->listed.getD e.on false=true):listed.getD j false=true:=by
 unfold regCallB at hc;rw [Bg] at hc;have h1:=hc (i,oi) ((cd l 0 (i,oi)).2 ⟨Ai _,by simpa using hi⟩);simp only [hci,Ew,Cb,Bg] at h1;have h2:=h1 (j,oj) ((cd l 0 (j,oj)).2 ⟨Ai _,by simpa using hj⟩);have hnb:B6 i j=false:=by
  cases hb:B6 i j with
  | false=>rfl
  | true=>have:=Ac hb;omega
 simp only [hnb,Cb,hcj,Ew] at h2;exact l6 g l.length i oi h2 hi hall
theorem any_sim (hB:jx l=true) {K:FS->Prop} {Q:Exit->Act->World->Prop} (hQ:∀ s e a w,K s->Rep Γ (lo (κ+l.length)) s e a w->Q .normal a w) :
  ∀ (fuel:Nat) (listed:Array Bool) (a:Act) (w:World) (s:FS) (e:Env) (D:Nat->Prop) (rem:List (Nat×Oper)) (lg:Log),Going l listed rem->rem.length=fuel->Rep Γ D s e a w ->
   (∀ x,D x->x<κ+l.length/\∀ j,x=κ+j->listed.getD j false=true)->DR Γ l κ rem lg K s->wpAny Γ.P .any l.toArray Q fuel listed a w:=by
 simp only [jx,Ad] at hB;obtain⟨hdown,hpair,hcall⟩:=hB;have down:∀ j o,l[j]?=some o->∀ e∈o.after,Region.binds .any e=true->e.on<j:=by
  intro j o hj e he hb;unfold qm at hdown;rw [Bg] at hdown;have h1:=hdown (j,o) ((cd l 0 (j,o)).2 ⟨Ai _,by simpa using hj⟩);rw [Bg] at h1;have h2:=h1 e (by simpa using he);simp only [hb,Ew,Cb] at h2;exact Ac h2
 intro fuel;induction fuel with
 | zero =>
  intro listed a w s e D rem lg g hlen hr hD hd;have hrem:rem=[]:=List.eq_nil_of_length_eq_zero hlen;subst hrem;refine⟨?_,?_⟩
  ·apply List.eq_nil_iff_forall_not_mem.2;intro j hj;obtain⟨h1,o,ho,_⟩:=mem_ready.1 hj;have:=(g.left (j,o)).2 ⟨by simpa using ho,h1⟩
   simp at this
  ·cases hd with
   | nil hk =>
    obtain⟨L,H,m,hs⟩:=hr;obtain⟨e',m'⟩:=m.widenTo (k':=lo (κ+l.length)) λx hx=>(hD x hx).1
    exact hQ s e' a w hk ⟨L,H,m',hs⟩
 | succ fuel ih =>
  intro listed a w s e D rem lg g hlen hr hD hd;refine⟨λh0=>?_,λi hi=>?_⟩
  ·exfalso;cases rem with
   | nil=>simp at hlen
   | cons q rem' =>
    obtain⟨h1,h2⟩:=(g.left q).1 (Ae ..);have:q.1∈Region.ready .any l.toArray listed:=by
     refine mem_ready.2 ⟨h2,q.2,by simpa using h1,λe' he hb=>?_⟩;have hlt:=down q.1 q.2 h1 e' he hb;have hln:e'.on<listed.size:=by rw [g.size];have:=bf h1;omega
     cases hx:listed.getD e'.on false with
     | true=>rfl
     | false =>
      exfalso;have hx':listed.getD e'.on true=false:=(eb hln).trans hx;have hlen':e'.on<l.length:=by rw [<- g.size];exact hln
      have hm:=(g.left (e'.on,l[e'.on])).2 ⟨by simp [hlen'],hx'⟩;rcases List.mem_cons.1 hm with h|h
      ·have:e'.on=q.1:=by rw [<- h]
       omega
      ·have:=(List.pairwise_cons.1 g.sorted).1 _ h
       simp at this;omega
    rw [h0] at this;simp at this
  ·obtain⟨h1,o,ho,hall⟩:=mem_ready.1 hi;have hio:l[i]?=some o:=by simpa using ho
   obtain⟨pre,post,hre⟩:=List.append_of_mem ((g.left (i,o)).2 ⟨hio,h1⟩);have g':=g.rest hi hre hio;have hpull:DR Γ l κ ((i,o)::(pre++post)) lg K s:=by
    refine DR.pull pre lg s (λq hq=>?_) (hre▸hd);have hqr:q∈rem:=by rw [hre];exact List.mem_append_left _ hq
    obtain⟨hq1,hq2⟩:=(g.left q).1 hqr;have hqi:q.1<i:=by
     have hs:=g.sorted;rw [hre,Ec] at hs;have:=hs.2.2 q hq (i,o) (Ae ..)
     simpa using this
    have hqs:q.1<listed.size:=by rw [g.size];exact bf hq1
    have hq2':listed.getD q.1 false=false:=(eb hqs).symm.trans hq2;have e0:qo l i q.1=false:=rk hio hall g.closed hq2';have e1:=ua e0;have e2:mt l q.1 i=false:=by
     cases hx:mt l q.1 i with
     | false=>rfl
     | true =>
      obtain⟨o',ho',e',he',hb',hon⟩:=edgeB_spec.1 hx;have:=down q.1 o' ho' e' he' hb'
      omega
    refine⟨e0,e2,?_,λhcq=>?_⟩
    ·unfold wz at hpair;rw [Bg] at hpair;have p1:=hpair (i,o) ((cd l 0 (i,o)).2 ⟨Ai _,by simpa using hio⟩);rw [Bg] at p1;have p2:=p1 q ((cd l 0 q).2 ⟨Ai _,by simpa using hq1⟩);have hnb:B6 i q.1=false:=by
      cases hb:B6 i q.1 with
      | false=>rfl
      | true=>have:=Ac hb;omega
     simp only [hnb,Cb,e1] at p2;exact p2
    ·cases hci:isCall o with
     | false=>rfl
     | true =>
      have:=u5 g hcall hq1 hcq i o hio hci hqi hall
      rw [hq2'] at this;cases this
   cases hpull with
   | cons c S rd wr hm hl hne hn hk =>
    have hz:¬ D (κ+i):=by
     intro hx;have:=(hD _ hx).2 i rfl
     have hin:i<listed.size:=by rw [g.size];exact bf hio
     rw [<- eb hin,h1] at this;cases this
    refine Mv.sound hm hr ⟨κ+l.length,λx hx=>(hD x hx).1⟩ hz hio Q _ λv u a' w' e' hv hr'=>?_
    refine ih (listed.setIfInBounds i true) a' w' _ e' _ (pre++post) _ g' ?_ hr' (λx hx=>?_) (hk v u hv)
    ·rw [hre] at hlen;simp only [List.length_append,List.length_cons] at hlen ⊢;omega
    ·have hin:i<listed.size:=by rw [g.size];exact bf hio
     rcases hx with hx|hx
     ·refine⟨(hD x hx).1,λj hj=>?_⟩
      have:=(hD x hx).2 j hj
      by_cases hij:i=j
      ·subst hij;simp [hin]
      ·rw [getD_set_ne false hij];exact this
     ·subst hx;refine⟨by have:=bf hio;omega,λj hj=>?_⟩
      have:i=j:=by omega
      subst this;simp [hin]
def xz (Γ:Ctx) (m:Nat) (Q:ca):FS->Prop:=λs=>∀ e a w,Rep Γ (lo m) s e a w->∃ (k':Nat) (L':Sl) (H':Hp) (e':Env),Models Γ k' L' H' e' a w/\Q k' L' H'
theorem dw_region_any {id k:Nat} {L:Sl} {H:Hp} {Q:d6} (hm:Γ.P.follows .mixedOrders=true) (hB:jx l=true) (hnd:dd l=true) (h:DR Γ l k (bu 0 l) [] (xz Γ (k+l.length) (Q .normal)) (ofL L H)):DW Γ (.region id l.toArray true) Q k L H:=by
 intro e a w m;refine wpIn_mono (wpIn_region_any hm (wpAny_in (jg (Γ:=Γ) (K:=Q .normal)) hnd _ _ _ _ ?_)) (p7 (λex k' L' H' (⟨h1,h2⟩:fx (Q .normal) ex k' L' H')=>h1▸h2));have m0:=m.below (w':={ w with drawn:=w.drawn+1 }) ((Beld.refl _ _ _).drew);have hg:Going l (Array.replicate l.length false) (bu 0 l):=by
  refine⟨by simp,λj o hj hl=>?_,λq=>?_,np l 0⟩
  ·have hlt:=bf hj;simp [hlt] at hl
  ·rw [cd l 0 q];simp only [Ai,Nat.sub_zero,true_and];constructor
   ·intro hq;exact⟨hq,by have:=bf hq;simp [this]⟩
   ·exact λh=>h.1
 have hlen:(bu 0 l).length=l.toArray.size:=by
  have:∀ (l:List Oper) b,(bu b l).length=l.length:=by
   intro l;induction l with
   | nil=>intro b;rfl
   | cons o l ih=>intro b;simp [bu,ih]
  simp [this]
 refine any_sim hB (K:=xz Γ (k+l.length) (Q .normal)) (Q:=lift Γ (fx (Q .normal))) (λs e a w hk hr=>?_) _ _ a _ (ofL L H) e (lo k) (bu 0 l) [] (by simpa using hg) hlen ⟨L,H,m0,rfl⟩ (λx hx=>⟨Nat.lt_of_lt_of_le hx (Nat.le_add_right _ _),λj hj=>?_⟩) h
 ·obtain⟨k',L',H',e',m',hq⟩:=hk e a w hr;exact .inl ⟨k',L',H',e',m',rfl,hq⟩
 ·have:x<k:=hx
  omega
end
end
end Go.Proofs.YtapciiffpnociadGreat
