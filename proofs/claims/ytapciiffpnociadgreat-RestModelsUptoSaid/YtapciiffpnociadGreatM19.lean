/- Several texts in one: StrM MoR StrC StrD StrE GxNewC. Condition: none. -/
import Derived.Test.YtapciiffpnociadGreatM18
import Derived.Test.YtapciiffpnociadGreatM17
import Derived.Test.YtapciiffpnociadGreatM10
import Derived.Test.YtapciiffpnociadGreatM13
import Derived.Test.YtapciiffpnociadGreatM11
import Derived.Test.YtapciiffpnociadGreatM07
set_option linter.all false
set_option maxHeartbeats 8000000
open Classical renaming byContradiction→A1
open List renaming append_assoc→Bt,drop_eq_getElem_cons→Ao,drop_of_length_le→Ax,drop_take→Ht,drop_zero→D5,eq_of_mem_replicate→Fp,filter_append→C3,filter_cons_of_pos→Fv,flatMap_cons→G7,foldl_cons→A2,getElem?_eq_getElem→Ab,getElem_mem→Ag,length_append→Ap,length_cons→Bn,length_map→Aa,length_singleton→Bh,map_append→Av,map_replicate→C2,mem_append_left→A0,mem_cons_of_mem→Ah,mem_cons_self→Ae,replicate→An,take_append_of_le_length→Cc,take_of_length_le→Ak,take_succ_eq_append_getElem→Am
open Nat renaming le_refl→Af,lt_succ_self→Hi,mul_one→Dq,zero_le→Ai
namespace Go.Proofs.YtapciiffpnociadGreat
section
variable [Bnds]
theorem sx {α:Type} {f:α->Int}:∀ {l:List α},b8 f l=0->∀ x∈l,f x=0
 | [],_,_,h=>nomatch h
 | y::l,h,x,hx=>by
  unfold b8 at h
  split at h
  ·rename_i h1;exact absurd h h1
  ·rename_i h1
   rcases List.mem_cons.1 hx with rfl|hx
   ·exact A1 λh2=>h1 h2
   ·exact sx h x hx
theorem un {n a b:Int} (h:¬ inR n a b=false):a<=n/\n<=b:=by
 unfold inR at h;simp at h;exact h
structure LtlOk (n vars:Int) (l:Ltl):Prop where
 kind:1<=l.kind/\l.kind<=4
 pred:c7 l=true->0<=l.pred/\l.pred<n
structure RulOk (n:Nat) (r:Rul):Prop where
 pred:0<=r.pred/\r.pred<n
 vars:0<=r.vars/\r.vars<=8
 fold:0<=r.fold/\r.fold<=4
 body:r.body.length<=4
 lits:∀ l∈r.body,LtlOk n r.vars l
structure PrgOk (p:Prg):Prop where
 preds:p.arity.length<=10
 rules:p.rules.length<=12
 names:p.names.length=p.arity.length
 each:∀ r∈p.rules,RulOk p.arity.length r
theorem litE_okM {arity:List Int} {vars:Int} {l:Ltl} (h:j7 arity vars l=0):LtlOk arity.length vars l:=by
 unfold j7 at h;split at h;· cases h
 rename_i h1;split at h;· cases h
 refine⟨un h1,λhh=>?_⟩
 have hk:l.kind=1∨l.kind=2:=by
  unfold c7 at hh;simpa using hh
 rw [if_pos hk] at h;split at h;· cases h
 rename_i h3;have:=un h3
 omega
theorem ruleE_ok {arity:List Int} {r:Rul} (h:mg arity r=0):RulOk arity.length r:=by
 unfold mg at h;split at h;· cases h
 rename_i h1;split at h;· cases h
 split at h;· cases h
 rename_i h3;split at h;· rename_i h4;exact absurd h h4
 split at h;· cases h
 rename_i h5;split at h;· cases h
 split at h;· cases h
 rename_i h7;split at h;· rename_i h8;exact absurd h h8
 rename_i h8;have:=un h1
 exact⟨by omega,un h3,un h5,by omega,λl hl=>litE_okM (sx (A1 λhn=>h8 hn) l hl)⟩
theorem o5 {nameB:ByteArray->Bool} {p:Prg} (h:dw nameB p=0):PrgOk p:=by
 unfold dw at h;split at h;· cases h
 rename_i h1;split at h;· cases h
 rename_i h2;split at h;· rename_i h3;exact absurd h h3
 exact⟨by omega,by omega,by omega,λr hr=>ruleE_ok (sx h r hr)⟩
def edgR (r:Rul):List Edg:=(r.body.filter c7).map λx=>⟨r.pred.toNat,x.pred.toNat,kr r.fold x⟩
def pa (p:Prg):List Edg:=p.rules.flatMap edgR
theorem liftS_le (f:Int) (x:Ltl):0<=kr f x/\kr f x<=1:=by unfold kr;split<;>omega
theorem edgP_ok {p:Prg} (h:PrgOk p):x6 p.arity.length (pa p):=by
 intro e he;unfold pa at he;obtain⟨r,hr,he⟩:=List.mem_flatMap.1 he;unfold edgR at he;obtain⟨x,hx,rfl⟩:=List.mem_map.1 he;obtain⟨hx1,hx2⟩:=List.mem_filter.1 hx;have h1:=(h.each r hr).pred;have h2:=((h.each r hr).lits x hx1).pred hx2;have h3:=liftS_le r.fold x;dsimp only;omega
theorem liftN_S (f:Int) (x:Ltl):ks f x=kr f x:=by
 unfold ks kr m6;by_cases h1:x.kind=2<;>by_cases h2:f=0<;>simp [h1,h2]
theorem hangs_kind {x:Ltl} (h:1<=x.kind):(2<x.kind)↔c7 x=false:=by
 unfold c7;simp only [Bool.or_eq_false_iff,decide_eq_false_iff_not];omega
theorem lvLits_edg (f pr:Int):∀ (b:List Ltl) (lv:List Int),(∀ x∈b,1<=x.kind)->b.foldl (lvLit f pr) lv=gk ((b.filter c7).map λx=>⟨pr.toNat,x.pred.toNat,kr f x⟩) lv
 | [],_,_=>rfl
 | x::b,lv,h=>by
  have hk:=h x (Ae ..)
  have hb:=λy hy=>h y (Ah _ hy)
  rw [A2,lvLits_edg f pr b _ hb]
  cases hx:c7 x with
  | false =>
   rw [List.filter_cons_of_neg (by rw [hx];simp)]
   congr 1
   unfold lvLit
   rw [if_pos ((hangs_kind hk).2 hx)]
  | true =>
   rw [Fv hx,List.map_cons]
   show _=gk _ (ng lv _)
   congr 1
   unfold lvLit ng
   rw [if_neg (by rw [hangs_kind hk,hx];simp),liftN_S]
theorem roundE_app (A B:List Edg) (lv:List Int):gk (A++B) lv=gk B (gk A lv):=by unfold gk;rw [List.foldl_append]
theorem xl:∀ (l:List Rul) (lv:List Int),(∀ r∈l,∀ x∈r.body,1<=x.kind)->km l lv=gk (l.flatMap edgR) lv
 | [],_,_=>rfl
 | r::l,lv,h=>by
  rw [G7,roundE_app,<- xl l _ λy hy=>h y (Ah _ hy)]
  show km l (lvRule lv r)=_
  congr 1
  exact lvLits_edg _ _ _ _ (h r (Ae ..))
theorem lvIter_edg (p:Prg) (h:PrgOk p):∀ (k j:Nat),nf p.rules k (L0 (pa p) p.arity.length j)=L0 (pa p) p.arity.length (j+k)
 | 0,_=>rfl
 | k+1,j=>by
  rw [nf,xl _ _ λr hr x hx=>((h.each r hr).lits x hx).kind.1]
  show nf p.rules k (L0 (pa p) p.arity.length (j+1))=_
  rw [lvIter_edg p h k (j+1)]
  congr 1
  omega
theorem t7 (f pr:Int) (x:Ltl) (lv:List Int) (ch:Bool):(iv f pr x lv ch).1=ng lv ⟨pr.toNat,x.pred.toNat,kr f x⟩:=by
 unfold iv ng;dsimp only;split<;>rfl
theorem rawSteps (n f pr:Int):∀ (b:List Ltl) (lv:List Int) (ch:Bool) (r:List Int×Bool),b.foldl (fb n f pr) (some (lv,ch))=some r->r.1=gk (b.map λx=>⟨pr.toNat,x.pred.toNat,kr f x⟩) lv
 | [],lv,ch,r,h=>by cases h;rfl
 | x::b,lv,ch,r,h=>by
  rw [A2] at h
  by_cases hx:n<lv.getD x.pred.toNat 0+kr f x
  ·rw [show fb n f pr (some (lv,ch)) x=none from if_pos hx,jd] at h
   cases h
  ·rw [show fb n f pr (some (lv,ch)) x=some (iv f pr x lv ch) from if_neg hx] at h
   have:=rawSteps n f pr b (iv f pr x lv ch).1 (iv f pr x lv ch).2 r h
   rw [this,t7]
   rfl
theorem rawRules (n:Int):∀ (l:List Rul) (lv:List Int) (ch:Bool) (r:List Int×Bool),l.foldl (je n) (some (lv,ch))=some r->r.1=gk (l.flatMap edgR) lv
 | [],lv,ch,r,h=>by cases h;rfl
 | y::l,lv,ch,r,h=>by
  rw [A2] at h
  cases hs:je n (some (lv,ch)) y with
  | none=>rw [hs,kj] at h;cases h
  | some q =>
   rw [hs] at h
   have h1:=rawSteps n y.fold y.pred _ lv ch q hs
   have h2:=rawRules n l q.1 q.2 r h
   rw [h2,h1,G7,roundE_app]
   rfl
theorem rawLit_flag {f pr:Int} {x:Ltl} {lv:List Int} {ch:Bool} (h:(iv f pr x lv ch).2=false):ch=false/\(iv f pr x lv ch).1=lv:=by
 unfold iv at h ⊢;split at h
 ·cases h
 ·rename_i hn;rw [if_neg hn];exact⟨h,rfl⟩
theorem zz {n f pr:Int}:∀ (b:List Ltl) (lv lv':List Int) (ch:Bool),pr.toNat<lv.length->b.foldl (fb n f pr) (some (lv,ch))=some (lv',false)->ch=false/\lv'=lv
 | [],lv,lv',ch,_,h=>by cases h;exact⟨rfl,rfl⟩
 | x::b,lv,lv',ch,hp,h=>by
  rw [A2] at h
  by_cases hx:n<lv.getD x.pred.toNat 0+kr f x
  ·rw [show fb n f pr (some (lv,ch)) x=none from if_pos hx,jd] at h
   cases h
  ·rw [show fb n f pr (some (lv,ch)) x=some (iv f pr x lv ch) from if_neg hx] at h
   obtain⟨h1,h2⟩:=zz b (iv f pr x lv ch).1 lv' (iv f pr x lv ch).2 (by rw [t7,p8];exact hp) h
   obtain⟨h3,h4⟩:=rawLit_flag h1
   exact⟨h3,h2.trans h4⟩
theorem z7 {n:Int}:∀ (l:List Rul) (lv lv':List Int) (ch:Bool),(∀ r∈l,r.pred.toNat<lv.length)->l.foldl (je n) (some (lv,ch))=some (lv',false)->ch=false/\lv'=lv
 | [],lv,lv',ch,_,h=>by cases h;exact⟨rfl,rfl⟩
 | y::l,lv,lv',ch,hp,h=>by
  rw [A2] at h;cases hs:je n (some (lv,ch)) y with
  | none=>rw [hs,kj] at h;cases h
  | some q =>
   obtain⟨q1,q2⟩:=q;rw [hs] at h;have h0:q1=gk (edgR y) lv:=rawSteps n y.fold y.pred _ lv ch _ hs;have hl:q1.length=lv.length:=by rw [h0,roundE_len]
   obtain⟨h1,h2⟩:=z7 l q1 lv' q2 (λr hr=>by rw [hl];exact hp r (Ah _ hr)) h;subst h1;obtain⟨h3,h4⟩:=zz _ lv q1 ch (hp y (Ae ..)) hs;exact⟨h3,h2.trans h4⟩
theorem t8 (p:Prg) (h:PrgOk p):∀ (m j:Nat) (lv:List Int),ou p.arity.length p.rules m (L0 (pa p) p.arity.length j)=some lv->∃ k,lv=L0 (pa p) p.arity.length k/\L0 (pa p) p.arity.length (k+1)=L0 (pa p) p.arity.length k
 | 0,_,_,h=>nomatch h
 | m+1,j,lv,hr=>by
  rw [ou] at hr
  cases hs:qn p.arity.length p.rules (L0 (pa p) p.arity.length j) with
  | none=>rw [hs] at hr;cases hr
  | some q =>
   obtain⟨q1,q2⟩:=q
   rw [hs] at hr
   have h1:q1=L0 (pa p) p.arity.length (j+1):=rawRules _ _ _ _ _ hs
   cases q2 with
   | true =>
    rw [h1] at hr
    exact t8 p h m (j+1) lv hr
   | false =>
    simp only [Option.some.injEq] at hr
    have h2:=(z7 p.rules _ q1 false (λr hr=>by rw [kw];have:=(h.each r hr).pred;omega) hs).2
    exact⟨j,by rw [<- hr,h2],by rw [<- h1,h2]⟩
theorem zy {n f pr:Int} {N:Nat} {E:List Edg} {F:List Int} (hF:yi N E F) (hE:x6 N E) (hb:∀ i,F.getD i 0<=n):∀ (b:List Ltl) (lv:List Int) (ch:Bool),(∀ x∈b,(⟨pr.toNat,x.pred.toNat,kr f x⟩:Edg)∈E)->lv.length=N->(∀ i,lv.getD i 0<=F.getD i 0) ->
  ∃ r,b.foldl (fb n f pr) (some (lv,ch))=some r/\r.1.length=N/\∀ i,r.1.getD i 0<=F.getD i 0
 | [],lv,ch,_,hl,hle=>⟨(lv,ch),rfl,hl,hle⟩
 | x::b,lv,ch,hin,hl,hle=>by
  have hx:=hin x (Ae ..)
  have h1:=hF.2.2 _ hx
  have h2:=hle x.pred.toNat
  have h3:=hb pr.toNat
  dsimp only at h1
  rw [A2,show fb n f pr (some (lv,ch)) x=some (iv f pr x lv ch) from if_neg (by omega)]
  exact zy hF hE hb b (iv f pr x lv ch).1 (iv f pr x lv ch).2 (λy hy=>hin y (Ah _ hy)) (by rw [t7,p8];exact hl) (λi=>by rw [t7];exact liftE_below hl hF hx (hE _ hx).1 hle i)
theorem z6 {n:Int} {N:Nat} {E:List Edg} {F:List Int} (hF:yi N E F) (hE:x6 N E) (hb:∀ i,F.getD i 0<=n):∀ (l:List Rul) (lv:List Int) (ch:Bool),(∀ r∈l,∀ e∈edgR r,e∈E)->lv.length=N->(∀ i,lv.getD i 0<=F.getD i 0) ->
  ∃ r,l.foldl (je n) (some (lv,ch))=some r/\r.1.length=N/\∀ i,r.1.getD i 0<=F.getD i 0
 | [],lv,ch,_,hl,hle=>⟨(lv,ch),rfl,hl,hle⟩
 | y::l,lv,ch,hin,hl,hle=>by
  obtain⟨⟨q1,q2⟩,h1,h2,h3⟩:=zy hF hE hb (f:=y.fold) (pr:=y.pred) (y.body.filter c7) lv ch (λx hx=>hin y (Ae ..) _ (List.mem_map.2 ⟨x,hx,rfl⟩)) hl hle
  rw [A2,show je n (some (lv,ch)) y=some (q1,q2) from h1]
  exact z6 hF hE hb l q1 q2 (λr hr=>hin r (Ah _ hr)) h2 h3
theorem rawRound_gap {n:Int} {l:List Rul} {N:Nat} {lv lv':List Int} {ch:Bool} (hl:lv.length=N) (hp:∀ r∈l,r.pred.toNat<N) (hv:∀ v∈lv,0<=v/\v<=n) (h:qn n l lv=some (lv',ch)):Rs n lv lv' ch:=by
 have steps:∀ (f pr:Int) (b:List Ltl) (lv1 lv2:List Int) (c1 c2:Bool),pr.toNat<lv.length->Rs n lv lv1 c1->b.foldl (fb n f pr) (some (lv1,c1))=some (lv2,c2)->Rs n lv lv2 c2:=by
  intro f pr b;induction b with
  | nil=>intro lv1 lv2 c1 c2 _ h1 h2;cases h2;exact h1
  | cons x b ih =>
   intro lv1 lv2 c1 c2 hp h1 h2;rw [A2] at h2;by_cases hx:n<lv1.getD x.pred.toNat 0+kr f x
   ·rw [show fb n f pr (some (lv1,c1)) x=none from if_pos hx,jd] at h2;cases h2
   ·rw [show fb n f pr (some (lv1,c1)) x=some (iv f pr x lv1 c1) from if_neg hx] at h2;exact ih _ _ _ _ hp (h1.step hp hx) h2
 have rules:∀ (l:List Rul) (lv1 lv2:List Int) (c1 c2:Bool),(∀ r∈l,r.pred.toNat<N)->Rs n lv lv1 c1->l.foldl (je n) (some (lv1,c1))=some (lv2,c2)->Rs n lv lv2 c2:=by
  intro l;induction l with
  | nil=>intro lv1 lv2 c1 c2 _ h1 h2;cases h2;exact h1
  | cons y l ih =>
   intro lv1 lv2 c1 c2 hp h1 h2;rw [A2] at h2;cases hs:je n (some (lv1,c1)) y with
   | none=>rw [hs,kj] at h2;cases h2
   | some q =>
    obtain⟨q1,q2⟩:=q;rw [hs] at h2;exact ih q1 lv2 q2 c2 (λr hr=>hp r (Ah _ hr)) (steps _ _ _ _ _ _ _ (by rw [hl];exact hp y (Ae ..)) h1 hs) h2
 exact rules l lv lv' false ch hp (Rs.refl hv) h
theorem rawIter_some (p:Prg) (h:PrgOk p) {F:List Int} (hF:yi p.arity.length (pa p) F) (hb:∀ i,F.getD i 0<=(p.arity.length:Int)):∀ (m j:Nat),(∀ v∈L0 (pa p) p.arity.length j,0<=v/\v<=(p.arity.length:Int))->gap p.arity.length (L0 (pa p) p.arity.length j)<m->ou p.arity.length p.rules m (L0 (pa p) p.arity.length j)≠none
 | 0,_,_,hg=>by omega
 | m+1,j,hv,hg=>by
  rw [ou]
  obtain⟨⟨q1,q2⟩,h1,_,_⟩:=z6 hF (edgP_ok h) hb p.rules (L0 (pa p) p.arity.length j) false (λr hr e he=>List.mem_flatMap.2 ⟨r,hr,he⟩) (kw j) (rc (edgP_ok h) hF j)
  have h1:qn p.arity.length p.rules (L0 (pa p) p.arity.length j)=some (q1,q2):=h1
  rw [h1]
  have hgap:=rawRound_gap (kw j) (λr hr=>by have:=(h.each r hr).pred;omega) hv h1
  have h2:q1=L0 (pa p) p.arity.length (j+1):=rawRules _ _ _ _ _ h1
  cases q2 with
  | false=>simp
  | true =>
   rw [h2] at hgap ⊢
   exact rawIter_some p h hF hb m (j+1) hgap.2.1 (by have:=hgap.2.2.2 rfl;omega)
def d8 (p:Prg):List Int:=nf p.rules (p.arity.length+1) (il p.arity.length)
def q8 (p:Prg):Bool:=decide (km p.rules (nf p.rules p.arity.length (il p.arity.length))=nf p.rules p.arity.length (il p.arity.length))
theorem docLv_eq (p:Prg) (h:PrgOk p):d8 p=L0 (pa p) p.arity.length (p.arity.length+1):=by
 have:=lvIter_edg p h (p.arity.length+1) 0
 rw [Nat.zero_add] at this;exact this
theorem docOk_eq (p:Prg) (h:PrgOk p):q8 p=decide (L0 (pa p) p.arity.length (p.arity.length+1)=L0 (pa p) p.arity.length p.arity.length):=by
 have:=lvIter_edg p h p.arity.length 0
 rw [Nat.zero_add] at this;unfold q8;rw [show nf p.rules p.arity.length (il p.arity.length)=L0 (pa p) p.arity.length p.arity.length from this,xl _ _ λr hr x hx=>((h.each r hr).lits x hx).kind.1];rfl
theorem levels_same (p:Prg) (h:PrgOk p):rawL p=if q8 p then some (d8 p) else none:=by
 have hE:=edgP_ok h;rw [docOk_eq p h,docLv_eq p h];by_cases hr:L0 (pa p) p.arity.length (p.arity.length+1)=L0 (pa p) p.arity.length p.arity.length
 ·rw [if_pos (decide_eq_true hr),hr];have hfit:=rp hE hr;have hb:=least_bound hE hfit;cases hs:rawL p with
  | none =>
   refine absurd hs (rawIter_some p h hfit hb _ 0 (λv hv=>?_) ?_)
   ·rw [Fp hv];omega
   ·show gap p.arity.length (il p.arity.length)<_;rw [gap_zeros];exact Hi _
  | some lv =>
   obtain⟨k,h1,h2⟩:=t8 p h _ 0 lv hs;have hfk:=rp hE h2;rw [h1,settled hE hfk λF hF i=>rc hE hF k i]
 ·rw [if_neg (by rw [decide_eq_false hr];simp)];cases hs:rawL p with
  | none=>rfl
  | some lv =>
   obtain⟨k,h1,h2⟩:=t8 p h _ 0 lv hs;have hfk:=rp hE h2;have hset:=settled hE hfk λF hF i=>rc hE hF k i
   exfalso;apply hr;show gk (pa p) (L0 (pa p) p.arity.length p.arity.length)=_;rw [hset];exact h2
theorem firstI_z0 {f:Nat->Int}:∀ {k i:Nat},ij f i k=0->∀ j,i<=j->j<i+k->f j=0
 | 0,_,_,_,_,_=>by omega
 | k+1,i,h,j,h1,h2=>by
  unfold ij at h
  split at h
  ·rename_i h3;exact absurd h h3
  ·rename_i h3
   by_cases hj:j=i
   ·subst hj;exact A1 λhn=>h3 hn
   ·exact firstI_z0 h j (by omega) (by omega)
theorem arity_le {nameB:ByteArray->Bool} {p:Prg} (h:dw nameB p=0) {i:Int} (h0:0<=i) (hi:i<p.arity.length):p.arity.getD i.toNat 0<=3:=by
 have hok:=o5 h;unfold dw at h;split at h;· cases h
 split at h;· cases h
 split at h;· rename_i h3;exact absurd h h3
 rename_i h3;have h4:ij (o6 nameB p) 0 p.names.length=0:=A1 λhn=>h3 hn
 have h5:=firstI_z0 h4 i.toNat (Ai _) (by have:=hok.names;omega);unfold o6 at h5;split at h5;· cases h5
 rename_i h6;exact (un h6).2
theorem lit_terms {nameB:ByteArray->Bool} {p:Prg} (h:dw nameB p=0) {vars:Int} {l:Ltl} (hl:j7 p.arity vars l=0):l.terms.length<=3:=by
 have hk:=(litE_okM hl).kind;unfold j7 at hl;split at hl;· cases hl
 split at hl;· cases hl
 split at hl
 ·split at hl;· cases hl
  rename_i h3;have:=un h3
  split at hl;· cases hl
  have:=arity_le h (i:=l.pred) (by omega) (by omega)
  omega
 ·split at hl;· cases hl
  omega
theorem rule_terms {nameB:ByteArray->Bool} {p:Prg} (h:dw nameB p=0):∀ r∈p.rules,r.terms.length<=3/\∀ x∈r.body,x.terms.length<=3:=by
 intro r hr;have hrk:=(o5 h).each r hr;have h1:mg p.arity r=0:=by
  have h0:=h;unfold dw at h0;split at h0;· cases h0
  split at h0;· cases h0
  split at h0;· rename_i h3;exact absurd h0 h3
  exact sx h0 r hr
 unfold mg at h1;split at h1;· cases h1
 split at h1;· cases h1
 split at h1;· cases h1
 split at h1;· rename_i h4;exact absurd h1 h4
 split at h1;· cases h1
 split at h1;· cases h1
 split at h1;· cases h1
 split at h1;· rename_i h8;exact absurd h1 h8
 rename_i h8;have:=arity_le h hrk.pred.1 hrk.pred.2
 exact⟨by omega,λx hx=>lit_terms h (sx (A1 λhn=>h8 hn) x hx)⟩
variable [Bnds]
theorem least_lt {n:Nat} {E:List Edg} (hE:x6 n E) (hF:yi n E (L0 E n n)) (i:Nat) (hi:i<n):(L0 E n n).getD i 0<n:=by
 apply A1;intro hgt;have hgt:(n:Int)<=(L0 E n n).getD i 0:=by omega
 have hin:∀ v:Nat,v<=n->(v:Int)∈L0 E n n:=by
  intro v hv2;apply A1;intro hnot;have hnv:∀ j,j<n->(L0 E n n).getD j 0≠v:=by
   intro j hj h;apply hnot;rw [List.getD,Ab (by rw [kw];exact hj),Option.getD_some] at h;rw [<- h];exact Ag _
  let M:List Int:=(List.range n).map λj=>if (v:Int)<(L0 E n n).getD j 0 then (L0 E n n).getD j 0-1 else (L0 E n n).getD j 0
  have hM:∀ j,j<n->M.getD j 0=if (v:Int)<(L0 E n n).getD j 0 then (L0 E n n).getD j 0-1 else (L0 E n n).getD j 0:=λj hj=>by rw [iw,if_pos hj]
  have hfit:yi n E M:=by
   refine⟨by simp [M],λj=>?_,λe he=>?_⟩
   ·rw [iw];split
    ·have:=hF.2.1 j
     split<;>omega
    ·exact Int.le_refl _
   ·obtain⟨hp,hq,hs0,hs1⟩:=hE e he;have h1:=hF.2.2 e he;have h2:=hnv e.q hq;rw [hM _ hp,hM _ hq];split<;>split<;>omega
  have h3:=rc hE hfit n i;have h5:=hnv i hi;rw [hM i hi,if_pos (by omega)] at h3;omega
 have:=pigeon (n+1) ((L0 E n n).map (· + 1)) λv h1 h2=>List.mem_map.2 ⟨((v-1:Nat):Int),hin (v-1) (by omega),by omega⟩
 rw [Aa,kw] at this;omega
theorem prgR_of {p:Prg} (h:dw dx p=0):PrgR p:=by
 obtain⟨h1,h2,h3,h4⟩:=progE_rule h;exact⟨h1,h2,h3,h4⟩
theorem docLv_fit {p:Prg} (h:dw dx p=0) (hd:q8 p=true):LvFit p (d8 p)/\∀ r∈p.rules,0<=(d8 p).getD r.pred.toNat 0/\(d8 p).getD r.pred.toNat 0<p.arity.length:=by
 have hok:=o5 h;have hE:=edgP_ok hok;rw [docOk_eq p hok,decide_eq_true_eq] at hd;have hfit:=rp hE hd;rw [docLv_eq p hok,hd];refine⟨⟨kw _,λr hr l hl hk=>?_⟩,λr hr=>⟨hfit.2.1 _,?_⟩⟩
 ·have hk1:=((hok.each r hr).lits l hl).kind.1;have hh:c7 l=true:=by
   cases hb:c7 l with
   | true=>rfl
   | false=>exact absurd ((hangs_kind hk1).2 hb) (by omega)
  have:=hfit.2.2 ⟨r.pred.toNat,l.pred.toNat,kr r.fold l⟩ (List.mem_flatMap.2 ⟨r,hr,List.mem_map.2 ⟨l,List.mem_filter.2 ⟨hl,hh⟩,rfl⟩⟩)
  rw [liftN_S];exact this
 ·have hp:=(hok.each r hr).pred;exact least_lt hE hfit r.pred.toNat (by omega)
def pk (p:Prg) (l:List Fct):Int:=if dw dx p≠0 then dw dx p else if q8 p=false then 4 else et p.arity l
inductive ModelR (p:Prg) (l:List Fct):Int->List Fct->Prop
 | bad (h:pk p l≠0):ModelR p l (pk p l) []
 | ok (m:List Fct) (h:pk p l=0) (hr:RunTo p (d8 p) l p.arity.length m):ModelR p l 0 m
 | much (h:pk p l=0) (hr:¬ ∃ m,RunTo p (d8 p) l p.arity.length m):ModelR p l 2 []
theorem ModelR.total (p:Prg) (l:List Fct):∃ e m,ModelR p l e m:=by
 by_cases h:pk p l=0
 ·by_cases hr:∃ m,RunTo p (d8 p) l p.arity.length m
  ·obtain⟨m,hr⟩:=hr;exact⟨0,m,.ok m h hr⟩
  ·exact⟨2,[],.much h hr⟩
 ·exact⟨_,[],.bad h⟩
theorem ModelR.unique {p:Prg} {l:List Fct} {e e':Int} {m m':List Fct} (h:ModelR p l e m) (h':ModelR p l e' m'):e=e'/\m=m':=by
 cases h with
 | bad h=>cases h' with
  | bad=>exact⟨rfl,rfl⟩
  | ok _ h2=>exact absurd h2 h
  | much h2=>exact absurd h2 h
 | ok _ h hr=>cases h' with
  | bad h2=>exact absurd h h2
  | ok _ _ hr'=>exact⟨rfl,hr.unique hr'⟩
  | much _ hn=>exact absurd ⟨_,hr⟩ hn
 | much h hn=>cases h' with
  | bad h2=>exact absurd h h2
  | ok _ _ hr'=>exact absurd ⟨_,hr'⟩ hn
  | much=>exact⟨rfl,rfl⟩
theorem ModelR.run {p:Prg} {l m:List Fct} (h:pk p l=0) (hr:ModelR p l 0 m):RunTo p (d8 p) l p.arity.length m:=by
 generalize he:(0:Int)=e at hr;cases hr with
 | bad h2=>exact absurd h h2
 | ok _ _ hr=>exact hr
 | much=>cases he
theorem ModelR.ok0 {p:Prg} {l m:List Fct} (hr:ModelR p l 0 m):pk p l=0:=by
 generalize he:(0:Int)=e at hr;cases hr with
 | bad h2=>exact absurd he.symm h2
 | ok _ h _=>exact h
 | much=>cases he
structure MOk (p:Prg) (l:List Fct):Prop where
 prog:dw dx p=0
 pr:PrgR p
 fit:LvFit p (d8 p)
 lvs:∀ r∈p.rules,0<=(d8 p).getD r.pred.toNat 0/\(d8 p).getD r.pred.toNat 0<p.arity.length
 doc:q8 p=true
 len:l.length<=60
 facts:∀ x∈l,FctOk p.arity x
theorem zc {arity:List Int} {l:List Fct} (h:et arity l=0):l.length<=60/\∀ x∈l,FctOk arity x:=by
 unfold et at h;split at h;· cases h
 exact⟨by omega,λx hx=>factE_ok (ia h x hx)⟩
theorem mOk {p:Prg} {l:List Fct} (h:pk p l=0):MOk p l:=by
 unfold pk at h;split at h
 ·rename_i h1;exact absurd h h1
 rename_i h1;split at h;· cases h
 rename_i h2;have h1:dw dx p=0:=by simpa using h1
 have h2:q8 p=true:=by simpa using h2
 obtain⟨q1,q2⟩:=zc h;obtain⟨f1,f2⟩:=docLv_fit h1 h2;exact⟨h1,prgR_of h1,f1,f2,h2,q1,q2⟩
theorem ModelR.strict {p:Prg} {l:List Fct} {e:Int} {m:List Fct} (h:ModelR p l e m):Strict m/\m.length<=60/\(∀ x∈m,FctOk p.arity x):=by
 cases h with
 | bad=>exact⟨.nil,by simp,λ_ h=>by simp at h⟩
 | ok _ h hr =>
  have:=RunTo.ok (mOk h).facts (mOk h).len hr
  exact⟨this.1,this.2.1,this.2.2.1⟩
 | much=>exact⟨.nil,by simp,λ_ h=>by simp at h⟩
theorem fit_heads {p:Prg} {lv:List Int} {n:Int} {m M:List Fct} (hp:PrgR p) (hl:LvFit p lv) (h:Fit (lvV p lv n m) m M):∀ x∈M,x∈m∨∃ r∈(lvV p lv n m).rs,x∈hdW M r:=by
 have hV:=lvV_ok hp hl n m;obtain⟨t1,t2⟩:=a8 (m++((lvV p lv n m).rs.flatMap λr=>hdW M r));have hTM:∀ x∈av (m++((lvV p lv n m).rs.flatMap λr=>hdW M r)),x∈M:=by
  intro x hx;rcases List.mem_append.1 ((t2 x).1 hx) with hx|hx
  ·exact h.good.sub x hx
  ·obtain⟨r,hr,hx⟩:=List.mem_flatMap.1 hx;exact h.good.cl r hr x hx
 have hA:(lvV p lv n m).A (av (m++((lvV p lv n m).rs.flatMap λr=>hdW M r))):=by
  refine⟨λx hx=>h.good.a.1 x (hTM x hx),λx hx=>⟨λhxT=>(h.good.a.2 x hx).1 (hTM x hxT),λhx0=>(t2 x).2 (A0 _ hx0)⟩⟩
 have hgood:Good (lvV p lv n m) m (av (m++((lvV p lv n m).rs.flatMap λr=>hdW M r))):=by
  refine⟨t1,hA,λx hx=>(t2 x).2 (A0 _ hx),λr hr=>?_,λr hr x hx=>?_⟩
  ·exact (hV.mono _ M hA h.good.a t1 h.good.strict hTM r hr (h.good.few r hr)).1
  ·exact (t2 x).2 (List.mem_append_right _ (List.mem_flatMap.2 ⟨r,hr,(hV.mono _ M hA h.good.a t1 h.good.strict hTM r hr (h.good.few r hr)).2 x hx⟩))
 intro x hx;rcases List.mem_append.1 ((t2 x).1 (h.least _ hgood x hx)) with hx|hx
 ·exact .inl hx
 ·obtain⟨r,hr,hx⟩:=List.mem_flatMap.1 hx;exact .inr ⟨r,hr,hx⟩
theorem same_ways {arity:List Int} {r:Rul} {S T:List Fct} (hr:RulR arity r) (ha:∀ i,0<=arity.getD i 0/\arity.getD i 0<=3) (hS:∀ x∈S,FctOk arity x) (hT:∀ x∈T,FctOk arity x) (nS:S.Nodup) (nT:T.Nodup)
  (hk:∀ l∈r.body,l.kind<=2->∀ x:Fct,x.pred=l.pred->(x∈S↔x∈T)):manyW S r=manyW T r/\dg S r=dg T r:=by
 have sS:=oq hr ha hS;have sT:=oq hr ha hT;obtain⟨_,p2,p3⟩:=jq nS sS.ok.lit sS.bd;obtain⟨_,q2,q3⟩:=jq nT sT.ok.lit sT.bd;have heq:∀ w,w∈dt S r.body (jl r.body) (e0 r.vars.toNat)↔w∈dt T r.body (jl r.body) (e0 r.vars.toNat):=by
  intro w;rw [p3 w,q3 w];refine and_congr_right λ_=>forall_congr' λl=>forall_congr' λhl=>?_
  rw [holdE_cong (S:=S) (T:=T) λh12=>hk l hl (by omega)]
 have hw:pn S r.vars.toNat r.body=pn T r.vars.toNat r.body:=r7 (waysL_sort _ _ _) ((fk _ _ _).trans (tt p2 q2 heq));unfold dg manyW;rw [hw];exact⟨rfl,rfl⟩
theorem RunTo.stay {p:Prg} {lv:List Int} {given:List Fct}:∀ {k n:Nat} {m M:List Fct},RunTo p lv given n m->RunTo p lv given (n+k) M->(∀ x∈m,x∈M)/\∀ x:Fct,lv.getD x.pred.toNat 0<n->(x∈M↔x∈m)
 | 0,n,m,M,h,g=>by
  have:=RunTo.unique h g
  subst this
  exact⟨λ_ h=>h,λ_ _=>Iff.rfl⟩
 | k+1,n,m,M,h,⟨M',g1,g2⟩=>by
  obtain⟨i1,i2⟩:=RunTo.stay (k:=k) h g1
  refine⟨λx hx=>g2.good.sub x (i1 x hx),λx hx=>?_⟩
  rw [g2.good.a.2 x (by show _<((n+k:Nat):Int);omega)]
  exact i2 x hx
theorem RunTo.back {p:Prg} {lv:List Int} {given:List Fct}:∀ {k n:Nat} {M:List Fct},RunTo p lv given (n+k) M->∃ m,RunTo p lv given n m
 | 0,_,M,h=>⟨M,h⟩
 | k+1,_,_,⟨_,h,_⟩=>RunTo.back (k:=k) h
theorem RunTo.heads {p:Prg} {lv:List Int} {given:List Fct} (hp:PrgR p) (hl:LvFit p lv) (hg:∀ x∈given,FctOk p.arity x) (hlen:given.length<=60) {N:Nat} {M:List Fct} (h:RunTo p lv given N M) {r:Rul} (hr:r∈p.rules)
  (h0:0<=lv.getD r.pred.toNat 0) (hN:lv.getD r.pred.toNat 0<N):manyW M r=true/\∀ x∈hdW M r,x∈M:=by
 obtain⟨n,hn⟩:∃ n:Nat,(n:Int)=lv.getD r.pred.toNat 0:=⟨(lv.getD r.pred.toNat 0).toNat,Int.toNat_of_nonneg h0⟩;have hN':n+1+(N-(n+1))=N:=by omega
 have hM:=h;rw [<- hN'] at hM;obtain⟨m1,h1⟩:=RunTo.back hM;obtain⟨s1,s2⟩:=RunTo.stay h1 hM;obtain⟨m,g1,g2⟩:=h1;have hm1:=RunTo.ok hg hlen (n:=n+1) (m:=m1) ⟨m,g1,g2⟩;have hMok:=RunTo.ok hg hlen h;have hrs:r∈(lvV p lv n m).rs:=List.mem_filter.2 ⟨hr,decide_eq_true hn.symm⟩;obtain⟨e1,e2⟩:=same_ways (hp.rul r hr) hp.ar hMok.2.2.1 hm1.2.2.1 hMok.1.nodup hm1.1.nodup λl hlb hk x hx=>s2 x (by
  have h1:=hl.fit r hr l hlb hk;have h2:0<=ks r.fold l:=by unfold ks;split<;>omega
  rw [hx];omega)
 refine⟨e1.trans (g2.good.few r hrs),λx hx=>s1 x ?_⟩
 unfold hdW at hx;rw [e2] at hx;exact g2.good.cl r hrs x hx
theorem RunTo.from {p:Prg} {lv:List Int} {given:List Fct} (hp:PrgR p) (hl:LvFit p lv) (hg:∀ x∈given,FctOk p.arity x) (hlen:given.length<=60):∀ {N:Nat} {M:List Fct},RunTo p lv given N M->∀ x∈M,x∈given∨∃ r∈p.rules,0<=lv.getD r.pred.toNat 0/\lv.getD r.pred.toNat 0<N/\x∈hdW M r
 | 0,M,h,x,hx=>by
  subst h;exact .inl (((a8 _).2 x).1 hx)
 | N+1,M,⟨m,h1,h2⟩,x,hx=>by
  have hMall:RunTo p lv given (N+1) M:=⟨m,h1,h2⟩
  have hMok:=RunTo.ok hg hlen hMall;have hmok:=RunTo.ok hg hlen h1;rcases fit_heads hp hl h2 x hx with hx|⟨r,hr,hx⟩
  ·rcases RunTo.from hp hl hg hlen h1 x hx with hx|⟨r,hr,h0,hN,hx⟩
   ·exact .inl hx
   ·refine .inr ⟨r,hr,h0,by omega,?_⟩;obtain⟨e1,e2⟩:=same_ways (hp.rul r hr) hp.ar hMok.2.2.1 hmok.2.2.1 hMok.1.nodup hmok.1.nodup λl hlb hk y hy=>h2.good.a.2 y (by
     have h1:=hl.fit r hr l hlb hk;have h2:0<=ks r.fold l:=by unfold ks;split<;>omega
     rw [hy];omega)
    unfold hdW at hx ⊢;rw [e2];exact hx
  ·obtain⟨hr,hn⟩:=List.mem_filter.1 hr;have hn:=of_decide_eq_true hn;exact .inr ⟨r,hr,by omega,by omega,hx⟩
open Go Go.RowKit
variable [Bnds]
attribute [local irreducible] DW DS DL DQ Ev FnOk FnP dp bh DWr
def ii (r:Rul):List (List SV):=(r.body.filter c7).map λx=>[.d (.int .i64 x.pred),.d (.bool (m6 r.fold x))]
def x9 (r:Rul) (i:Nat):Nat:=((r.body.take i).filter c7).length
theorem hangs_fn (r:Rul):Fn 123 [k8 r] (λres=>res = .fn 174 [.pd (a6 r)]):=by
 refine fqE Tryz.func123 ?_;intro O w0 E0 β0;repeat' (first|refine zs ?_|fail)
 refine au (ent_freeze (ds:=a6 r) 2 0 rfl rfl) ?_;repeat' (apply dv)
 exact⟨.inl rfl,_,rfl,rfl,rfl⟩
theorem hangsX_get {r:Rul} {j:Nat} (h:j<(ii r).length):∃ hj:j<(r.body.filter c7).length,(ii r)[j]=[.d (.int .i64 ((r.body.filter c7)[j]).pred),.d (.bool (m6 r.fold (r.body.filter c7)[j]))]:=by
 have h':j<(r.body.filter c7).length:=by unfold ii at h;rwa [Aa] at h
 exact⟨h',by simp [ii]⟩
theorem hangsX_len (r:Rul):(ii r).length=(r.body.filter c7).length:=by unfold ii;rw [Aa]
theorem hangsX_each (r:Rul):∀ x∈ii r,2=x.length/\SV.lowL 0 x=true:=by
 intro x hx;unfold ii at hx;obtain⟨y,_,rfl⟩:=List.mem_map.1 hx;exact⟨rfl,rfl⟩
theorem cntH_skip {r:Rul} {i:Nat} (hi:i<r.body.length) (h:c7 r.body[i]=false):x9 r (i+1)=x9 r i:=by
 unfold x9;rw [Am hi,C3,Ap];simp [h]
theorem cntH_step {r:Rul} {i:Nat} (hi:i<r.body.length) (h:c7 r.body[i]=true):x9 r (i+1)=x9 r i+1:=by
 unfold x9;rw [Am hi,C3,Ap];simp [h]
theorem cntH_all {r:Rul} {i:Nat} (hi:r.body.length<=i):x9 r i=(ii r).length:=by
 unfold x9 ii;rw [Ak hi,Aa]
theorem hangsX_at {r:Rul} {i:Nat} (hi:i<r.body.length) (h:c7 r.body[i]=true):∃ hc:x9 r i<(ii r).length,(ii r)[x9 r i]=[.d (.int .i64 r.body[i].pred),.d (.bool (m6 r.fold r.body[i]))]:=by
 have hsplit:r.body.filter c7=(r.body.take i).filter c7++r.body[i]::(r.body.drop (i+1)).filter c7:=by
  conv=>lhs;rw [<- List.take_append_drop i r.body,C3,Ao hi]
  rw [Fv h]
 have h1:(ii r)[x9 r i]?=some [.d (.int .i64 r.body[i].pred),.d (.bool (m6 r.fold r.body[i]))]:=by
  unfold ii x9;rw [hsplit,List.getElem?_map,List.getElem?_append_right (Af _),Nat.sub_self];rfl
 obtain⟨h2,h3⟩:=List.getElem?_eq_some_iff.1 h1;exact⟨h2,h3⟩
abbrev hgL (yv pv bv:Value) (n i:Nat):Sl:=[(0,.val yv),(1,.val pv),(6,.val bv),(7,.d (.int .i64 n)),(8,.d (.int .i64 i))]
set_option maxHeartbeats 4000000 in
theorem hangs1_seq (r:Rul):SeqD Tryz.prog 174 [.pd (a6 r)] (ii r):=by
 refine⟨by kernel_rfl,?_⟩
 intro X e0 W0 lb l J Jx hX hT hlb hJ0 hfr hJb hJxb hJxs hy;match lb,hlb with
 | [pv],⟨hpd,_⟩ =>
  have hpd':=hpd;obtain⟨b,off,hpv,hb,hnX,hcells⟩:=hpd';obtain⟨u3,hc3,hr3⟩:=hcells 3 (by show 3<5;omega);have hr3:RepC X W0 u3 (.slice 4 (r.body.map ay)):=hr3;obtain⟨ao,cap,hu3,hcap,hmax,_⟩:=hr3.slice_inv;have hlen:(r.body.map ay).length=r.body.length:=Aa _;rw [hlen] at hu3 hcap;have hbl:r.body.length<=maxLen:=by omega
  have hbm:r.body.length<=9223372036854775807:=by unfold maxLen at hbl;omega
  refine callsIn_wide.1 (callsIn_of_wp_marks (F:=Fence.wide) (n:=0) Tryz.func174 rfl trivial ?_);have hF0:Flat 34 [(0,.val (.func (.yield l) #[] #[])),(1,.val pv)] { tmps:=(#[.func (.yield l) #[] #[]]++[pv].toArray)++Array.replicate 32 undef,defers:=[] }:=by
   refine⟨by simp,rfl,λt X e w=>?_⟩
   rw [Sl.get_cons];split
   ·rename_i h;subst h;simp [Rel]
   ·rw [Sl.get_cons];split
    ·rename_i h;subst h;simp [Rel]
    ·trivial
  have hret:∀ (ex:Exit) (a:Act) (W:World),(ex = .normal∨ex = .ret)->a.defers=[]->(J (ii r).length W∨Jx W) ->
    bodyPostM Fence.wide 0 Tryz.prog Tryz.f174 (λen W'=>(∃ v,en = .returned v)/\(J (ii r).length W'∨Jx W')) ex a W:=by
   rintro ex a W hx hd hj;have:LeavesInM Fence.wide 0 Tryz.prog Tryz.f174 a.tmps (λen W'=>(∃ v,en = .returned v)/\(J (ii r).length W'∨Jx W')) a.defers .returning W:=by
    rw [hd];exact⟨.tuple #[],by simp [results,Tryz.f174],⟨_,rfl⟩,hj⟩
   rcases hx with rfl|rfl<;>exact this
  obtain⟨QQ,hQQ⟩:∃ QQ,QQ=bodyPostM Fence.wide 0 Tryz.prog Tryz.f174 (λen W'=>(∃ v,en = .returned v)/\(J (ii r).length W'∨Jx W')):=⟨_,rfl⟩;rw [<- hQQ] at hret ⊢;clear hQQ;refine wpIn_seq (wpIn_mono (Q:=λex a' w'=>ex = .normal/\Flat 34 (hgL (.func (.yield l) #[] #[]) pv u3 r.body.length 0) a'/\Below W0.heap.size W0 w') ?_ ?_)
  ·have m0:=hF0.models (P:=Tryz.prog) (τ:=tab) (τok:=bp) (O:=X) W0 hX hT;refine dwr_run m0 (dwr_of rfl ?_);subst hpv hu3;apply s8;exact rfl;refine jo (ev_fa_val (l:=[(0,3,1),(1,61,1),(2,3,1),(3,62,1),(4,3,1)]) rfl rfl rfl 1 rfl) rfl rfl ?_;refine jo (ev_ld_val (u:=.slice ao r.body.length cap) 5 rfl rfl rfl hc3 (λ_=>id)) rfl rfl ?_;refine jo (ev_len_val 6 (t':=68) rfl rfl hbl) rfl rfl ?_;repeat' (first|refine zs ?_|fail)
   intro e a w m;exact⟨rfl,m.flatten ⟨rfl,rfl,rfl,rfl,rfl,trivial⟩ rfl,m.toHeap.it_below⟩
  rintro ex a0 w0 ⟨rfl,hf0,hbl0⟩;refine wpIn_block (wpIn_loop_ghost (λn a W=>∃ i,i<=r.body.length/\n=r.body.length-i/\Flat 34 (hgL (.func (.yield l) #[] #[]) pv u3 r.body.length i) a/\J (x9 r i) W) r.body.length ⟨0,Ai _,rfl,hf0,hJb _ _ _ hJ0 hbl0⟩ ?_);rintro n a W ⟨i,hi,rfl,hf,hj⟩;obtain⟨hsz,hfrW⟩:=hfr _ _ hj;have hOW:∀ b,Oit X W0 W b->b<W.heap.size:=λb h=>h.1
  have m0:=hf.models (P:=Tryz.prog) (τ:=tab) (τok:=bp) (O:=Oit X W0 W) W hOW (hT.grow hsz);have hv1:∀ {k:Nat} {L:Sl} {H:Hp} {e:Env} {a:Act} {w:World},Models (Γit Tryz.prog tab bp (Oit X W0 W) W 34) (lo k) L H e a w->L.get 1 = .val pv->Models (Γit Tryz.prog tab bp (Oit X W0 W) W 34) (lo k) ((1,.pd (a6 r))::L) H e a w :=
   λm h=>m.val_as 1 h (it_rel hsz hfrW rfl hpd m.toHeap)
  have hv6:∀ {k:Nat} {L:Sl} {H:Hp} {e:Env} {a:Act} {w:World},Models (Γit Tryz.prog tab bp (Oit X W0 W) W 34) (lo k) L H e a w->L.get 6 = .val u3->Models (Γit Tryz.prog tab bp (Oit X W0 W) W 34) (lo k) ((6,.d (.slice 4 (r.body.map ay)))::L) H e a w :=
   λm h=>m.val_as 6 h (it_rel (e0:=e0) (s:=.d (.slice 4 (r.body.map ay))) hsz hfrW rfl hr3 m.toHeap)
  refine dwr_run m0 ?_;have hr5:∀ (c5:Code) (a:Act) (W':World),i<r.body.length->Flat 34 (hgL (.func (.yield l) #[] #[]) pv u3 r.body.length i) a->J (x9 r (i+1)) W' ->
    DW (Γit Tryz.prog tab bp X W' 34) c5 (λex _ L _=>ex = .normal/\th L (hgL (.func (.yield l) #[] #[]) pv u3 r.body.length (i+1))) 0 (hgL (.func (.yield l) #[] #[]) pv u3 r.body.length i) [] ->
    Code.wpIn Fence.wide 0 Tryz.prog c5 (Exit.then (λa' w'=>∃ n',n'<r.body.length-i/\∃ i,i<=r.body.length/\n'=r.body.length-i/\Flat 34 (hgL (.func (.yield l) #[] #[]) pv u3 r.body.length i) a'/\J (x9 r i) w') (Exit.inBlock 0 (λex a w=>QQ ex a w))) a W':=by
   intro c5 a W' hlt hf' hj' h5;have hO':∀ b,X b->b<W'.heap.size:=λb h=>Nat.lt_of_lt_of_le (hX b h) (hfr _ _ hj').1
   have m1:=hf'.models (P:=Tryz.prog) (τ:=tab) (τok:=bp) (O:=X) W' hO' (hT.grow (hfr _ _ hj').1);refine wpIn_mono (dw_run m1 h5) ?_;rintro ex a2 w2 (⟨k2,L2,H2,e2,m2,rfl,hk2⟩|⟨_,_,_,_,_,_,hv,_⟩)
   ·exact⟨r.body.length-(i+1),by omega,i+1,by omega,rfl,m2.flatten hk2 rfl,hJb _ _ _ hj' m2.toHeap.it_below⟩
   ·exact hv.elim
  refine rt rfl ?_;repeat' (first|refine zs ?_|fail)
  refine rt rfl ?_;by_cases hlt:i<r.body.length
  rotate_left
  ·repeat' (first|refine zs ?_|(refine zm ?_ ?_<;>intro hg)|(exfalso;omega))
   intro e a w m;refine hret .normal a w (.inl rfl) (m.flatten (Ls:=[]) trivial rfl).defers (.inl ?_);rw [<- cntH_all (r:=r) (i:=i) (by omega)];exact hJb _ _ _ hj m.toHeap.it_below
  repeat' (first|refine zs ?_|(refine zm ?_ ?_<;>intro hg)|(exfalso;omega))
  refine dwr_seqR (dwr_block ?_);refine rt rfl ?_;apply s8;exact rfl;refine jo (ev_val ((6,.d (.slice 4 (r.body.map ay)))::_) (λe a w m=>hv6 m rfl) (ev_index_map (f:=ay) (l:=r.body) (t':=68) rfl rfl rfl rfl rfl rfl hlt)) rfl rfl ?_;repeat' (first|refine zs ?_|fail)
  refine rt rfl ?_;repeat' (first|refine zs ?_|(refine zm ?_ ?_<;>intro hg)|fail)
  ·intro e a w m;simp only [Exit.inBlock,if_true,Exit.then];refine hr5 _ a w hlt (m.flatten ⟨rfl,rfl,rfl,rfl,rfl,trivial⟩ rfl) (by rw [cntH_skip hlt (by unfold c7;simp_all)];exact hJb _ _ _ hj m.toHeap.it_below) ?_;repeat' (first|refine zs ?_|fail)
   exact⟨rfl,rfl,rfl,rfl,rfl,rfl,trivial⟩
  all_goals
   have hyl:c7 r.body[i]=true:=by
    have h12:r.body[i].kind=1∨r.body[i].kind=2:=by omega
    unfold c7;rcases h12 with h|h<;>simp [h]
   obtain⟨hc,hx⟩:=hangsX_at hlt hyl;refine dwr_seqR (dwr_yieldL (l:=l) (d:=31) (N:=34) (pre:=[_,_,_,_,_,_,_,_,_,_,_]) (post:=[_]) (by rfl) (by rfl) (by rfl) (by rfl) (hgL (.func (.yield l) #[] #[]) pv u3 r.body.length i) rfl (λb=>(32,.d (.bool (!b)))::hgL (.func (.yield l) #[] #[]) pv u3 r.body.length i) (J (x9 r (i+1))) Jx ?_ ?_ ?_ (λW1 h=>h.elim (λh=>hT.grow (hfr _ _ h).1) (λh=>hT.grow (hJxs _ h))))
   ·repeat' (first|(first|refine zs ?_|(refine zm ?_ ?_<;>intro hg)|fail)|(refine jo (ev_val ((1,.pd (a6 r))::_) (λe a w m=>hv1 m rfl) (ev_field_pd (l:=[(0,3,1),(1,61,1),(2,3,1),(3,62,1),(4,3,1)]) rfl rfl rfl rfl)) rfl rfl ?_))
    all_goals
     refine⟨rfl,rfl,⟨rfl,rfl,rfl,rfl,rfl,trivial⟩,λe W' vs hb1 hvs=>?_⟩
     have:=hy (x9 r i) hc W W' vs hj hb1 ⟨e,by rw [hx];unfold m6;first|(rw [decide_eq_true (by assumption),Bool.true_or];exact hvs)|(rw [decide_eq_false (by assumption),Bool.false_or];exact hvs)⟩
     rw [<- cntH_step hlt hyl] at this;exact this
   ·intro b W';repeat' (first|refine zs ?_|fail)
    exact⟨rfl,⟨rfl,rfl,rfl,rfl,rfl,rfl,trivial⟩,rfl⟩
   ·rintro b a' W' hfl ⟨W1,hb1,hj1⟩;have hfl':Flat 34 (hgL (.func (.yield l) #[] #[]) pv u3 r.body.length i) a':=⟨hfl.len,hfl.defers,λt X e w=>by
     have:=hfl.slot t X e w
     rw [Sl.get_cons] at this;split at this
     ·rename_i h;subst h;trivial
     ·exact this⟩
    have hv:a'.eval (.tmp 32) = .bool (!b):=by
     have h1:=hfl.slot 32 (λ_=>False) ⟨λ_=>0,λ_=>undef,lo 0⟩ W';have h1:RepC _ W' (a'.tmps.getD 32 undef) (.bool (!b)):=h1;show a'.tmps.getD 32 undef=_;generalize a'.tmps.getD 32 undef=v at h1 ⊢;cases h1;rfl
    rcases hj1 with ⟨rfl,hj1⟩|⟨rfl,hj1⟩
    ·refine wpIn_cond_false hv (wpIn_skip ?_);refine hr5 _ a' W' hlt hfl' (hJb _ _ _ hj1 hb1) ?_;repeat' (first|refine zs ?_|fail)
     exact⟨rfl,rfl,rfl,rfl,rfl,rfl,trivial⟩
    ·refine wpIn_cond_true hv (wpIn_ret ?_);exact hret .ret a' W' (.inr rfl) hfl.defers (.inr (hJxb _ _ hj1 hb1))
variable [Bnds]
def predsOk (n:Nat) (l:List Rul):Prop:=∀ r∈l,(0<=r.pred/\r.pred<n)/\∀ x∈r.body,c7 x=true->0<=x.pred/\x.pred<n
def rawSV:Option (List Int)->SV
 | none=>.tup [.d (.slice 1 []),.d (.bool false)]
 | some lv=>.tup [.d (.slice 1 (lv.map ah)),.d (.bool true)]
abbrev prgBk (p:Prg):HB:=.blk 26 [.d (.slice 1 (p.arity.map ah)),.d (.slice 1 (p.names.map dl)),.d (.slice 5 (p.rules.map a6))]
abbrev rawH (p:Prg) (lv:List Int) (ch:Bool):Hp:=[(0,prgBk p),(1,.blk 22 [.nils]),(2,.blk 4 [.d (.bool false)]),(3,.row 3 1 (lv.map ah)),(4,.blk 22 [.row 3]),(5,.blk 4 [.d (.bool ch)])]
theorem sraw_fn (p:Prg) (h10:p.arity.length<=10) (h12:p.rules.length<=12) (hp:predsOk p.arity.length p.rules):Fn 110 [db p] (λres=>res=rawSV (rawL p)):=by
 refine fqE Tryz.func110 ?_;intro O w0 E0 β0;have la:(p.arity.map ah).length=p.arity.length:=Aa _;have lr:(p.rules.map a6).length=p.rules.length:=Aa _;repeat' (first|refine zs ?_|fail)
 refine ds_mk ((il p.arity.length).map ah) rfl rfl (by rw [la]) rfl rfl rfl rfl rfl rfl (by show 8*_<=_;omega) (by unfold maxLen;omega) (by unfold il;rw [C2];rfl) rfl rfl ?_;repeat' (first|refine zs ?_|fail)
 refine ak (ι:=Bool×List Int×Nat) (λx=>⟨6,[(1,.loc 0 0),(2,.loc 1 0),(3,.loc 2 0),(4,.loc 4 0),(5,.loc 5 0)],rawH p x.2.1 x.1⟩)
  (λx=>x.2.1.length=p.arity.length/\(∀ v∈x.2.1,0<=v/\v<=p.arity.length)/\(x.1=true->rawL p=ou p.arity.length p.rules x.2.2 x.2.1/\gap p.arity.length x.2.1<x.2.2)/\(x.1=false->rawL p=some x.2.1)) (λx=>x.2.2)
  (true,il p.arity.length,p.arity.length*p.arity.length+1) ⟨by simp [il],λv hv=>by rw [Fp hv];constructor<;>omega,λ_=>⟨rfl,by rw [gap_zeros];exact Hi _⟩,λh=>by cases h⟩
  (er id) ?_
 rintro⟨ch,lv0,m⟩ ⟨g1,g2,g3,g4⟩;dsimp only at g1 g2 g3 g4 ⊢;cases ch with
 | false =>
  have g4:=g4 rfl;repeat' (first|refine zs ?_|fail)
  refine au (ent_cellseal 1 0 3 rfl rfl rfl rfl rfl) ?_;repeat' (apply dv)
  exact⟨.inl rfl,_,rfl,rfl,by rw [g4];rfl⟩
 | true =>
  obtain⟨g5,g6⟩:=g3 rfl;obtain⟨m,rfl⟩:∃ m',m=m'+1:=⟨m-1,by omega⟩;repeat' (first|refine zs ?_|fail)
  refine ak (ι:=Nat×List Int×Bool) (λx=>⟨6,[(1,.loc 0 0),(2,.loc 1 0),(3,.loc 2 0),(4,.loc 4 0),(5,.loc 5 0),(17,.d (.slice 5 (p.rules.map a6))),(18,.d (.int .i64 (p.rules.map a6).length)),(19,.d (.int .i64 x.1))],rawH p x.2.1 x.2.2⟩)
   (λx=>x.1<=p.rules.length/\qn p.arity.length p.rules lv0=(p.rules.drop x.1).foldl (je p.arity.length) (some (x.2.1,x.2.2))/\Rs p.arity.length lv0 x.2.1 x.2.2) (λx=>p.rules.length-x.1)
   (0,lv0,false) ⟨Ai _,rfl,Rs.refl g2⟩ (er id) ?_
  rintro⟨i,lv,ch⟩ ⟨f1,f2,f3⟩;dsimp only at f1 f2 f3 ⊢;have ll:(lv.map ah).length=lv.length:=Aa _;by_cases hi:i<p.rules.length
  ·repeat' (first|refine zs ?_|refine z21 ?_ (hc:=by apply hangs_fn)|(refine zm ?_ ?_<;>intro hg)|(exfalso;omega))
   obtain⟨hp1,hp2⟩:=hp p.rules[i] (Ag hi);have hstep:(p.rules.drop i).foldl (je p.arity.length) (some (lv,ch))=(p.rules.drop (i+1)).foldl (je p.arity.length) (((p.rules[i].body.filter c7).drop 0).foldl (fb p.arity.length p.rules[i].fold p.rules[i].pred) (some (lv,ch))):=by
    rw [Ao hi,A2,D5];rfl
   rw [hstep] at f2;clear hstep;generalize p.rules[i]=r at hp1 hp2 f2 ⊢;refine dw_range (ii r) rfl rfl (hangs1_seq r) (hangsX_each r) (by simp) [(1,.loc 0 0),(2,.loc 1 0),(3,.loc 2 0),(4,.loc 4 0),(5,.loc 5 0),(7,.loc 6 0),(17,.d (.slice 5 (p.rules.map a6))),(18,.d (.int .i64 (p.rules.map a6).length)),(19,.d (.int .i64 i))] ⟨rfl,rfl,rfl,rfl,rfl,rfl,rfl,rfl,rfl,trivial⟩ rfl
    (ι:=List Int×Bool) (λ_ x=>(7,(6,nu r)::rawH p x.1 x.2))
    (λj x=>qn p.arity.length p.rules lv0=(p.rules.drop (i+1)).foldl (je p.arity.length) (((r.body.filter c7).drop j).foldl (fb p.arity.length r.fold r.pred) (some x))/\Rs p.arity.length lv0 x.1 x.2)
    (lv,ch) ⟨f2,f3⟩ rfl ?_ ?_
   ·rintro j hj ⟨lv1,ch1⟩ ⟨e1,e2⟩ O1 w1 E1 β1 l;obtain⟨hj',hx⟩:=hangsX_get hj;rw [hx];dsimp only at e1 e2 ⊢;have hxm:=Ag hj';obtain⟨hxb,hxh⟩:=List.mem_filter.1 hxm;obtain⟨q1,q2⟩:=hp2 _ hxb hxh;rw [Ao hj',A2] at e1;generalize (r.body.filter c7)[j]=x at hxb hxh q1 q2 e1 ⊢;have ll1:(lv1.map ah).length=lv1.length:=Aa _;have hl1:=e2.1;have hA:=e2.2.1 (lv1[x.pred.toNat]'(by omega)) (Ag _);have hw:=rawStep_if (n:=p.arity.length) (fold:=r.fold) (pred:=r.pred) (ch:=ch1) (x:=x) (lv:=lv1) (by omega) (by omega);have hnx:=λlv' ch'=>Rs.next (fold:=r.fold) (pred:=r.pred) (x:=x) (lv':=lv') (ch':=ch') e2 (by omega)
    unfold kr at hw;change DW _ _ _ _ ((26,.d (.bool (m6 r.fold x)))::(25,.d (.int .i64 x.pred))::_) _;generalize m6 r.fold x=sb at hw ⊢;repeat' (first|refine zs ?_|fail)
    refine⟨rfl,λO2 w2 E2 β2=>?_⟩
    cases sb with
    | true =>
     rw [if_pos rfl] at hw;repeat' (first|refine z0 ?_|apply jj|(apply ke;exact rfl;exact rfl;(apply ig;(omega));exact rfl;exact rfl;(exact j9 rfl);exact rfl;exact rfl;exact rfl;exact rfl;exact rfl;exact rfl)|refine zr ?_|(refine zm ?_ ?_<;>intro hg)|(exfalso;omega))
     all_goals first
      | exact⟨(lv1.set r.pred.toNat (lv1[x.pred.toNat]'(by omega)+1),true),⟨by rw [e1,hw,if_neg (by omega),if_pos (by omega)],hnx _ _ (by rw [hw,if_neg (by omega),if_pos (by omega)])⟩,er id⟩
      | exact⟨(lv1,ch1),⟨by rw [e1,hw,if_neg (by omega),if_neg (by omega)],e2⟩,er id⟩
      | (refine⟨7,[(0,prgBk p),(1,.blk 22 [.d (.slice 1 [])]),(2,.blk 4 [.d (.bool false)])],oc (ent_cellnil 1 0 1 rfl rfl rfl) (er id),?_⟩
         repeat' (first|refine zs ?_|fail)
         exact⟨.inl rfl,_,rfl,rfl,by rw [g5,ou,e1,hw,if_pos (by omega),jd,kj];rfl⟩)
    | false =>
     simp only [Bool.false_eq_true,if_false,Int.add_zero] at hw;repeat' (first|refine z0 ?_|apply jj|(apply ke;exact rfl;exact rfl;(apply ig;(omega));exact rfl;exact rfl;(exact j9 rfl);exact rfl;exact rfl;exact rfl;exact rfl;exact rfl;exact rfl)|refine zr ?_|(refine zm ?_ ?_<;>intro hg)|(exfalso;omega))
     all_goals first
      | exact⟨(lv1.set r.pred.toNat (lv1[x.pred.toNat]'(by omega)),true),⟨by rw [e1,hw,if_neg (by omega),if_pos (by omega)],hnx _ _ (by rw [hw,if_neg (by omega),if_pos (by omega)])⟩,er id⟩
      | exact⟨(lv1,ch1),⟨by rw [e1,hw,if_neg (by omega),if_neg (by omega)],e2⟩,er id⟩
      | (refine⟨7,[(0,prgBk p),(1,.blk 22 [.d (.slice 1 [])]),(2,.blk 4 [.d (.bool false)])],oc (ent_cellnil 1 0 1 rfl rfl rfl) (er id),?_⟩
         repeat' fail
         exact⟨.inl rfl,_,rfl,rfl,by rw [g5,ou,e1,hw,if_pos (by omega),jd,kj];rfl⟩)
   ·rintro⟨lv1,ch1⟩ ⟨e1,e2⟩;rw [hangsX_len,Ax (Af _)] at e1;repeat' (first|refine zs ?_|fail)
    exact⟨(i+1,lv1,ch1),⟨by dsimp only;omega,e1,e2⟩,er id,by show p.rules.length-(i+1)<p.rules.length-i;omega⟩
  ·rw [Ax (by omega)] at f2;have f2:qn p.arity.length p.rules lv0=some (lv,ch):=f2;rw [ou,f2] at g5;repeat' (first|refine zs ?_|(refine zm ?_ ?_<;>intro hg)|(exfalso;omega))
   refine⟨(ch,lv,m),⟨by dsimp only;rw [f3.1,g1],f3.2.1,λh=>?_,λh=>?_⟩,er (λj=>match j with|5=>6|j=>j),by show m<m+1;omega⟩
   ·subst h;exact⟨g5,by have:=f3.2.2.2 rfl;dsimp only;omega⟩
   ·subst h;exact g5
variable [Bnds]
abbrev svI (v:Int):SV:=.d (.int .i64 v)
def qOk (left:List Int) (off cap:Nat) (cs:List SV):Prop:=off+cap<=cs.length/\(cs.drop off).take left.length=left.map svI/\left.length<=cap
theorem qOk.head {n:Int} {left:List Int} {off cap:Nat} {cs:List SV} (h:qOk (n::left) off cap cs):cs[off]?=some (svI n):=by
 obtain⟨h1,h2,h3⟩:=h;have:((cs.drop off).take (n::left).length)[0]?=some (svI n):=by rw [h2];rfl
 rw [List.getElem?_take,List.getElem?_drop] at this;simpa using this
theorem qOk.tail {n:Int} {left:List Int} {off cap:Nat} {cs:List SV} (h:qOk (n::left) off cap cs):qOk left (off+1) (cap-1) cs:=by
 obtain⟨h1,h2,h3⟩:=h;simp only [Bn] at h2 h3;refine⟨by omega,?_,by omega⟩
 have h4:((cs.drop off).take (left.length+1)).drop 1=left.map svI:=by rw [h2];rfl
 rw [Ht,List.drop_drop] at h4;simpa using h4
theorem qOk.push {x:Int} {left:List Int} {off cap:Nat} {cs:List SV} (h:qOk left off cap cs) (hr:left.length+1<=cap):qOk (left++[x]) off cap (fm cs (off+left.length*1) [svI x]):=by
 obtain⟨h1,h2,h3⟩:=h;have hl:left.length<=(cs.drop off).length:=by rw [List.length_drop];omega
 refine⟨by unfold fm;simp;omega,?_,by simpa using hr⟩
 unfold fm;rw [Dq,Ap,Bh,Av,<- h2,Bt,List.drop_append_of_le_length (by simp;omega),Ht];rw [show off+left.length-off=left.length by omega];rw [<- Bt,Cc (by simp;omega),Ak (by simp;omega)];rfl
theorem qOk.grow {x:Int} {left:List Int} {off cap c':Nat} {cs:List SV} (h:qOk left off cap cs) (hr:left.length+1<=c') :
  qOk (left++[x]) 0 c' ((cs.drop off).take (left.length*1)++[svI x]++An ((c'-(left.length+1))*1) .junk):=by
 obtain⟨h1,h2,h3⟩:=h;rw [Dq,Dq,h2];refine⟨by simp;omega,?_,by simpa using hr⟩
 rw [D5,Ap,Bh,Cc (by simp),Ak (by simp),Av];rfl
abbrev ndH (q:Nat) (p:Prg) (out:List Bool) (n off cap:Nat) (cs:List SV):Hp:=[(0,prgBk p),(1,.row 4 1 (out.map bz)),(2,.blk 95 [.row 1]),(q,.blk 3 cs),(4,.blk 22 [.sl q off n cap])]
structure Qst where
 out:List Bool
 left:List Int
 n:Nat
 off:Nat
 cap:Nat
 cs:List SV
abbrev Qst.ok (x:Qst):Prop:=x.n=x.left.length/\qOk x.left x.off x.cap x.cs/\x.cap<=maxLen/\SV.lowL 0 x.cs=true
abbrev Qst.H (p:Prg) (q:Nat) (x:Qst):Hp:=ndH q p x.out x.n x.off x.cap x.cs
theorem nd_low {p:Prg} {out:List Bool} {n off cap:Nat} {cs:List SV} (h:SV.lowL 0 cs=true):Hp.low 5 (ndH 3 p out n off cap cs)=true:=by
 have:=SV.lowL_mono 5 cs h
 simp [Hp.low,HB.low,SV.lowL,SV.low,this,Nat.blt]
theorem nd_low6 {p:Prg} {r:Rul} {out:List Bool} {n off cap:Nat} {cs:List SV} (h:SV.lowL 0 cs=true):Hp.low 6 ((5,nu r)::ndH 3 p out n off cap cs)=true:=by
 have:=SV.lowL_mono 6 cs h
 simp [Hp.low,HB.low,SV.lowL,SV.low,this,Nat.blt]
theorem nd_low7 {p:Prg} {r:Rul} {out:List Bool} {n off cap:Nat} {cs:List SV} (h:SV.lowL 0 cs=true):Hp.low 7 ((5,nu r)::ndH 6 p out n off cap cs)=true:=by
 have:=SV.lowL_mono 7 cs h
 simp [Hp.low,HB.low,SV.lowL,SV.low,this,Nat.blt]
theorem needs_fn (p:Prg) (pred:Int) (h10:p.arity.length<=10) (h12:p.rules.length<=12) (hp:predsOk p.arity.length p.rules) (hpr:0<=pred/\pred<p.arity.length) :
  Fn 66 [db p,.d (.int .i64 pred)] (λres=>res = .d (.slice 1 ((ud p pred).map bz))):=by
 refine fqE Tryz.func66 ?_;intro O w0 E0 β0;have la:(p.arity.map ah).length=p.arity.length:=Aa _;have lr:(p.rules.map a6).length=p.rules.length:=Aa _;repeat' (first|refine zs ?_|fail)
 refine ds_mk ((An p.arity.length false).map bz) rfl rfl (by rw [la]) rfl rfl rfl rfl rfl rfl (by show 1*_<=_;omega) (by unfold maxLen;omega) (by rw [C2];rfl) rfl rfl ?_;have lf:((An p.arity.length false).map bz).length=p.arity.length:=by simp
 have lf2:(An p.arity.length false).length=p.arity.length:=by simp
 repeat' (first|(refine ds_bs_sl (te:=3) (es:=1) rfl rfl rfl rfl rfl rfl rfl rfl rfl rfl rfl ?_)|(first|refine z0 ?_|apply jj|(apply ke;exact rfl;exact rfl;(apply ig;(omega));exact rfl;exact rfl;(exact j9 rfl);exact rfl;exact rfl;exact rfl;exact rfl;exact rfl;exact rfl)|refine zs ?_|fail))
 refine ak (ι:=Qst×Nat) (λx=>⟨5,[(2,.loc 0 0),(5,.loc 2 0),(6,.loc 4 0)],x.1.H p 3⟩)
  (λx=>x.1.ok/\Ns p.arity.length x.2 (x.1.out,x.1.left)/\ud p pred=nIter p.rules x.2 (x.1.out,x.1.left)/\x.2<=2*p.arity.length+1) (λx=>x.2)
  (⟨(An p.arity.length false).set pred.toNat true,[pred],1,0,1,[svI pred]⟩,2*p.arity.length+1) ⟨⟨rfl,⟨by simp,rfl,by simp⟩,by simp [maxLen],rfl⟩,⟨by simp,?_,?_⟩,rfl,Af _⟩
  (er id) ?_
 ·have h1:((An p.arity.length false).set pred.toNat true).count false+1=(An p.arity.length false).count false:=count_set' (by simp;omega) (by rw [List.getElem?_replicate,if_pos (by omega)]);rw [List.count_replicate_self] at h1;simp only [Bh];omega
 ·intro v hv;simp at hv;subst hv;exact hpr
 rintro⟨⟨out,left,nn,off,cap,cs⟩,m⟩ ⟨⟨gn,g1,gc,gl⟩,g2,g3,gm⟩;dsimp only [Qst.H] at gn g1 gc gl g2 g3 gm ⊢;have lo:(out.map bz).length=out.length:=Aa _;have hm:left.length<=m:=by have:=g2.2.1;dsimp only at this;omega
 subst gn;cases left with
 | nil =>
  repeat' (first|refine zs ?_|fail)
  refine au (cr 4 rfl rfl rfl) ?_;repeat' (apply dv)
  have hr:ud p pred=out:=by rw [g3];cases m<;>rfl
  exact⟨.inl rfl,_,rfl,rfl,by rw [hr];rfl⟩
 | cons n left =>
  obtain⟨m,rfl⟩:∃ m',m=m'+1:=⟨m-1,by simp at hm;omega⟩;have hh:=g1.head;have ht:=g1.tail;have hnn:=g2.2.2 n (Ae ..);rw [nIter] at g3;have h0:Ns p.arity.length m (out,left):=⟨g2.1,by have:=g2.2.1;simp only [Bn] at this ⊢;omega,λv hv=>g2.2.2 v (Ah _ hv)⟩
  have hcap:=g1.2.2;have hlc:((n::left).length:Int)=(left.length:Int)+1:=by simp
  repeat' (first|(refine jo (ev_load_loc (i:=3) rfl rfl rfl rfl hh) rfl rfl ?_)|(first|refine zr ?_|(refine zm ?_ ?_<;>intro hg)|fail))
  all_goals try (exfalso;omega)
  refine ak (ι:=Nat×Qst) (λx=>⟨5,[(2,.loc 0 0),(5,.loc 2 0),(6,.loc 4 0),(7,svI n),(29,.d (.slice 5 (p.rules.map a6))),(30,.d (.int .i64 (p.rules.map a6).length)),(31,.d (.int .i64 x.1))],x.2.H p 3⟩)
   (λx=>x.1<=p.rules.length/\x.2.ok/\Ns p.arity.length m (x.2.out,x.2.left)/\p.rules.foldl (xj n) (out,left)=(p.rules.drop x.1).foldl (xj n) (x.2.out,x.2.left)) (λx=>p.rules.length-x.1)
   (0,⟨out,left,left.length,off+1,cap-1,cs⟩) ⟨Ai _,⟨rfl,ht,by dsimp only;omega,gl⟩,h0,rfl⟩ (ag id ⟨rfl,rfl,rfl,rfl,rfl,rfl,rfl,trivial⟩ ⟨rfl,rfl,rfl,nt gl,rfl,trivial⟩ rfl (nd_low gl) rfl rfl rfl rfl) ?_
  clear h0 ht hh hcap gc lo gl;rintro⟨i,⟨out1,left1,n1,off1,cap1,cs1⟩⟩ ⟨f0,⟨fn,f1,fc,fl⟩,f2,f3⟩;dsimp only [Qst.H] at f0 fn f1 fc fl f2 f3 ⊢;have lo:(out1.map bz).length=out1.length:=Aa _;by_cases hi:i<p.rules.length
  ·repeat' (first|refine zs ?_|refine z21 ?_ (hc:=by apply hangs_fn)|(refine zm ?_ ?_<;>intro hg)|(exfalso;omega))
   all_goals (obtain⟨hp1,hp2⟩:=hp p.rules[i] (Ag hi);rw [Ao hi,A2] at f3;generalize p.rules[i]=r at hp1 hp2 f3 hg ⊢)
   ·rw [show xj n (out1,left1) r=(out1,left1) from if_neg (by assumption)] at f3;exact⟨(i+1,⟨out1,left1,n1,off1,cap1,cs1⟩),⟨by dsimp only;omega,⟨fn,f1,fc,fl⟩,f2,f3⟩,ag id ⟨rfl,rfl,rfl,rfl,rfl,rfl,rfl,trivial⟩ ⟨rfl,rfl,rfl,nt fl,rfl,trivial⟩ rfl (nd_low fl) rfl rfl rfl rfl,by show p.rules.length-(i+1)<p.rules.length-i;omega⟩
   rw [show xj n (out1,left1) r=((r.body.filter c7).drop 0).foldl xk (out1,left1) from if_pos (by omega)] at f3;refine dw_range (ii r) rfl rfl (hangs1_seq r) (hangsX_each r) (by simp) [(2,.loc 0 0),(5,.loc 2 0),(6,.loc 4 0),(7,svI n),(9,.loc 5 0),(29,.d (.slice 5 (p.rules.map a6))),(30,.d (.int .i64 (p.rules.map a6).length)),(31,.d (.int .i64 i))] ⟨rfl,rfl,rfl,rfl,rfl,rfl,rfl,rfl,trivial⟩ rfl
    (ι:=Bool×Qst) (λ_ x=>match x.1 with|false=>(6,(5,nu r)::x.2.H p 3)|true=>(7,(5,nu r)::x.2.H p 6))
    (λj x=>x.2.ok/\Ns p.arity.length m (x.2.out,x.2.left)/\p.rules.foldl (xj n) (out,left)=(p.rules.drop (i+1)).foldl (xj n) (((r.body.filter c7).drop j).foldl xk (x.2.out,x.2.left)))
    (false,⟨out1,left1,n1,off1,cap1,cs1⟩) ⟨⟨fn,f1,fc,fl⟩,f2,f3⟩ rfl ?_ ?_
   ·rintro j hj ⟨b,⟨out2,left2,n2,off2,cap2,cs2⟩⟩ ⟨⟨en,e1,ec,el⟩,e2,e3⟩ O1 w1 E1 β1 l;obtain⟨hj',hx⟩:=hangsX_get hj;rw [hx];dsimp only at en e1 ec el e2 e3 ⊢;have hxm:=Ag hj';obtain⟨hxb,hxh⟩:=List.mem_filter.1 hxm;have hq:=hp2 _ hxb hxh;obtain⟨q1,q2⟩:=hq;rw [Ao hj',A2] at e3;generalize (r.body.filter c7)[j]=x at hxb hxh q1 q2 e3 ⊢;have ll1:(out2.map bz).length=out2.length:=Aa _;have hl1:out2.length=p.arity.length:=e2.1;have hlen2:left2.length<=21:=by have:=e2.2.1;dsimp only at this;omega
    subst en;have hnx:=e2.step (x:=x) ⟨q1,q2⟩;have hgd:out2.getD x.pred.toNat false=out2[x.pred.toNat]'(by omega):=by rw [List.getD,Ab (by omega)];rfl
    have hfit:=e1.1;cases b with
    | false =>
     dsimp only [Qst.H];change DW _ _ _ _ ((42,.d (.bool (m6 r.fold x)))::(41,.d (.int .i64 x.pred))::_) _;repeat' (first|refine zs ?_|fail)
     refine⟨rfl,λO2 w2 E2 β2=>?_⟩
     repeat' (first|refine z0 ?_|apply jj|(apply ke;exact rfl;exact rfl;(apply ig;(omega));exact rfl;exact rfl;(exact j9 rfl);exact rfl;exact rfl;exact rfl;exact rfl;exact rfl;exact rfl)|refine zs ?_|(refine zm ?_ ?_<;>intro hg)|fail)
     ·have hL:xk (out2,left2) x=(out2.set x.pred.toNat true,left2++[x.pred]):=by
       unfold xk;dsimp only;rw [hgd,if_neg (by intro h;rw [h] at hg;cases hg)]
      rw [hL] at e3 hnx;refine ds_append_sl (te:=3) (es:=1) (i:=3) (cs:=cs2) (ys:=[[D.int .i64 x.pred]]) rfl rfl rfl rfl rfl rfl rfl rfl (by omega) rfl (by simp) rfl rfl (by show (left2.length+1)*8<=_;omega) (by show left2.length+1<=_;unfold maxLen;omega) (λhr=>?_) (λc' h1 h2 h3=>?_)
      ·have hr:left2.length+1<=cap2:=hr;repeat' (first|refine zs ?_|fail)
       exact⟨(false,⟨out2.set x.pred.toNat true,left2++[x.pred],left2.length+1,off2,cap2,fm cs2 (off2+left2.length*1) [svI x.pred]⟩),⟨⟨by simp,e1.push hr,ec,mn el rfl⟩,hnx,e3⟩,ag id trivial ⟨rfl,rfl,rfl,rfl,nt (mn el rfl),rfl,trivial⟩ rfl (nd_low6 (mn el rfl)) rfl rfl rfl rfl⟩
      ·have h2:left2.length+1<=c':=h2;repeat' (first|refine zs ?_|fail)
       exact⟨(true,⟨out2.set x.pred.toNat true,left2++[x.pred],left2.length+1,0,c',_⟩),⟨⟨by simp,e1.grow h2,h3,f8 (f8 (ml _ (mo _ el)) rfl) (kn _)⟩,hnx,e3⟩,ag id trivial ⟨rfl,rfl,rfl,rfl,nt (f8 (f8 (ml _ (mo _ el)) rfl) (kn _)),rfl,trivial⟩ rfl (nd_low7 (f8 (f8 (ml _ (mo _ el)) rfl) (kn _))) rfl rfl rfl rfl⟩
     ·have hL:xk (out2,left2) x=(out2,left2):=by
       unfold xk;dsimp only;rw [hgd,if_pos (by simpa using hg)]
      rw [hL] at e3;exact⟨(false,⟨out2,left2,left2.length,off2,cap2,cs2⟩),⟨⟨rfl,e1,ec,el⟩,e2,e3⟩,ag id trivial ⟨rfl,rfl,rfl,rfl,nt el,rfl,trivial⟩ rfl (nd_low6 el) rfl rfl rfl rfl⟩
    | true =>
     dsimp only [Qst.H];change DW _ _ _ _ ((42,.d (.bool (m6 r.fold x)))::(41,.d (.int .i64 x.pred))::_) _;repeat' (first|refine zs ?_|fail)
     refine⟨rfl,λO2 w2 E2 β2=>?_⟩
     repeat' (first|refine z0 ?_|apply jj|(apply ke;exact rfl;exact rfl;(apply ig;(omega));exact rfl;exact rfl;(exact j9 rfl);exact rfl;exact rfl;exact rfl;exact rfl;exact rfl;exact rfl)|refine zs ?_|(refine zm ?_ ?_<;>intro hg)|fail)
     ·have hL:xk (out2,left2) x=(out2.set x.pred.toNat true,left2++[x.pred]):=by
       unfold xk;dsimp only;rw [hgd,if_neg (by intro h;rw [h] at hg;cases hg)]
      rw [hL] at e3 hnx;refine ds_append_sl (te:=3) (es:=1) (i:=6) (cs:=cs2) (ys:=[[D.int .i64 x.pred]]) rfl rfl rfl rfl rfl rfl rfl rfl (by omega) rfl (by simp) rfl rfl (by show (left2.length+1)*8<=_;omega) (by show left2.length+1<=_;unfold maxLen;omega) (λhr=>?_) (λc' h1 h2 h3=>?_)
      ·have hr:left2.length+1<=cap2:=hr;repeat' (first|refine zs ?_|fail)
       exact⟨(true,⟨out2.set x.pred.toNat true,left2++[x.pred],left2.length+1,off2,cap2,fm cs2 (off2+left2.length*1) [svI x.pred]⟩),⟨⟨by simp,e1.push hr,ec,mn el rfl⟩,hnx,e3⟩,ag id trivial ⟨rfl,rfl,rfl,rfl,nt (mn el rfl),rfl,trivial⟩ rfl (nd_low7 (mn el rfl)) rfl rfl rfl rfl⟩
      ·have h2:left2.length+1<=c':=h2;repeat' (first|refine zs ?_|fail)
       exact⟨(true,⟨out2.set x.pred.toNat true,left2++[x.pred],left2.length+1,0,c',_⟩),⟨⟨by simp,e1.grow h2,h3,f8 (f8 (ml _ (mo _ el)) rfl) (kn _)⟩,hnx,e3⟩,ag (λj=>match j with|6=>7|j=>j) trivial ⟨rfl,rfl,rfl,rfl,nt (f8 (f8 (ml _ (mo _ el)) rfl) (kn _)),rfl,trivial⟩ rfl (nd_low7 (f8 (f8 (ml _ (mo _ el)) rfl) (kn _))) rfl rfl rfl rfl⟩
     ·have hL:xk (out2,left2) x=(out2,left2):=by
       unfold xk;dsimp only;rw [hgd,if_pos (by simpa using hg)]
      rw [hL] at e3;exact⟨(true,⟨out2,left2,left2.length,off2,cap2,cs2⟩),⟨⟨rfl,e1,ec,el⟩,e2,e3⟩,ag id trivial ⟨rfl,rfl,rfl,rfl,nt el,rfl,trivial⟩ rfl (nd_low7 el) rfl rfl rfl rfl⟩
   ·rintro⟨b,⟨out2,left2,n2,off2,cap2,cs2⟩⟩ ⟨⟨en,e1,ec,el⟩,e2,e3⟩;rw [hangsX_len,Ax (Af _)] at e3;dsimp only at en e1 ec el e2 e3 ⊢;cases b with
    | false =>
     repeat' (first|refine zs ?_|fail)
     exact⟨(i+1,⟨out2,left2,n2,off2,cap2,cs2⟩),⟨by dsimp only;omega,⟨en,e1,ec,el⟩,e2,e3⟩,ag id ⟨rfl,rfl,rfl,rfl,rfl,rfl,rfl,trivial⟩ ⟨rfl,rfl,rfl,nt el,rfl,trivial⟩ rfl (nd_low el) rfl rfl rfl rfl,by show p.rules.length-(i+1)<p.rules.length-i;omega⟩
    | true =>
     repeat' (first|refine zs ?_|fail)
     exact⟨(i+1,⟨out2,left2,n2,off2,cap2,cs2⟩),⟨by dsimp only;omega,⟨en,e1,ec,el⟩,e2,e3⟩,ag (λj=>match j with|3=>6|j=>j) ⟨rfl,rfl,rfl,rfl,rfl,rfl,rfl,trivial⟩ ⟨rfl,rfl,rfl,nt el,rfl,trivial⟩ rfl (nd_low el) rfl rfl rfl rfl,by show p.rules.length-(i+1)<p.rules.length-i;omega⟩
  ·rw [Ax (by omega)] at f3;repeat' (first|refine zs ?_|(refine zm ?_ ?_<;>intro hg)|(exfalso;omega))
   rw [f3] at g3;exact⟨(⟨out1,left1,n1,off1,cap1,cs1⟩,m),⟨⟨fn,f1,fc,fl⟩,f2,g3,by dsimp only;omega⟩,ag id ⟨rfl,rfl,rfl,trivial⟩ ⟨rfl,rfl,rfl,nt fl,rfl,trivial⟩ rfl (nd_low fl) rfl rfl rfl rfl,by show m<m+1;omega⟩
end
section
open Go Go.RowKit
variable [Bnds]
section
variable {Γ : Ctx} {k : Nat} {L : Sl} {H H' : Hp}
theorem r6 (i o j:Nat) {es:Nat} {te tb:TypeId} {cs:List SV} {xs' xs:List (List D)} {H1:Hp} (ho:OwnsLL xs' xs) (hj:Hp.get H j=some (.row te es xs')) (hD:delF H j some=some H1) (hH:Hp.get H1 i=some (.blk tb cs)) (hc:cs[o]?=some (.row j))
  (hS:setF H1 i (.blk tb (cs.set o (.d (.own Bnds.B (.slice es xs))))) some=some H'):Ent Γ k L H k L H':=by
 rw [pt] at hD;cases hD;rw [oo] at hS;cases hS;intro e a w m;obtain⟨m2,_⟩:=m.del j;have habove:∀ b,(e.η j).ownBlock=some b->Bnds.B<=b:=λb hb=>m.above b (List.mem_filterMap.2 ⟨_,Hp.mem_of hj,hb⟩)
 have hrow:=RepC.owned ho habove (qk m hj);refine⟨_,m2.turn hH (Af _) rfl rfl rfl (λ_=>Af _) (λ_ _ _=>rfl) rfl ?_⟩
 obtain⟨vs,h1,h2,h3⟩:=(m2.heap _ (Hp.mem_of hH)).2;refine⟨vs,h1,?_,h3⟩
 obtain⟨v,g1,g2⟩:=RelL.get cs vs h2 o (.row j) hc;have:=RelL.set cs vs h2 o (.d (.own Bnds.B (.slice es xs))) v (by rw [g2.2.1];exact hrow)
 rwa [r9 g1] at this
theorem ef (i o es:Nat) {tb:TypeId} {cs:List SV} (hH:Hp.get H i=some (.blk tb cs)) (hc:cs[o]?=some .nils) (hS:setF H i (.blk tb (cs.set o (.d (.own Bnds.B (.slice es []))))) some=some H'):Ent Γ k L H k L H':=by
 rw [oo] at hS;cases hS;intro e a w m;refine⟨_,m.turn hH (Af _) rfl rfl rfl (λ_=>Af _) (λ_ _ _=>rfl) rfl ?_⟩
 obtain⟨vs,h1,h2,h3⟩:=(m.heap _ (Hp.mem_of hH)).2;refine⟨vs,h1,?_,h3⟩
 obtain⟨v,g1,g2⟩:=RelL.get cs vs h2 o .nils hc;have g2:v = .slice none 0 0:=g2;have:=RelL.set cs vs h2 o (.d (.own Bnds.B (.slice es []))) v (by rw [g2];exact RepC.own .nil)
 rwa [r9 g1] at this
end
end
end Go.Proofs.YtapciiffpnociadGreat
