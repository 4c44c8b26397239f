/- Several texts in one: MoA MoB MoC MoD MoE VwD GxPick VwE VwF StrG. Condition: none. -/
import Derived.Test.YtapciiffpnociadGreatT25
set_option maxHeartbeats 8000000
open List renaming drop_eq_getElem_cons→Am,drop_of_length_le→As,filter_cons→B7,getElem?_eq_getElem→Ad,getElem_mem→Aj,length_append→Af,length_map→Aa,length_singleton→Au,length_take→Aq,map_append→Ar,mem_append_left→Ax,mem_cons_of_mem→Ag,mem_cons_self→Ac,mem_map_of_mem→Ej,mem_singleton→A1,take_of_length_le→Ai
open Nat renaming beq→Aw,le_trans→A5,not_lt_zero→A9,zero_le→Ak
namespace Go.Proofs.YtapciiffpnociadGreat
section
open Go Go.RowKit
abbrev elW (w:List Int):SV:=.d (.slice 1 (w.map aq))
attribute [local irreducible] DW DS DL DQ Ev FnOk FnP ef bt DT
theorem uca (r:Rul) (f:Fct) (w:List Int) (hw:∀ t∈r.terms,okT w.length t) (hl:r.terms.length<=3) (hf:f.args.length=r.terms.length):Fn 280 ([elW w]++[.pd [.int .i64 r.pred,.slice 2 (r.terms.map av),.int .i64 r.fold,.slice 4 (r.body.map ay),.int .i64 r.vars],.pd [.int .i64 (kW r)],.pd (ae f)]) (λres=>res = .d (.bool (isW r f w))):=by
 refine fqE Tryz.func280 ?_;intro O w0 E0 β0;have hk:=kW_le r;have l1:(r.terms.map av).length=r.terms.length:=Aa _;have l2:(f.args.map aq).length=f.args.length:=Aa _;have w1:=args_fn (r.terms.take (kW r)) w (λt ht=>hw t (List.mem_of_mem_take ht)) (by rw [Aq];omega);have w2:=equalI_fn ((aW r w).take (kW r)) (f.args.take (kW r));rw [show (r.terms.take (kW r)).map (vA w)=(aW r w).take (kW r) by unfold aW;rw [List.map_take]] at w1;repeat' (first|refine zr ?_|refine z22 ?_ (hc:=by apply w1)|refine z22 ?_ (hc:=by apply w2)|(exfalso;omega))
 exact a7 rfl rfl
theorem uas {f:FuncId} {caps:List SV} (p:List Int->Bool) (l:List (List Int)) (hcap:SV.lowL 0 caps=true) (hp:∀ x∈l,Fn f (elW x::caps) (λr=>r = .d (.bool (p x)))):Fn 209 [.d (.slice 1 (l.map ey)),.fn f caps] (λr=>r = .d (.int .i64 (kr p l))):=by
 refine fqE Tryz.func209 ?_;intro O w0 E0 β0;refine cp (t:=0) rfl λhb=>?_
 repeat' (first|refine zs ?_|fail)
 refine ag (ι:=Nat) (λi=>⟨0,[(0,.d (.slice 1 (l.map ey))),(1,.fn f caps),(7,.d (.int .i64 l.length)),(8,.d (.int .i64 i))],[]⟩)
  (λi=>i<=l.length/\∀ j (hj:j<l.length),j<i->p l[j]=false) (λi=>l.length-i) 0 ⟨Ak _,λj _ h=>absurd h (A9 j)⟩
  (ai id ⟨rfl,congrArg (SV.fn f) (SV.renL_id caps).symm,by simp;rfl,rfl,trivial⟩ trivial (by simp [Sl.low,SV.low,hcap]) rfl rfl rfl rfl rfl) ?_
 rintro i ⟨h1,h2⟩;repeat' (first|refine zs ?_|fail)
 refine bf rfl (λh=>?_) (λh=>?_)
 ·have hi:i<l.length:=by omega
  have hpx:=hp l[i] (Aj hi);repeat' (first|refine zs ?_|(apply ki;exact rfl;exact rfl;exact rfl;exact rfl;apply hpx;exact rfl;(assumption);exact rfl;rintro _ rfl))
  refine d7 rfl (λhb=>?_) (λhb=>?_)
  ·repeat' (first|refine zr ?_|fail)
   exact a6 rfl (jp h2 hi hb).symm
  ·repeat' (first|refine zs ?_|fail)
   exact⟨i+1,⟨hi,gz h2 hi hb⟩,ai id ⟨rfl,congrArg (SV.fn f) (SV.renL_id caps).symm,rfl,rfl,trivial⟩ trivial (by simp [Sl.low,SV.low,hcap]) rfl rfl rfl rfl rfl,by omega⟩
 ·repeat' (first|refine zr ?_|fail)
  exact a6 rfl (ja λj hj=>h2 j hj (by omega)).symm
theorem ucq (r:Rul) (f:Fct) (ways:List (List Int)) (hw:∀ w∈ways,∀ t∈r.terms,okT w.length t) (hl:r.terms.length<=3) (hf:f.args.length=r.terms.length) (h0:r.fold≠0->0<r.terms.length) (hex:∃ w∈ways,isW r f w=true) (hwl:∀ w∈ways,w.length<=1000) :
  Fn 255 [vf r,fi f,.d (.slice 1 (ways.map ey))] (λres=>res = .d (.slice 1 ((vp r f ways).map aq))):=by
 refine fqE Tryz.func255 ?_;intro O w0 E0 β0;have l1:(r.terms.map av).length=r.terms.length:=Aa _;have lw:(ways.map ey).length=ways.length:=Aa _;obtain⟨wm,wi⟩:=wayOf_mem hex;have hlt:ways.findIdx (isW r f)<ways.length:=by
  obtain⟨w,hw,h⟩:=hex;exact List.findIdx_lt_length_of_exists ⟨w,hw,h⟩
 have hidx:kr (isW r f) ways=(ways.findIdx (isW r f):Int):=by
  unfold kr;rw [List.findIdx?_eq_some_iff_findIdx_eq.2 ⟨hlt,rfl⟩]
 have hget:ways[ways.findIdx (isW r f)]=vp r f ways:=by unfold vp;rw [List.getD_eq_getElem?_getD,Ad hlt];rfl
 have w3:=uas (isW r f) ways rfl (λw hw'=>uca r f w (hw w hw') hl hf);rw [hidx] at w3;have w4:=cloneI_fn (vp r f ways) (by have:=hwl _ wm;omega);rw [<- hget] at w4;repeat' ((fail_if_success (apply eo 4));(first|refine zs ?_|(refine zm ?_ ?_<;>intro hg)|fail))
 ·have hk:((kW r:Nat):Int)=((r.terms.map av).length:Int)-1:=by
   unfold kW;rw [if_neg (by assumption),l1];have:=h0 (by assumption)
   omega
  refine ak (io (ds:=[.int .i64 r.pred,.slice 2 (r.terms.map av),.int .i64 r.fold,.slice 4 (r.body.map ay),.int .i64 r.vars]) 3 0 rfl rfl) ?_;refine ak (io (ds:=[.int .i64 (kW r)]) 7 2 rfl (by rw [hk];rfl)) ?_;refine ak (io (ds:=ae f) 4 1 rfl rfl) ?_;repeat' (first|refine zr ?_|refine z21 ?_ (hc:=by apply w3)|refine z21 ?_ (hc:=by apply w4)|(exfalso;omega))
  rw [<- hget];exact⟨.inl rfl,_,rfl,rfl,rfl⟩
 ·have hk:((kW r:Nat):Int)=((r.terms.map av).length:Int):=by
   unfold kW;rw [if_pos (by simp_all),l1]
  refine ak (io (ds:=[.int .i64 r.pred,.slice 2 (r.terms.map av),.int .i64 r.fold,.slice 4 (r.body.map ay),.int .i64 r.vars]) 3 0 rfl rfl) ?_;refine ak (io (ds:=[.int .i64 (kW r)]) 7 2 rfl (by rw [hk];rfl)) ?_;refine ak (io (ds:=ae f) 4 1 rfl rfl) ?_;repeat' (first|refine zr ?_|refine z21 ?_ (hc:=by apply w3)|refine z21 ?_ (hc:=by apply w4)|(exfalso;omega))
  rw [<- hget];exact⟨.inl rfl,_,rfl,rfl,rfl⟩
def ucr (s:Stp):List D:=[.int .i64 s.fact.pred,.slice 1 (s.fact.args.map aq),.int .i64 s.rule,.slice 1 (s.vars.map aq)]
abbrev bldH (p:Prg) (S:List Fct) (hw:List Stp):Hp :=
 [(0,.blk 206 [.d (.slice 1 (p.arity.map aq)),.d (.slice 1 (p.names.map oq)),.d (.slice 5 (p.rules.map dj)),.d (.slice 2 (S.map ae)),.row 1]),(1,.row 187 4 (hw.map ucr))]
theorem ubh (p:Prg) (n:Nat) (hn:n<p.rules.length) (ways:List (List Int)) (heads S:List Fct) (hw:List Stp) (hr:RulR p.arity p.rules[n]) (hl:p.rules[n].terms.length<=3)
  (hwok:∀ w∈ways,(∀ t∈p.rules[n].terms,okT w.length t)/\w.length<=1000) (hh:∀ f∈heads,f.args.length=p.rules[n].terms.length/\∃ w∈ways,isW p.rules[n] f w=true)
  (hS:Strict S) (hSl:S.length<=60) (hhl:heads.length<=2000) (hwl:hw.length<=100000) (hSa:∀ x∈S,x.args.length<=3) :
  FnOk false Tryz.prog tab b9 208 [.loc 0 0,.d (.int .i64 n),.d (.slice 2 (heads.map ae)),.d (.slice 1 (ways.map ey))] 1 2 (bldH p S hw)
   (λk2 r H2=>k2=2/\r = .d (.bool (mi p.rules[n] n ways heads S hw).1)/\H2=bldH p (mi p.rules[n] n ways heads S hw).2.1 (mi p.rules[n] n ways heads S hw).2.2):=by
 refine frE Tryz.func208 ?_;intro O w0 E0 β0;have lr:(p.rules.map dj).length=p.rules.length:=Aa _;have lh:(heads.map ae).length=heads.length:=Aa _;repeat' (first|refine zs ?_|(exfalso;omega))
 refine ag (ι:=Nat×List Fct×List Stp) (λc=>⟨3,[(0,.loc 0 0),(1,.d (.int .i64 n)),(3,.d (.slice 1 (ways.map ey))),(8,.d (.bool false)),(9,.loc 2 0),(20,.d (.slice 2 (heads.map ae))),(21,.d (.int .i64 heads.length)),(22,.d (.int .i64 c.1))],
   (2,.blk 64 [.d (.int .i64 p.rules[n].pred),.d (.slice 2 (p.rules[n].terms.map av)),.d (.int .i64 p.rules[n].fold),.d (.slice 4 (p.rules[n].body.map ay)),.d (.int .i64 p.rules[n].vars)])::bldH p c.2.1 c.2.2⟩)
  (λc=>c.1<=heads.length/\mi p.rules[n] n ways heads S hw=mi p.rules[n] n ways (heads.drop c.1) c.2.1 c.2.2/\Strict c.2.1/\c.2.1.length<=60/\c.2.2.length<=100000+c.1/\∀ x∈c.2.1,x.args.length<=3) (λc=>heads.length-c.1) (0,S,hw) ⟨Ak _,rfl,hS,hSl,hwl,hSa⟩
  (ai id ⟨rfl,rfl,rfl,rfl,rfl,rfl,by rw [<- lh];rfl,rfl,trivial⟩ ⟨rfl,rfl,rfl,trivial⟩ rfl rfl rfl rfl rfl rfl) ?_
 rintro⟨i,S',hw'⟩ ⟨g1,g2,g3,g4,g5,g6⟩;dsimp only at g1 g2 g3 g4 g5 g6 ⊢;by_cases hi:i<heads.length
 ·have hm:=Aj hi;obtain⟨q1,q2⟩:=hh _ hm;have w1:=in_fn S' heads[i] (by omega) g3;have w2:=union_fn S' [heads[i]] (by rw [Au];omega) (λx hx=>by have:=g6 x hx;omega) (λx hx=>by rw [A1] at hx;subst hx;omega);have w3:=ucq p.rules[n] heads[i] ways (λw hw=>(hwok w hw).1) hl q1 (λhf=>(hr.folded hf).1) q2 (λw hw=>(hwok w hw).2);have lS:(S'.map ae).length=S'.length:=Aa _;have lhw:(hw'.map ucr).length=hw'.length:=Aa _;rw [Am hi,mi] at g2;repeat' (first|refine zr ?_|refine z22 ?_ (hc:=by apply w1)|refine z22 ?_ (hc:=by apply w2)|refine z22 ?_ (hc:=by apply w3)|(refine zm ?_ ?_<;>intro hg)|(exfalso;omega))
  ·rw [if_pos (by assumption)] at g2;exact⟨(i+1,S',hw'),⟨hi,g2,g3,g4,by dsimp only;omega,g6⟩,er id,by dsimp only;omega⟩
  ·rw [if_neg (by simp_all),if_pos (by omega)] at g2;exact⟨.inl rfl,_,rfl,kp id 2 _ (bldH p S' hw') ⟨rfl,by rw [g2],by rw [g2]⟩⟩
  ·rw [if_neg (by simp_all),if_neg (by omega)] at g2;obtain⟨s1,s2⟩:=bp (S'++[heads[i]]);have hle:=j8 (S'++[heads[i]]);rw [Af,Au] at hle;refine⟨(i+1,a8 (S'++[heads[i]]),hw'++[⟨heads[i],n,vp p.rules[n] heads[i] ways⟩]),⟨hi,g2,s1,by dsimp only;omega,by dsimp only;rw [Af,Au];omega,λx hx=>?_⟩,
    ai (λj=>match j with|1=>17|j=>j) ⟨rfl,rfl,rfl,rfl,rfl,rfl,rfl,rfl,trivial⟩ ⟨rfl,rfl,by dsimp only;rw [Ar];rfl,trivial⟩ rfl rfl rfl rfl rfl rfl,by dsimp only;omega⟩
   rcases List.mem_append.1 ((s2 x).1 hx) with hx|hx
   ·exact g6 x hx
   ·rw [A1] at hx;subst hx;omega
 ·rw [As (by omega)] at g2;repeat' (first|refine zr ?_|(refine zm ?_ ?_<;>intro hg)|(exfalso;omega))
  exact⟨.inl rfl,_,rfl,kp id 2 _ (bldH p S' hw') ⟨rfl,by rw [g2,mi],by rw [g2,mi]⟩⟩
theorem ucs {given S:List Fct} {hw:List Stp} (h:HwOk given S hw):hw.length<=S.length:=by
 have:=mq h.nodup (b:=S) λx hx=>by
  obtain⟨g,hg,rfl⟩:=List.mem_map.1 hx;exact (h.all _).2 (.inr ⟨g,hg,rfl⟩)
 rw [Aa] at this;exact this
theorem ucb {p:Prg} (hp:PrgR p) {x:Fct} (h:FctOk p.arity x):x.args.length<=3:=by
 have:=h.len
 have:=(hp.ar x.pred.toNat).2
 omega
def udi (p:Prg) (lv:List Int) (n:Nat) (S1 S:List Fct) (i:Nat):Prop :=
 ∀ j (hj:j<p.rules.length),j<i->lv.getD (p.rules[j]).pred.toNat 0=n->∃ S0,Strict S0/\(∀ x∈S1,x∈S0)/\(∀ x∈S0,x∈S)/\manyW S0 p.rules[j]=true/\∀ x∈hdW S0 p.rules[j],x∈S
theorem udi.more {p:Prg} {lv:List Int} {n:Nat} {S1 S S':List Fct} {i:Nat} (h:udi p lv n S1 S i) (hs:∀ x∈S,x∈S') (hi:i<p.rules.length)
  (hn:lv.getD (p.rules[i]).pred.toNat 0=n->∃ S0,Strict S0/\(∀ x∈S1,x∈S0)/\(∀ x∈S0,x∈S')/\manyW S0 p.rules[i]=true/\∀ x∈hdW S0 p.rules[i],x∈S'):udi p lv n S1 S' (i+1):=by
 intro j hj hji hl;by_cases he:j=i
 ·subst he;exact hn hl
 ·obtain⟨S0,a,b,c,d,e⟩:=h j hj (by omega) hl;exact⟨S0,a,b,λx hx=>hs x (c x hx),d,λx hx=>hs x (e x hx)⟩
theorem uat {p:Prg} {lv:List Int} {n:Nat} {given m0 S1 S:List Fct} {hw:List Stp} (hb:BldOk p lv n given m0 S hw) (h1:Strict S1) (hs:∀ x∈S1,x∈S) (hr:udi p lv n S1 S p.rules.length) (hl:S.length<=S1.length):Fit (lvV p lv n m0) m0 S:=by
 have he:=same_len h1 hb.inv.strict hs hl;subst he;have key:∀ r∈(lvV p lv n m0).rs,manyW S1 r=true/\∀ x∈hdW S1 r,x∈S1:=by
  intro r hr';obtain⟨hm,hn⟩:=List.mem_filter.1 hr';have hn:=of_decide_eq_true hn;obtain⟨j,hj,rfl⟩:=List.mem_iff_getElem.1 hm;obtain⟨S0,a,b,c,d,e⟩:=hr j hj hj hn;have:S0=S1:=j7 a h1 λx=>⟨c x,b x⟩
  subst this;exact⟨d,e⟩
 exact s6 hb.inv (λr hr=>(key r hr).1) λr hr=>(key r hr).2
theorem ubi (p:Prg) (lv:List Int) (n:Nat) (given m0:List Fct) (hw:List Stp) (hp:PrgR p) (hlv:LvFit p lv) (hb:BldOk p lv n given m0 m0 hw) :
  FnOk false Tryz.prog tab b9 150 [.loc 0 0,.d (.slice 1 (lv.map aq)),.d (.int .i64 n)] 1 2 (bldH p m0 hw)
   (λk2 r H2=>k2=2/\∃ S' hw',H2=bldH p S' hw'/\((r = .d (.bool true)/\Fit (lvV p lv n m0) m0 S'/\BldOk p lv n given m0 S' hw')∨(r = .d (.bool false)/\¬ ∃ M,Fit (lvV p lv n m0) m0 M))):=by
 refine frE Tryz.func150 ?_;intro O w0 E0 β0;have lr:(p.rules.map dj).length=p.rules.length:=Aa _;have llv:(lv.map aq).length=lv.length:=Aa _;have hrl:=hp.rlen;repeat' (first|refine zs ?_|fail)
 refine ag (ι:=Int×List Fct×List Stp) (λc=>⟨2,[(0,.loc 0 0),(1,.d (.slice 1 (lv.map aq))),(2,.d (.int .i64 n)),(6,.d (.bool false)),(7,.d (.int .i64 c.1))],bldH p c.2.1 c.2.2⟩)
  (λc=>BldOk p lv n given m0 c.2.1 c.2.2/\(c.1 = -1∨∃ S1,c.1=(S1.length:Int)/\Strict S1/\(∀ x∈S1,x∈c.2.1)/\udi p lv n S1 c.2.1 p.rules.length)) (λc=>2*(61-c.2.1.length)+if c.1<c.2.1.length then 1 else 0) (-1,m0,hw) ⟨hb,.inl rfl⟩
  (er id) ?_
 rintro⟨many,S,hw1⟩ ⟨g1,g2⟩;dsimp only at g1 g2 ⊢;have lS:(S.map ae).length=S.length:=Aa _;have hS60:=g1.inv.len;repeat' (first|refine zr ?_|(refine zm ?_ ?_<;>intro hg)|fail)
 ·refine ag (ι:=Nat×List Fct×List Stp) (λc=>⟨2,[(0,.loc 0 0),(1,.d (.slice 1 (lv.map aq))),(2,.d (.int .i64 n)),(6,.d (.bool false)),(7,.d (.int .i64 S.length)),(28,.d (.slice 5 (p.rules.map dj))),(29,.d (.int .i64 p.rules.length)),(30,.d (.int .i64 c.1))],bldH p c.2.1 c.2.2⟩)
   (λc=>c.1<=p.rules.length/\BldOk p lv n given m0 c.2.1 c.2.2/\(∀ x∈S,x∈c.2.1)/\udi p lv n S c.2.1 c.1) (λc=>p.rules.length-c.1) (0,S,hw1) ⟨Ak _,g1,λ_ h=>h,λj _ h=>absurd h (A9 j)⟩
   (ai id ⟨rfl,rfl,rfl,rfl,by rw [<- lS];rfl,rfl,by rw [<- lr];rfl,rfl,trivial⟩ ⟨rfl,rfl,trivial⟩ rfl rfl rfl rfl rfl rfl) ?_
  rintro⟨i,S2,hw2⟩ ⟨q1,q2,q3,q4⟩;dsimp only at q1 q2 q3 q4 ⊢;by_cases hi:i<p.rules.length
  ·have hr:=hp.rul _ (Aj hi);have hpr:=hr.pred;have hlvl:=hlv.len;have hgd:lv.getD (p.rules[i]).pred.toNat 0=lv[(p.rules[i]).pred.toNat]'(by omega):=by rw [List.getD,Ad (by omega)];rfl
   have hS2:=q2.inv.len;have hok:=raw_ok hr hp.ar q2.inv.a.1 q2.inv.strict.nodup;have w1:=raw_fn S2 p.rules[i] q2.inv.strict (by omega) (rl hr hp.ar q2.inv.a.1);have w2:=made_fn p.arity p.rules[i] (fm S2 p.rules[i]) hok;by_cases hlev:lv.getD (p.rules[i]).pred.toNat 0=n
   ·have hrs:p.rules[i]∈(lvV p lv n m0).rs:=List.mem_filter.2 ⟨Aj hi,decide_eq_true hlev⟩;cases hmm:manyW S2 p.rules[i] with
    | false =>
     rw [hmm] at w1;clear w2;rw [hgd] at hlev;repeat' (first|refine zr ?_|refine z22 ?_ (hc:=by apply w1)|(refine zm ?_ ?_<;>intro hg)|(exfalso;omega))
     exact⟨.inl rfl,_,rfl,kp id 2 _ (bldH p S2 hw2) ⟨rfl,S2,hw2,rfl,.inr ⟨rfl,no_many (lvV_ok hp hlv n m0) q2.inv hrs hmm⟩⟩⟩
    | true =>
     rw [hmm] at w1;rw [hgd] at hlev;repeat' (first|refine zs ?_|refine z22 ?_ (hc:=by apply w1)|refine z21 ?_ (hc:=by apply w2)|(refine zm ?_ ?_<;>intro hg)|(exfalso;omega))
     clear w1 w2;have hhd:∀ f∈hdW S2 p.rules[i],f.args.length=p.rules[i].terms.length/\∃ w∈fm S2 p.rules[i],isW p.rules[i] f w=true:=λf hf=>head_way (((bp _).2 f).1 hf) λhf=>(hr.folded hf).1
     have hhl:(hdW S2 p.rules[i]).length<=2000:=by
      refine A5 (j8 _) ?_;rw [qa];exact A5 (List.length_filterMap_le _ _) hok.many
     have wt:=ubh p i hi (fm S2 p.rules[i]) (hdW S2 p.rules[i]) S2 hw2 hr hok.tlen (λw hw=>⟨hok.terms hw,by rw [hok.len w hw];have:=hr.vars;omega⟩) hhd q2.inv.strict hS2 hhl (by have:=ucs q2.hwk;omega) (λx hx=>ucb hp (q2.inv.a.1 x hx));obtain⟨t1,t2⟩:=take_spec hp hlv hi (hgd.trans hlev) q2 hmm (hdW S2 p.rules[i]) S2 hw2 (λ_ h=>h) q2 (λ_ h=>h) (λ_ h=>h) (Nat.le_refl _);generalize mi p.rules[i] i (fm S2 p.rules[i]) (hdW S2 p.rules[i]) S2 hw2=res at wt t1 t2;obtain⟨ok,S3,hw3⟩:=res;dsimp only at wt t1 t2;(refine bg id (wt) rfl rfl rfl rfl ⟨rfl,rfl,trivial⟩ rfl rfl rfl rfl rfl rfl ?_ ?_)
     ·rintro k2 r H2 ⟨rfl,rfl,rfl⟩;exact⟨rfl,rfl⟩
     rintro k2 r H2 ⟨rfl,rfl,rfl⟩;change DS _ _ _ _ _ _ _ _;cases ok with
     | false =>
      repeat' (first|refine zr ?_|(exfalso;omega))
      exact⟨.inl rfl,_,rfl,kp (λj=>match j with|1=>4|j=>j) 2 _ (bldH p S3 hw3) ⟨rfl,S3,hw3,rfl,.inr ⟨rfl,t2 rfl⟩⟩⟩
     | true =>
      obtain⟨a1,a2,a3,a4⟩:=t1 rfl;repeat' (first|refine zs ?_|(exfalso;omega))
      exact⟨(i+1,S3,hw3),⟨hi,a1,λx hx=>a2 x (q3 x hx),q4.more a2 hi λ_=>⟨S2,q2.inv.strict,q3,a2,hmm,a3⟩⟩,er (λj=>match j with|1=>4|j=>j),by dsimp only;omega⟩
   ·rw [hgd] at hlev;clear w1 w2;repeat' (first|refine zs ?_|(refine zm ?_ ?_<;>intro hg)|(exfalso;omega))
    exact⟨(i+1,S2,hw2),⟨hi,q2,q3,q4.more (λ_ h=>h) hi λh=>absurd (hgd.symm.trans h) hlev⟩,er id,by dsimp only;omega⟩
  ·have hil:i=p.rules.length:=by omega
   subst hil;repeat' (first|refine zs ?_|(refine zm ?_ ?_<;>intro hg)|(exfalso;omega))
   have hlen:S.length<=S2.length:=mq g1.inv.strict.nodup q3;have hS2:=q2.inv.len;refine⟨((S.length:Int),S2,hw2),⟨q2,.inr ⟨S,rfl,g1.inv.strict,q3,q4⟩⟩,er id,?_⟩
   dsimp only;rw [if_pos (by omega:many<(S.length:Int))];split<;>omega
 ·rcases g2 with g2|⟨S1,e1,e2,e3,e4⟩
  ·exfalso;omega
  ·exact⟨.inl rfl,_,rfl,kp id 2 _ (bldH p S hw1) ⟨rfl,S,hw1,rfl,.inl ⟨rfl,uat g1 e2 e3 e4 (by omega),g1⟩⟩⟩
theorem ubj {p:Prg} {lv:List Int} {n:Nat} {given m0:List Fct} {hw:List Stp} (hp:PrgR p) (hl:LvFit p lv) (hm:∀ x∈m0,FctOk p.arity x) (hs:Strict m0) (h:HwM p lv n given hw m0) {T:List Fct} (hT:Good (lvV p lv n m0) m0 T):HwM p lv (n+1) given hw T:=by
 intro i s hsi;have h1:=h i s hsi;have hr:=hp.rul _ (Aj h1.hi);obtain⟨_,e2⟩:=same_ways hr hp.ar hT.a.1 hm hT.strict.nodup hs.nodup λl hlb hk x hx=>hT.a.2 x (by
  have h2:=hl.fit _ (Aj h1.hi) l hlb hk;have h3:0<=kv (p.rules[s.rule.toNat]'h1.hi).fold l:=by unfold kv;split<;>omega
  have h4:=h1.level;rw [hx];omega)
 refine⟨h1.lo,h1.hi,by have:=h1.level;omega,by rw [e2];exact h1.way,?_,h1.is,h1.ahead⟩
 unfold hdW;rw [e2];exact h1.head
theorem uau {p:Prg} {lv:List Int} {n:Nat} {given m0:List Fct} {hw:List Stp} (hp:PrgR p) (hl:LvFit p lv) (hm:∀ x∈m0,FctOk p.arity x) (hs:Strict m0) (hlen:m0.length<=60) (hk:HwOk given m0 hw) (h:HwM p lv n given hw m0):BldOk p lv n given m0 m0 hw :=
 ⟨n5 hs ⟨hm,λ_ _=>Iff.rfl⟩ hlen,hk,λ_ hT=>ubj hp hl hm hs h hT⟩
theorem ubk (given:List Fct):HwOk given (a8 given) [] :=
 ⟨λx=>by rw [(bp given).2];simp,by simp,λ_ h=>by simp at h⟩
theorem ubl {p:Prg} {lv:List Int} {given:List Fct} {n N:Nat} {m:List Fct} (hn:n<N) (h:RunTo p lv given n m) (hno:¬ ∃ M,Fit (lvV p lv n m) m M):¬ ∃ M,RunTo p lv given N M:=by
 rintro⟨M,hM⟩;have hN:n+1+(N-(n+1))=N:=by omega
 rw [<- hN] at hM;obtain⟨m1,m',h1,h2⟩:=RunTo.back hM;have:=h1.unique h
 subst this;exact hno ⟨m1,h2⟩
theorem ubm (p:Prg) (lv:List Int) (l:List Fct) (hp:PrgR p) (hlv:LvFit p lv) (hl:l.length<=60) (hf:∀ x∈l,FctOk p.arity x) :
  Fn 95 [gu p,.d (.slice 1 (lv.map aq)),.d (.slice 2 (l.map ae))]
   (λr=>∃ (m:List Fct) (hw:List Stp) (b:Bool),r = .tup [.d (.slice 2 (m.map ae)),.d (.slice 4 (hw.map ucr)),.d (.bool b)] /\
    ((b=true/\RunTo p lv l p.arity.length m/\HwOk l m hw/\HwM p lv p.arity.length l hw m)∨(b=false/\m=[]/\hw=[]/\¬ ∃ m,RunTo p lv l p.arity.length m))):=by
 refine fqE Tryz.func95 ?_;intro O w0 E0 β0;have la:(p.arity.map aq).length=p.arity.length:=Aa _;have hal:=hp.alen;have ws:=set_fn l (by omega) (λx hx=>by have:=ucb hp (hf x hx);omega);repeat' ((fail_if_success (apply eo 2));(first|refine zs ?_|refine z22 ?_ (hc:=by apply ws)|fail))
 refine ak (kg 5 4 187 4 rfl rfl rfl) ?_;repeat' (first|refine zs ?_|fail)
 refine ag (ι:=Nat×List Fct×List Stp) (λc=>⟨3,[(1,.d (.slice 1 (lv.map aq))),(9,.loc 0 0),(18,.d (.int .i64 p.arity.length)),(19,.d (.int .i64 c.1))],
   (2,.blk 26 [.d (.slice 1 (p.arity.map aq)),.d (.slice 1 (p.names.map oq)),.d (.slice 5 (p.rules.map dj))])::bldH p c.2.1 c.2.2⟩)
  (λc=>c.1<=p.arity.length/\RunTo p lv l c.1 c.2.1/\HwOk l c.2.1 c.2.2/\HwM p lv c.1 l c.2.2 c.2.1) (λc=>p.arity.length-c.1) (0,a8 l,[]) ⟨Ak _,rfl,ubk l,λi h hi=>by simp at hi⟩
  (ai (λj=>match j with|0=>5|1=>7|_=>0) ⟨rfl,rfl,by rw [<- la];rfl,rfl,trivial⟩ ⟨rfl,rfl,rfl,trivial⟩ rfl rfl rfl rfl rfl rfl) ?_
 rintro⟨n,S,hw⟩ ⟨g1,g2,g3,g4⟩;dsimp only at g1 g2 g3 g4 ⊢;obtain⟨s1,s2,s3,s4⟩:=RunTo.ok hf hl g2;have lS:(S.map ae).length=S.length:=Aa _;by_cases hn:n<p.arity.length
 ·have hb:=uau hp hlv s3 s1 s2 g3 g4;have wl:=ubi p lv n l S hw hp hlv hb;repeat' (first|refine zr ?_|(refine zm ?_ ?_<;>intro hg)|(exfalso;omega))
  (refine bg id (wl) rfl rfl rfl rfl ⟨rfl,rfl,trivial⟩ rfl rfl rfl rfl rfl rfl ?_ ?_)
  ·rintro k2 r H2 ⟨rfl,S',hw',rfl,⟨rfl,_⟩|⟨rfl,_⟩⟩
   ·exact⟨rfl,rfl⟩
   ·exact⟨rfl,rfl⟩
  rintro k2 r H2 ⟨rfl,S',hw',rfl,⟨rfl,hfit,hb2⟩|⟨rfl,hno⟩⟩
  ·change DS _ _ _ _ _ _ _ _;repeat' (first|refine zs ?_|(exfalso;omega))
   exact⟨(n+1,S',hw'),⟨hn,⟨S,g2,hfit⟩,hb2.hwk,by have:=hb2.stp S' hfit.good;exact this⟩,er (λj=>match j with|1=>4|j=>j),by dsimp only;omega⟩
  ·change DS _ _ _ _ _ _ _ _;repeat' (first|refine zs ?_|(exfalso;omega))
   refine ak (cr 6 2 rfl) ?_;refine ak (cr 7 4 rfl) ?_;repeat' (first|refine zr ?_|fail)
   exact⟨.inl rfl,_,rfl,rfl,[],[],false,rfl,.inr ⟨rfl,rfl,rfl,ubl hn g2 hno⟩⟩
 ·have hnn:n=p.arity.length:=by omega
  subst hnn;repeat' (first|refine zs ?_|(refine zm ?_ ?_<;>intro hg)|(exfalso;omega))
  refine ak (bh 7 rfl rfl rfl) ?_;repeat' (apply c9)
  exact⟨.inl rfl,_,rfl,rfl,S,hw,true,by rw [lS,decide_eq_true (by omega:(S.length:Int)<=60)];rfl,.inl ⟨rfl,g2,g3,g4⟩⟩
theorem ubn {p:Prg} {l:List Fct}:rg p l=if levE p≠0 then levE p else qz p.arity l:=by
 unfold rg levE;by_cases h:dc cz p=0
 ·rw [h];cases q8 p<;>simp
 ·simp [h]
theorem uav (p:Prg) (l:List Fct):Fn 62 [gu p,.d (.slice 2 (l.map ae))] (λr=>r = .d (.int .i64 (qz p.arity l))):=by
 refine fqE Tryz.func62 ?_;intro O w0 E0 β0;have ll:(l.map ae).length=l.length:=Aa _;refine cp (t:=1) rfl λhk=>?_
 unfold qz;by_cases h2:60<l.length
 ·rw [if_pos h2];repeat' (first|refine zr ?_|(refine zm ?_ ?_<;>intro hg)|(exfalso;omega))
  all_goals exact⟨.inl rfl,_,rfl,rfl,rfl⟩
 ·rw [if_neg h2];repeat' (first|refine zr ?_|(refine zm ?_ ?_<;>intro hg)|(exfalso;omega))
  refine ag (ι:=Nat) (λi=>⟨1,[(2,.loc 0 0),(11,.d (.slice 2 (l.map ae))),(12,.d (.int .i64 l.length)),(13,.d (.int .i64 i))],[(0,.blk 26 [.d (.slice 1 (p.arity.map aq)),.d (.slice 1 (p.names.map oq)),.d (.slice 5 (p.rules.map dj))])]⟩)
   (λi=>i<=l.length/\bm (e8 p.arity) l=bm (e8 p.arity) (l.drop i)) (λi=>l.length-i) 0 ⟨Ak _,rfl⟩ (ai id ⟨rfl,rfl,by rw [<- ll];rfl,rfl,trivial⟩ ⟨rfl,trivial⟩ rfl rfl rfl rfl rfl rfl) ?_
  rintro i ⟨g1,g2⟩;dsimp only at g1 g2 ⊢;by_cases hi:i<l.length
  ·rw [ga hi] at g2;have w2:=fright_fn p l[i];by_cases h3:e8 p.arity l[i]≠0
   ·rw [if_pos h3] at g2;rw [g2];repeat' (first|refine zr ?_|refine z21 ?_ (hc:=by apply w2)|(refine zm ?_ ?_<;>intro hg)|(exfalso;omega))
    all_goals exact⟨.inl rfl,_,rfl,rfl,rfl⟩
   ·rw [if_neg h3] at g2;repeat' (first|refine zr ?_|refine z21 ?_ (hc:=by apply w2)|(refine zm ?_ ?_<;>intro hg)|(exfalso;omega))
    exact⟨i+1,⟨hi,g2⟩,er id,by omega⟩
  ·rw [ir (by omega)] at g2;rw [g2];repeat' (first|refine zr ?_|(refine zm ?_ ?_<;>intro hg)|(exfalso;omega))
   all_goals exact⟨.inl rfl,_,rfl,rfl,rfl⟩
theorem ucc (p:Prg) (l:List Fct) :
  Fn 48 [gu p,.d (.slice 2 (l.map ae))]
   (λr=>∃ (m:List Fct) (hw:List Stp) (e:Int),r = .tup [.d (.slice 2 (m.map ae)),.d (.slice 4 (hw.map ucr)),.d (.int .i64 e)]/\ModelR p l e m/\(e=0->HwOk l m hw/\HwM p (fa p) p.arity.length l hw m)):=by
 refine fqE Tryz.func48 ?_;intro O w0 E0 β0;have w1:=levels_fn p;have w2:=uav p l;by_cases h0:rg p l=0
 ·have ho:=mOk h0;have hE:levE p=0:=by unfold levE;rw [if_neg (by rw [ho.prog];simp),ho.doc];rfl
  have hL:levL p=fa p:=by unfold levL;rw [if_pos ⟨ho.prog,ho.doc⟩]
  have hF:qz p.arity l=0:=by rw [ubn,if_neg (by rw [hE];simp)] at h0;exact h0
  rw [hE,hL] at w1;rw [hF] at w2;have w3:=ubm p (fa p) l ho.pr ho.fit ho.len ho.facts;repeat' (first|refine zs ?_|refine z21 ?_ (hc:=by apply w1)|refine z21 ?_ (hc:=by apply w2)|(exfalso;omega))
  apply yz;exact rfl;exact rfl;exact w3;exact rfl;exact rfl;exact rfl;rintro _ ⟨m,hw,b,rfl,⟨rfl,q1,q2,q3⟩|⟨rfl,rfl,rfl,q1⟩⟩
  ·clear w1 w2 w3;repeat' (first|refine zr ?_|(exfalso;omega))
   exact⟨.inl rfl,_,rfl,rfl,m,hw,0,rfl,.ok m h0 q1,λ_=>⟨q2,q3⟩⟩
  ·clear w1 w2 w3;repeat' (first|refine zs ?_|(exfalso;omega))
   refine ak (cr 4 2 rfl) ?_;refine ak (cr 5 4 rfl) ?_;repeat' (first|refine zr ?_|fail)
   exact⟨.inl rfl,_,rfl,rfl,[],[],2,rfl,.much h0 q1,λh=>absurd h (by simp)⟩
 ·have hE:=ubn (p:=p) (l:=l);have hb:ModelR p l (rg p l) []:=.bad h0;by_cases hl:levE p=0
  ·rw [if_neg (by rw [hl];simp)] at hE;rw [hl] at w1;rw [hE] at h0 hb;generalize qz p.arity l=e at *;repeat' (first|refine zs ?_|refine z21 ?_ (hc:=by apply w1)|refine z21 ?_ (hc:=by apply w2)|(refine zm ?_ ?_<;>intro hg)|(exfalso;omega))
   refine ak (cr 4 2 rfl) ?_;refine ak (cr 5 4 rfl) ?_;repeat' (first|refine zr ?_|fail)
   exact⟨.inl rfl,_,rfl,rfl,[],[],e,rfl,hb,λh=>absurd h h0⟩
  ·rw [if_pos hl] at hE;rw [hE] at h0 hb;generalize levE p=e at *;repeat' (first|refine zs ?_|refine z21 ?_ (hc:=by apply w1)|refine z21 ?_ (hc:=by apply w2)|(refine zm ?_ ?_<;>intro hg)|(exfalso;omega))
   refine ak (cr 4 2 rfl) ?_;refine ak (cr 5 4 rfl) ?_;repeat' (first|refine zr ?_|fail)
   exact⟨.inl rfl,_,rfl,rfl,[],[],e,rfl,hb,λh=>absurd h h0⟩
theorem ubo (p:Prg) (l:List Fct) (e:Int) (m:List Fct) (hm:ModelR p l e m):Fn 10 [gu p,.d (.slice 2 (l.map ae))] (λr=>r = .tup [.d (.slice 2 (m.map ae)),.d (.int .i64 e)]):=by
 refine fqE Tryz.func10 ?_;intro O w0 E0 β0;have w1:=ucc p l;repeat' (first|refine zs ?_|fail)
 apply yz;exact rfl;exact rfl;exact w1;exact rfl;exact rfl;exact rfl;rintro _ ⟨m',hw,e',rfl,q1,_⟩;obtain⟨rfl,rfl⟩:=q1.unique hm;repeat' (first|refine zr ?_|fail)
 exact⟨.inl rfl,_,rfl,rfl,rfl⟩
theorem RpGood.bounds {r:Rpl} (h:RpGood r):(r.has.flatMap Upd.takes).length<=1200/\(r.has.flatMap Upd.says).length<=1200/\(saidF r).length<=1200:=by
 have hl:=h.len;have hf:=flat_len Upd.takes 6 r.has λu hu=>(pu (h.each u (Ax _ hu))).2.2
 have hs:=flat_len Upd.says 6 r.has λu hu=>(pu (h.each u (Ax _ hu))).2.1
 have hd:=wj r.has r.has.length;rw [Ai (Nat.le_refl _)] at hd;have hk:((keptU r.has).flatMap Upd.says).length<=(r.has.flatMap Upd.says).length:=hd;have hS:=j8 ((keptU r.has).flatMap Upd.says);refine⟨by omega,by omega,?_⟩
 unfold saidF;omega
theorem ucd (p:Prg) (sn:List Fct) (r:Rpl) (hg:RpGood r):FnOk false Tryz.prog tab b9 138 [.loc 0 0] 1 3 (vwH p sn r) (λk res H=>k=3/\res = .d (.int .i64 (mdl p (cq p r)).1)/\H=vwH p (mdl p (cq p r)).2 r):=by
 refine frE Tryz.func138 ?_;intro O w0 E0 β0;obtain⟨b1,b2,b3⟩:=hg.bounds;have hl:=hg.len;have ws:=saidV_fn r (by omega) (by omega) (by omega) (λu hu f hf=>(qh (hg.each u (Ax _ hu))).args f hf);have hS:a8 ((keptU r.has).flatMap Upd.says)=saidF r:=rfl;rw [hS] at ws;have hq:cq p r=(saidF r).filter λf=>decide (e8 p.arity f=0):=rfl
 generalize cq p r=q at *;generalize saidF r=S at *;have lS:(S.map ae).length=S.length:=Aa _;repeat' (first|refine zs ?_|fail)
 refine bg (λj=>j+1) ws rfl rfl rfl rfl ⟨rfl,rfl,trivial⟩ rfl rfl rfl rfl rfl rfl ?_ ?_
 ·rintro k2 res H2 ⟨rfl,rfl,rfl⟩;exact⟨rfl,rfl⟩
 rintro k2 res H2 ⟨rfl,rfl,rfl⟩;change DS _ _ _ _ _ _ _ _;clear ws;repeat' (first|refine zs ?_|fail)
 refine ak (cd (t:=3) 37 2 rfl) ?_;refine ag (ι:=Nat) (λi=>⟨4,[(0,.loc 0 0),(3,.row 3),(12,.d (.slice 2 (S.map ae))),(13,.d (.int .i64 (S.map ae).length)),(14,.d (.int .i64 i))],
   [(0,vwB p sn),(1,.row 82 5 (r.has.map aa)),(2,.row 82 5 (r.waits.map aa)),(3,.row 37 2 (((S.take i).filter λf=>decide (e8 p.arity f=0)).map ae))]⟩)
  (λi=>i<=S.length) (λi=>S.length-i) 0 (Ak _) (er id) ?_
 intro i gi;by_cases hi:i<S.length
 ·have wr:=fright_fn p S[i];have lo:((S.take i).filter λf=>decide (e8 p.arity f=0)).length<=i:=A5 (List.length_filter_le _ _) (by rw [Aq];omega);have hst:((S.take (i+1)).filter λf=>decide (e8 p.arity f=0))=((S.take i).filter λf=>decide (e8 p.arity f=0))++([S[i]].filter λf=>decide (e8 p.arity f=0)):=by rw [List.take_succ_eq_append_getElem hi,List.filter_append]
  by_cases he:e8 p.arity S[i]=0
  ·rw [he] at wr;have hf:([S[i]].filter λf=>decide (e8 p.arity f=0))=[S[i]]:=by rw [B7,if_pos (by simpa using he)];rfl
   rw [hf] at hst;repeat' (first|refine zs ?_|refine z22 ?_ (hc:=by apply wr)|(refine zm ?_ ?_<;>intro hg)|(exfalso;omega))
   exact⟨i+1,hi,ai (λj=>match j with|3=>_|j=>j) ⟨rfl,rfl,rfl,rfl,rfl,trivial⟩ ⟨rfl,rfl,rfl,by rw [hst,Ar];rfl,trivial⟩ rfl rfl rfl rfl rfl rfl,by omega⟩
  ·have hf:([S[i]].filter λf=>decide (e8 p.arity f=0))=[]:=by rw [B7,if_neg (by simpa using he)];rfl
   rw [hf,List.append_nil] at hst;repeat' (first|refine zs ?_|refine z22 ?_ (hc:=by apply wr)|(refine zm ?_ ?_<;>intro hg)|(exfalso;omega))
   exact⟨i+1,hi,ai id ⟨rfl,rfl,rfl,rfl,rfl,trivial⟩ ⟨rfl,rfl,rfl,by rw [hst];rfl,trivial⟩ rfl rfl rfl rfl rfl rfl,by omega⟩
 ·rw [Ai (by omega),<- hq];have wm:=ubo p q _ _ (mdl_is p q);generalize mdl p q=x at *;refine ak (bh 3 rfl rfl rfl) ?_;repeat' (first|refine zr ?_|refine z21 ?_ (hc:=by apply wm)|(refine zm ?_ ?_<;>intro hg)|(exfalso;omega))
  exact⟨.inl rfl,_,rfl,kp id 3 (.d (.int .i64 x.1)) (vwH p x.2 r) ⟨rfl,rfl,rfl⟩⟩
end
section
open Go Go.RowKit
theorem Oper.wp_mono2 {P:Program} {o:Oper} {a:Act} {w:World} {K K':Act->World->Prop} {Q Q':Exit->Act->World->Prop} (h:∀ a w,K a w->K' a w) (hp:∀ c a w,Q (.panic c) a w->Q' (.panic c) a w) (hl:LetsOut Q->LetsOut Q')
  (hh:o.wp P a w K Q):o.wp P a w K' Q':=by
 unfold Oper.wp at *;generalize (execOp a.eval o).run P w=r at *;cases r with
 | ok n w' =>
  cases n<;>simp only [Oper.upon] at hh ⊢ <;>
   first
    | exact h _ _ hh
    | exact Calls.mono hh (λe w'' he=>by cases e<;>first|exact h _ _ he|exact hp _ _ _ he|exact hl he)
    | exact Rows.mono hh (λ_ _ he=>h _ _ he)
    | exact hl hh
    | exact hh
 | halt x w'=>cases x<;>simp only [Oper.upon] at hh ⊢<;>first|exact hp _ _ _ hh|exact hl hh|exact hh
def uct (o:Oper) (done:List Nat):Bool:=o.after.toList.all λe=>!(Region.binds .any e) || done.any (Aw e.on)
def nv (done:List Nat):Nat->List Oper->List (Nat×Oper)
 | _,[]=>[]
 | i,o::l=>match !(done.any (Aw i)) && uct o done with
  | true=>(i,o)::nv done (i+1) l
  | false=>nv done (i+1) l
theorem ual {done:List Nat} {j:Nat} {o:Oper}:∀ (l:List Oper) (i:Nat),l[j]?=some o->done.any (Aw (i+j))=false->uct o done=true->(i+j,o)∈nv done i l
 | [],_,h,_,_=>by simp at h
 | p::l,i,h,hd,hn=>by
  unfold nv;cases j with
  | zero =>
   have:p=o:=by simpa using h
   subst this;rw [Nat.add_zero] at hd;rw [hd,hn];exact Ac ..
  | succ j =>
   have h1:=ual (done:=done) (j:=j) (o:=o) l (i+1) (by simpa using h) (by rw [show i+1+j=i+(j+1) by omega];exact hd) hn;rw [show i+1+j=i+(j+1) by omega] at h1;split
   ·exact Ag _ h1
   ·exact h1
def allQ {α:Type} (p:α->Prop):List α->Prop
 | []=>True
 | [x]=>p x
 | x::y::l=>p x/\allQ p (y::l)
theorem ubp {α:Type} {p:α->Prop} {x:α}:∀ {l:List α},allQ p l->x∈l->p x
 | [],_,h=>by simp at h
 | [y],hp,h=>by
  rw [A1] at h
  subst h
  exact hp
 | y::z::l,hp,h=>by
  rcases List.mem_cons.1 h with rfl|h
  ·exact hp.1
  ·exact ubp hp.2 h
def DP (Γ:Ctx) (l:List Oper) (K:cy):Nat->List Nat->cy
 | 0,_=>K
 | n+1,done=>λk L H=>allQ (λp=>DS false Γ l [p.2] (DP Γ l K n (p.1::done)) k L H) (nv done 0 l)
section
variable {Γ : Ctx} {l : List Oper} {K : cy}
theorem ubq:∀ (n:Nat) (listed:Array Bool) (done:List Nat) (k:Nat) (L:Sl) (H:Hp) (e:Env) (a:Act) (w:World),listed.size=l.length->xn listed=n->(∀ j,listed.getD j false=done.any (Aw j))->Models Γ (lo k) L H e a w->DP Γ l K n done k L H->ka l=true ->
  wpAny Γ.P .any l.toArray (vh Γ (fh K)) n listed a w
 | 0,listed,done,k,L,H,e,a,w,hs,hc,hd,m,h,_=>by
  have hr:Region.ready .any l.toArray listed=[]:=List.eq_nil_iff_forall_not_mem.2 λj hj=>by
   obtain⟨h1,o,ho,_⟩:=mem_ready.1 hj;have hj:j<listed.size:=by rw [hs];have:=(Array.getElem?_eq_some_iff.1 ho).1;simpa using this
   rw [left_zero hc j hj] at h1;cases h1
  exact⟨hr,.inl ⟨k,L,H,e,m,rfl,h⟩⟩
 | n+1,listed,done,k,L,H,e,a,w,hs,hc,hd,m,h,hdn=>by
  refine⟨λhr=>?_,λi hi=>?_⟩
  ·exfalso;have hall:=ready_all hs hdn hr;have:xn listed=0:=by
    unfold xn;rw [List.countP_eq_zero];intro b hb;obtain⟨j,hj⟩:=List.mem_iff_getElem?.1 hb;have hj2:listed[j]?=some b:=by simpa using hj
    have hjs:j<listed.size:=(Array.getElem?_eq_some_iff.1 hj2).1;have h1:=hall j (by rw [<- hs];exact hjs);rw [Array.getD_eq_getD_getElem?,hj2] at h1;simpa using h1
   omega
  ·obtain⟨h1,o,ho,hall⟩:=mem_ready.1 hi;have hio:l[i]?=some o:=by simpa using ho
   have hj:i<listed.size:=by rw [hs];exact (List.getElem?_eq_some_iff.1 hio).1
   have hlt:=left_set hj h1;have hnd:done.any (Aw i)=false:=by rw [<- hd,<- jc hj];exact h1
   have hneed:uct o done=true:=by
    unfold uct;rw [List.all_eq_true];intro e he;cases hb:Region.binds .any e with
    | false=>rfl
    | true =>
     have:=hall e (by simpa using he) hb
     rw [hd] at this;simpa using this
   have hp:=ubp h (ual l 0 hio (by rw [Nat.zero_add];exact hnd) hneed);rw [Nat.zero_add] at hp;have hp:DL Γ l [o] (DP Γ l K n (i::done)) k L H:=hp;have h2:=hp e a w m;have hset:∀ j,(listed.setIfInBounds i true).getD j false=(i::done).any (Aw j):=by
    intro j;rw [getD_set hj,List.any_cons,hd j];by_cases hij:i=j
    ·subst hij;simp
    ·rw [if_neg hij];have:Aw j i=false:=by
      cases hb:Aw j i with
      | false=>rfl
      | true=>exact absurd (Nat.eq_of_beq_eq_true hb).symm hij
     rw [this,Bool.false_or]
   have key:∀ a' w',wpList Γ.P l.toArray (vh Γ (fh (DP Γ l K n (i::done)))) [] a' w'->wpAny Γ.P .any l.toArray (vh Γ (fh K)) n (listed.setIfInBounds i true) a' w':=by
    rintro a' w' (⟨k',L',H',e',m',_,hq⟩|⟨v,k',L',H',e',hx,_⟩)
    ·exact ubq n _ (i::done) k' L' H' e' a' w' (by simp [hs]) (by omega) hset m' hq hdn
    ·cases hx
   unfold wpList at h2;unfold wpOp;rw [ho];simp only;split at h2
   ·rename_i hw;rw [if_pos hw];have hlo:LetsOut (vh Γ (fh (DP Γ l K n (i::done))))->LetsOut (vh Γ (fh K)):=λh=>absurd h (ik (Γ:=Γ) (K:=DP Γ l K n (i::done)))
    refine h2.imp (λh2=>Oper.wp_mono2 key ?_ hlo h2) (λh2=>⟨h2.1,hlo h2.2⟩);rintro c a' w' (⟨_,_,_,_,_,hx,_⟩|hf)
    ·cases hx
    ·exact .inr hf
   ·rename_i hw;rw [if_neg hw];exact key _ _ h2
theorem uaw {done:List Nat} {q:Nat×Oper}:∀ (l:List Oper) (i:Nat),q∈nv done i l->i<=q.1/\l[q.1-i]?=some q.2
 | [],_,h=>by simp [nv] at h
 | o::l,i,h=>by
  unfold nv at h
  have hrec:q∈nv done (i+1) l->i<=q.1/\(o::l)[q.1-i]?=some q.2:=λh=>by
   obtain⟨h1,h2⟩:=uaw l (i+1) h
   refine⟨by omega,?_⟩
   rw [show q.1-i=(q.1-(i+1))+1 by omega,List.getElem?_cons_succ]
   exact h2
  split at h
  ·rcases List.mem_cons.1 h with rfl|h
   ·simp
   ·exact hrec h
  ·exact hrec h
theorem uce {α:Type} {p:α->Prop}:∀ {l:List α},(∀ x∈l,p x)->allQ p l
 | [],_=>trivial
 | [x],h=>h x (Ac ..)
 | x::_::_,h=>⟨h x (Ac ..),uce λz hz=>h z (Ag _ hz)⟩
theorem ucu {done:List Nat} {k:Nat} {L:Sl} {H:Hp} (h:K k L H):DP Γ l K 0 done k L H:=h
theorem n9 {n i:Nat} {o:Oper} {done:List Nat} {k:Nat} {L:Sl} {H:Hp} (hr:(nv done 0 l).map (·.1)=[i]) (ho:l[i]?=some o) (h:DS false Γ l [o] (DP Γ l K n (i::done)) k L H):DP Γ l K (n+1) done k L H :=
 uce λq hq=>by
  have h1:q.1∈(nv done 0 l).map (·.1):=Ej hq
  obtain⟨_,h2⟩:=uaw l 0 hq
  rw [hr,A1] at h1
  rw [Nat.sub_zero,h1,ho] at h2
  cases h2
  rw [h1]
  exact h
theorem ucv {n i j:Nat} {o o':Oper} {done:List Nat} {k:Nat} {L:Sl} {H:Hp} (hr:(nv done 0 l).map (·.1)=[i,j]) (ho:l[i]?=some o) (ho':l[j]?=some o') (h:DS false Γ l [o] (DP Γ l K n (i::done)) k L H) (h':DS false Γ l [o'] (DP Γ l K n (j::done)) k L H) :
  DP Γ l K (n+1) done k L H :=
 uce λq hq=>by
  have h1:q.1∈(nv done 0 l).map (·.1):=Ej hq
  obtain⟨_,h2⟩:=uaw l 0 hq
  rw [hr] at h1
  rw [Nat.sub_zero] at h2
  rcases List.mem_cons.1 h1 with h1|h1
  ·rw [h1,ho] at h2
   cases h2
   rw [h1]
   exact h
  ·rw [A1] at h1
   rw [h1,ho'] at h2
   cases h2
   rw [h1]
   exact h'
theorem uax {id k:Nat} {L:Sl} {H:Hp} {e:Env} {a:Act} {w:World} (hm:Γ.P.follows .mixedOrders=true) (hB:ka l=true) (hnd:d6 l=true) (h:DP Γ l K l.length [] k L H) (mm:Models Γ (lo k) L H e a w) :
  (Code.region id l.toArray true).wpIn (mz Γ.rd) 0 Γ.P (vh Γ (fh K)) a w:=by
 refine wpIn_region_any hm (vm (ik (Γ:=Γ) (K:=K)) hnd _ _ _ _ ?_);have m0:=mm.below (w':={ w with drawn:=w.drawn+1 }) ((Beld.refl _ _ _).drew);have hsz:l.toArray.size=l.length:=by simp
 rw [hsz];refine ubq l.length _ [] k L H e a _ (by simp) (by simp [xn,List.countP_replicate]) (λj=>?_) m0 h hB;rw [m7];rfl
theorem ubr {id k:Nat} {L:Sl} {H:Hp} {Q:gh} (k2:Nat) (L2:Sl) (H2:Hp) (hm:Γ.P.follows .mixedOrders=true) (hB:ka l=true) (hnd:d6 l=true) (h:DP Γ l (λk L H=>Ent Γ k L H k2 L2 H2) l.length [] k L H) (hk:Q .normal k2 L2 H2) :
  DW Γ (.region id l.toArray true) Q k L H:=λ_ _ _ mm=>wpIn_mono (uax hm hB hnd h mm) λx a' w' hx=>by
 rcases hx with ⟨k',L',H',e',m',rfl,hE⟩|hf
 ·obtain⟨e2,m2⟩:=hE e' a' w' m'
  exact .inl ⟨k2,L2,H2,e2,m2,hk⟩
 ·exact .inr hf
end
abbrev vwN (p:Prg) (r:Rpl):Hp:=[(0,.blk 136 [.row 1,.row 2,.d (.slice 1 (p.arity.map aq)),.d (.slice 1 (p.names.map oq)),.d (.slice 5 (p.rules.map dj)),.nils]),(1,.row 82 5 (r.has.map aa)),(2,.row 82 5 (r.waits.map aa))]
attribute [local irreducible] DW DS DL DQ Ev FnOk FnP ef bt DP
theorem ucf (p:Prg) (r:Rpl) (h1:r.has.length<=4398046511104) (h2:r.waits.length<=4398046511104) :
  FnOk false Tryz.prog tab b9 78 [gu p,jf r] 0 0 [] (λk res H=>(dc cz p=0/\dp r=0/\k=3/\res = .tup [.loc 0 0,.d (.int .i64 (mdl p (cq p r)).1)]/\H=vwH p (mdl p (cq p r)).2 r)∨(¬ (dc cz p=0/\dp r=0)/\k=0/\res = .tup [.val (.pointer none),.d (.int .i64 (if dc cz p≠0 then dc cz p else dp r))]/\H=[])):=by
 refine frE Tryz.func78 ?_;intro O w0 E0 β0;have w1:=scheck_fn p;have w2:=dcheck_fn r (by omega) (by omega);by_cases hp:dc cz p=0
 ·rw [hp] at w1;by_cases hr:dp r=0
  ·rw [hr] at w2;have hg:=RpGood.of hr;have wl:=ucd p [] r hg;have hgl:=hg.len;have wo:=dOwn_fn r (by omega) (by omega) (λu hu=>qh (hg.each u (Ax _ hu))) (λu hu=>qh (hg.each u (List.mem_append_right _ hu)));repeat' ((fail_if_success (apply bk 6));(first|refine zs ?_|refine z21 ?_ (hc:=by apply w1)|refine z21 ?_ (hc:=by apply w2)|fail))
   all_goals try (exfalso;omega)
   refine ubr 3 [(7,.loc 0 0)] (vwH p [] r) (by kernel_rfl) (by kernel_rfl) rfl ?_ ?_;rotate_left
   ·repeat' ((fail_if_success (apply bk 6));(first|refine zs ?_|fail))
    refine bg id wl rfl rfl rfl rfl ⟨rfl,rfl,rfl,trivial⟩ rfl rfl rfl rfl rfl rfl ?_ ?_
    ·rintro k2 res H2 ⟨rfl,rfl,rfl⟩;exact⟨rfl,rfl⟩
    rintro k2 res H2 ⟨rfl,rfl,rfl⟩;change DS _ _ _ _ _ _ _ _;repeat' (first|refine zr ?_|fail)
    exact⟨.inl rfl,_,rfl,kp (λj=>match j with|1=>4|2=>5|j=>j) 3 (.tup [.loc 0 0,.d (.int .i64 (mdl p (cq p r)).1)]) (vwH p (mdl p (cq p r)).2 r) (.inl ⟨hp,hr,rfl,rfl,rfl⟩)⟩
   refine ucv rfl rfl rfl ?_ ?_
   ·repeat' ((fail_if_success (apply bk 6));(first|refine zs ?_|fail))
    refine ucv rfl rfl rfl ?_ ?_
    ·refine bg id wo rfl rfl rfl rfl trivial rfl rfl rfl rfl rfl rfl ?_ ?_
     ·rintro k2 res H2 ⟨rfl,rfl,rfl⟩;exact⟨rfl,rfl⟩
     rintro k2 res H2 ⟨rfl,rfl,rfl⟩;change DS _ _ _ _ _ _ _ _;repeat' ((fail_if_success (apply bk 6));(apply gy))
     refine n9 rfl rfl ?_;repeat' ((fail_if_success (apply bk 6));(first|refine zs ?_|fail))
     refine n9 rfl rfl ?_;repeat' ((fail_if_success (apply bk 6));(first|refine zs ?_|fail))
     refine n9 rfl rfl ?_;repeat' ((fail_if_success (apply bk 6));(first|refine zs ?_|fail))
     refine n9 rfl rfl ?_;repeat' ((fail_if_success (apply bk 6));(first|refine zs ?_|fail))
     refine ucu ?_;exact mr (ai (k':=3) (L':=[(7,.loc 0 0)]) (H':=vwN p r) (λj=>match j with|0=>4|1=>2|2=>3|j=>j) ⟨rfl,trivial⟩ ⟨rfl,rfl,rfl,trivial⟩ rfl rfl rfl rfl rfl rfl) (bi 0 5 2 rfl rfl rfl)
    ·repeat' ((fail_if_success (apply bk 6));(first|refine zs ?_|fail))
     refine n9 rfl rfl ?_;refine bg id wo rfl rfl rfl rfl trivial rfl rfl rfl rfl rfl rfl ?_ ?_
     ·rintro k2 res H2 ⟨rfl,rfl,rfl⟩;exact⟨rfl,rfl⟩
     rintro k2 res H2 ⟨rfl,rfl,rfl⟩;change DS _ _ _ _ _ _ _ _;repeat' ((fail_if_success (apply bk 6));(apply gy))
     refine n9 rfl rfl ?_;repeat' ((fail_if_success (apply bk 6));(first|refine zs ?_|fail))
     refine n9 rfl rfl ?_;repeat' ((fail_if_success (apply bk 6));(first|refine zs ?_|fail))
     refine n9 rfl rfl ?_;repeat' ((fail_if_success (apply bk 6));(first|refine zs ?_|fail))
     refine ucu ?_;exact mr (ai (k':=3) (L':=[(7,.loc 0 0)]) (H':=vwN p r) (λj=>match j with|0=>4|1=>2|2=>3|j=>j) ⟨rfl,trivial⟩ ⟨rfl,rfl,rfl,trivial⟩ rfl rfl rfl rfl rfl rfl) (bi 0 5 2 rfl rfl rfl)
   ·repeat' ((fail_if_success (apply bk 6));(first|refine zs ?_|fail))
    refine n9 rfl rfl ?_;repeat' ((fail_if_success (apply bk 6));(first|refine zs ?_|fail))
    refine n9 rfl rfl ?_;refine bg id wo rfl rfl rfl rfl trivial rfl rfl rfl rfl rfl rfl ?_ ?_
    ·rintro k2 res H2 ⟨rfl,rfl,rfl⟩;exact⟨rfl,rfl⟩
    rintro k2 res H2 ⟨rfl,rfl,rfl⟩;change DS _ _ _ _ _ _ _ _;repeat' ((fail_if_success (apply bk 6));(apply gy))
    refine n9 rfl rfl ?_;repeat' ((fail_if_success (apply bk 6));(first|refine zs ?_|fail))
    refine n9 rfl rfl ?_;repeat' ((fail_if_success (apply bk 6));(first|refine zs ?_|fail))
    refine n9 rfl rfl ?_;repeat' ((fail_if_success (apply bk 6));(first|refine zs ?_|fail))
    refine ucu ?_;exact mr (ai (k':=3) (L':=[(7,.loc 0 0)]) (H':=vwN p r) (λj=>match j with|0=>4|1=>2|2=>3|j=>j) ⟨rfl,trivial⟩ ⟨rfl,rfl,rfl,trivial⟩ rfl rfl rfl rfl rfl rfl) (bi 0 5 2 rfl rfl rfl)
  ·repeat' (first|refine zr ?_|refine z21 ?_ (hc:=by apply w1)|refine z21 ?_ (hc:=by apply w2)|(refine zm ?_ ?_<;>intro hg)|(exfalso;omega))
   exact⟨.inl rfl,_,rfl,kp id 0 (.tup [.val (.pointer none),.d (.int .i64 (dp r))]) ([]) (.inr ⟨λh=>hr h.2,rfl,by rw [if_neg (show ¬ dc cz p≠0 from λh=>h hp)],rfl⟩)⟩
 ·repeat' (first|refine zr ?_|refine z21 ?_ (hc:=by apply w1)|refine z21 ?_ (hc:=by apply w2)|(refine zm ?_ ?_<;>intro hg)|(exfalso;omega))
  exact⟨.inl rfl,_,rfl,kp id 0 (.tup [.val (.pointer none),.d (.int .i64 (dc cz p))]) ([]) (.inr ⟨λh=>hp h.1,rfl,by rw [if_pos hp],rfl⟩)⟩
attribute [local irreducible] DT
theorem ubs (p:Prg) (r:Rpl) (h1:r.has.length<=4398046511104) (h2:r.waits.length<=4398046511104):Fn 31 [gu p,jf r] (λres=>res = .tup [.d (.slice 2 ((openV p r).1.map ae)),.d (.int .i64 (openV p r).2)]):=by
 refine fqE Tryz.func31 ?_;intro O w0 E0 β0;have wo:=ucf p r h1 h2;have hn:=openV_none (p:=p) (r:=r);have hd:openV p r=if dc cz p≠0 then ([],dc cz p) else if dp r≠0 then ([],dp r) else ((mdl p (cq p r)).2,(mdl p (cq p r)).1):=rfl
 generalize openV p r=o at *;obtain⟨s,e⟩:=o;repeat' (first|refine zs ?_|fail)
 refine bg id wo rfl rfl rfl rfl trivial rfl rfl rfl rfl rfl rfl ?_ ?_
 ·rintro k2 res H2 (⟨_,_,rfl,rfl,rfl⟩|⟨_,rfl,rfl,rfl⟩)<;>exact⟨rfl,rfl⟩
 rintro k2 res H2 (⟨hp,hr,rfl,rfl,rfl⟩|⟨hpr,rfl,rfl,rfl⟩)
 ·rw [if_neg (by simpa using hp),if_neg (by simpa using hr)] at hd;generalize mdl p (cq p r)=x at *;obtain⟨xe,xs⟩:=x;cases hd;dsimp only at hn;clear wo;change DS _ _ _ _ _ _ _ _;by_cases he:xe=0
  ·subst he;repeat' (first|refine zr ?_|(exfalso;omega))
   exact⟨.inl rfl,_,rfl,rfl,rfl⟩
  ·have hm:=hn he;subst hm;repeat' (first|refine zs ?_|(refine zm ?_ ?_<;>intro hg)|(exfalso;omega))
   refine ak (cr 4 2 rfl) ?_;repeat' (first|refine zr ?_|fail)
   exact⟨.inl rfl,_,rfl,rfl,rfl⟩
 ·clear wo;change DS _ _ _ _ _ _ _ _;have hx:s=[]/\e=(if dc cz p≠0 then dc cz p else dp r)/\e≠0:=by
   by_cases hp:dc cz p=0
   ·have hr:dp r≠0:=λh=>hpr ⟨hp,h⟩
    rw [if_neg (by simpa using hp),if_pos hr] at hd;cases hd;exact⟨rfl,by rw [if_neg (by simpa using hp)],hr⟩
   ·rw [if_pos hp] at hd;cases hd;exact⟨rfl,by rw [if_pos hp],hp⟩
  obtain⟨rfl,he,h0⟩:=hx;rw [<- he];repeat' (first|refine zs ?_|(refine zm ?_ ?_<;>intro hg)|(exfalso;omega))
  refine ak (cr 4 2 rfl) ?_;repeat' (first|refine zr ?_|fail)
  exact⟨.inl rfl,_,rfl,rfl,rfl⟩
end
section
open Go Go.RowKit
attribute [local irreducible] DW DS DL DQ Ev FnOk FnP ef bt DWr
abbrev dlL (n:Nat) (rose:Bool):Sl:=[(1,.loc 0 0),(4,.row 1),(5,.d (.bool rose)),(6,.d (.int .i64 n))]
abbrev dlH (p:Prg) (lv:List Int):Hp:=[(0,prgBk p),(1,.row 3 1 (lv.map aq))]
theorem uag (p:Prg) (hok:PrgOk p):Fn 111 [gu p] (λres=>res = .tup [.d (.slice 1 ((fa p).map aq)),.d (.bool (q8 p))]):=by
 refine fqE Tryz.func111 ?_;intro O w0 E0 β0;have la:(p.arity.map aq).length=p.arity.length:=Aa _;have lr:(p.rules.map dj).length=p.rules.length:=Aa _;have h10:=hok.preds;have h12:=hok.rules;repeat' (first|refine zs ?_|fail)
 refine ds_mk ((iw p.arity.length).map aq) rfl rfl (by rw [la]) rfl rfl rfl rfl rfl rfl (by show 8*_<=_;omega) (by unfold maxLen;omega) (by unfold iw;rw [List.map_replicate];rfl) rfl rfl ?_;repeat' (first|refine zs ?_|fail)
 refine ag (ι:=Nat×List Int×Bool) (λx=>⟨2,dlL x.1 x.2.2,dlH p x.2.1⟩)
  (λx=>x.1<=p.arity.length+1/\x.2.1=nd p.rules x.1 (iw p.arity.length)/\x.2.1.length=p.arity.length/\(∀ v∈x.2.1,0<=v/\v<=x.1*48)/\∀ m,x.1=m+1->x.2.2 = !decide (nd p.rules (m+1) (iw p.arity.length)=nd p.rules m (iw p.arity.length)))
  (λx=>p.arity.length+1-x.1) (0,iw p.arity.length,false) ⟨Ak _,rfl,by simp [iw],λv hv=>by rw [List.eq_of_mem_replicate hv];constructor<;>simp,λm h=>by cases h⟩
  (er id) ?_
 rintro⟨n,lv0,rose⟩ ⟨g1,g2,g3,g4,g5⟩;dsimp only at g1 g2 g3 g4 g5 ⊢;by_cases hn:n<p.arity.length+1
 ·repeat' (first|refine zr ?_|(refine zm ?_ ?_<;>intro hg)|(exfalso;omega))
  refine ag (ι:=Nat×List Int×Bool) (λx=>⟨2,(7,.d (.int .i64 x.1))::dlL n x.2.2,dlH p x.2.1⟩)
   (λx=>x.1<=p.rules.length/\kq p.rules lv0=kq (p.rules.drop x.1) x.2.1/\RdL lv0 x.2.1 x.2.2 (n*48+x.1*4)) (λx=>p.rules.length-x.1)
   (0,lv0,false) ⟨Ak _,rfl,RdL.refl (λv hv=>by have:=g4 v hv;omega)⟩ (er id) ?_
  rintro⟨i,lv1,rose1⟩ ⟨f1,f2,f3⟩;dsimp only at f1 f2 f3 ⊢;by_cases hi:i<p.rules.length
  ·have hm:=Aj hi;have hrk:=hok.each _ hm;rw [Am hi] at f2;repeat' (first|refine zs ?_|(refine zm ?_ ?_<;>intro hg)|(exfalso;omega))
   generalize p.rules[i]=r at hrk f2 ⊢;have hp1:=hrk.pred;have hb4:=hrk.body;have hlt:=hrk.lits;have lb:(r.body.map ay).length=r.body.length:=Aa _;have f2:kq p.rules lv0=kq (p.rules.drop (i+1)) (r.body.foldl (lvLit r.fold r.pred) lv1):=f2;refine ag (ι:=Nat×List Int×Bool) (λx=>⟨3,(9,.d (.int .i64 x.1))::(8,.loc 2 0)::(7,.d (.int .i64 i))::dlL n x.2.2,(2,sg r)::dlH p x.2.1⟩)
    (λx=>x.1<=r.body.length/\kq p.rules lv0=kq (p.rules.drop (i+1)) ((r.body.drop x.1).foldl (lvLit r.fold r.pred) x.2.1)/\RdL lv0 x.2.1 x.2.2 (n*48+i*4+x.1)) (λx=>r.body.length-x.1)
    (0,lv1,rose1) ⟨Ak _,f2,f3.more (by simp)⟩ (er id) ?_
   clear f2 f3;rintro⟨k,lv2,rose2⟩ ⟨e1,e2,e3⟩;dsimp only at e1 e2 e3 ⊢;have l2:(lv2.map aq).length=lv2.length:=Aa _;have hl2:lv2.length=lv0.length:=e3.1.1.symm;by_cases hk:k<r.body.length
   ·have hxm:=Aj hk;obtain⟨⟨k1,k2⟩,kp⟩:=hlt _ hxm;rw [Am hk,List.foldl_cons] at e2;by_cases hkind:2<r.body[k].kind
    ·rw [show lvLit r.fold r.pred lv2 r.body[k]=lv2 from if_pos hkind] at e2;repeat' (first|refine z0 ?_|refine z12 ?_|apply gy|(apply kh;exact rfl;exact rfl;(apply iq;(omega));exact rfl;exact rfl;(exact kb rfl);exact rfl;exact rfl;exact rfl;exact rfl;exact rfl;exact rfl)|refine zs ?_|(refine zm ?_ ?_<;>intro hg)|(exfalso;omega))
     exact⟨(k+1,lv2,rose2),⟨by dsimp only;omega,e2,e3.more (by omega)⟩,er id,by show r.body.length-(k+1)<r.body.length-k;omega⟩
    ·have hh:dw r.body[k]=true:=by
      have h12:r.body[k].kind=1∨r.body[k].kind=2:=by omega
      unfold dw;rcases h12 with h|h<;>simp [h]
     obtain⟨q1,q2⟩:=kp hh;have hA:=e3.2.2.2 (lv2[r.body[k].pred.toNat]'(by omega)) (Aj _);have hlit:=lvLit_if (f:=r.fold) (pr:=r.pred) (lv:=lv2) hkind (by omega) (by omega);have hset:=λv=>e3.set (i:=r.pred.toNat) (v:=v) (by omega)
     have hNf:kv r.fold r.body[k]=if r.body[k].kind=2∨r.fold≠0 then 1 else 0:=rfl
     have hfold:=hrk.fold;repeat' (first|refine z0 ?_|refine z12 ?_|apply gy|(apply kh;exact rfl;exact rfl;(apply iq;(omega));exact rfl;exact rfl;(exact kb rfl);exact rfl;exact rfl;exact rfl;exact rfl;exact rfl;exact rfl)|refine zs ?_|(refine zm ?_ ?_<;>intro hg)|(exfalso;omega))
     all_goals first
      | (have hL:kv r.fold r.body[k]=1:=by rw [hNf,if_pos (by omega)]
         rw [hlit,hL,if_pos (by omega)] at e2;exact⟨(k+1,_,true),⟨by dsimp only;omega,e2,(hset _ (by omega) (by omega)).more (by omega)⟩,er id,by show r.body.length-(k+1)<r.body.length-k;omega⟩)
      | (have hL:kv r.fold r.body[k]=1:=by rw [hNf,if_pos (by omega)]
         rw [hlit,hL,if_neg (by omega)] at e2;exact⟨(k+1,lv2,rose2),⟨by dsimp only;omega,e2,e3.more (by omega)⟩,er id,by show r.body.length-(k+1)<r.body.length-k;omega⟩)
      | (have hL:kv r.fold r.body[k]=0:=by rw [hNf,if_neg (by omega)]
         rw [hlit,hL,Int.add_zero,if_pos (by omega)] at e2;exact⟨(k+1,_,true),⟨by dsimp only;omega,e2,(hset _ (by omega) (by omega)).more (by omega)⟩,er id,by show r.body.length-(k+1)<r.body.length-k;omega⟩)
      | (have hL:kv r.fold r.body[k]=0:=by rw [hNf,if_neg (by omega)]
         rw [hlit,hL,Int.add_zero,if_neg (by omega)] at e2;exact⟨(k+1,lv2,rose2),⟨by dsimp only;omega,e2,e3.more (by omega)⟩,er id,by show r.body.length-(k+1)<r.body.length-k;omega⟩)
   ·rw [show r.body.drop k=[] from As (by omega)] at e2;repeat' (first|refine z0 ?_|refine z12 ?_|apply gy|(apply kh;exact rfl;exact rfl;(apply iq;(omega));exact rfl;exact rfl;(exact kb rfl);exact rfl;exact rfl;exact rfl;exact rfl;exact rfl;exact rfl)|refine zs ?_|(refine zm ?_ ?_<;>intro hg)|(exfalso;omega))
    exact⟨(i+1,lv2,rose2),⟨by dsimp only;omega,e2,e3.more (by omega)⟩,er id,by show p.rules.length-(i+1)<p.rules.length-i;omega⟩
  ·rw [As (by omega)] at f2;have f2:kq p.rules lv0=lv1:=f2;repeat' (first|refine zs ?_|(refine zm ?_ ?_<;>intro hg)|(exfalso;omega))
   have hsucc:=xl p.rules n (iw p.arity.length);rw [<- g2,f2] at hsucc;refine⟨(n+1,lv1,rose1),⟨by dsimp only;omega,hsucc.symm,by dsimp only;rw [<- f3.1.1];exact g3,λv hv=>by have:=f3.2.2.2 v hv;dsimp only;omega,λm hm=>?_⟩,er id,by show p.arity.length+1-(n+1)<p.arity.length+1-n;omega⟩
   cases hm;dsimp only;rw [hsucc,<- g2];cases rose1 with
   | true=>rw [decide_eq_false (f3.2.2.1 rfl)];rfl
   | false=>rw [decide_eq_true (f3.2.1 rfl)];rfl
 ·have hne:n=p.arity.length+1:=by omega
  subst hne;have hro:=g5 _ rfl;repeat' (first|refine zs ?_|(refine zm ?_ ?_<;>intro hg)|(exfalso;omega))
  refine ak (bh 2 rfl rfl rfl) ?_;repeat' (apply c9)
  have hd:q8 p = !rose:=by
   rw [hro,Bool.not_not,xl];rfl
  refine wy rfl ⟨by rw [g2];rfl,by rw [hd]⟩
end
end Go.Proofs.YtapciiffpnociadGreat
