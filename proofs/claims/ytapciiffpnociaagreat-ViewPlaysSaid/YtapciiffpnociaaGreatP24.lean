/- Several texts in one: MoA MoB MoC MoD MoE VwD GxPick VwE VwF StrG MoF MoG MoH MoI. Condition: none. -/
import Derived.Test.YtapciiffpnociaaGreatP22
import Derived.Test.YtapciiffpnociaaGreatP23
import Derived.Test.YtapciiffpnociaaGreatP12
import Derived.Test.YtapciiffpnociaaGreatP15
import Derived.Test.YtapciiffpnociaaGreatP16
import Derived.Test.YtapciiffpnociaaGreatP20
import Derived.Test.YtapciiffpnociaaGreatP13
import Derived.Test.YtapciiffpnociaaGreatP02
namespace Go.Proofs.YtapciiffpnociaaGreat
open Go Go.RowKit
abbrev elW (w:List Int):SV:=.d (.slice 1 (w.map bi))
attribute [local irreducible] DW DS DL DQ Ev FnOk FnP em b9 DT
set_option maxHeartbeats 8000000 in
theorem way1_fn (r:Rul) (f:Fct) (w:List Int) (hw:∀ t∈r.terms,okT w.length t) (hl:r.terms.length≤3) (hf:f.args.length=r.terms.length):Fn 174 ([elW w]++[.pd [.int .i64 r.pred,.slice 2 (r.terms.map bw),.int .i64 r.fold,.slice 4 (r.body.map bt),.int .i64 r.vars],.pd [.int .i64 (kW r)],.pd (a6 f)]) (fun res=>res = .d (.bool (isW r f w))):=by
 refine ak _ Tryz.func174 rfl rfl (by kernel_rfl) ?_
 intro O w0 E0 β0
 have hk:=kW_le r
 have l1:(r.terms.map bw).length=r.terms.length:=List.length_map _
 have l2:(f.args.map bi).length=f.args.length:=List.length_map _
 have w1:=args_fn (r.terms.take (kW r)) w (fun t ht=>hw t (List.mem_of_mem_take ht)) (by rw [List.length_take];omega)
 have w2:=equalI_fn ((aW r w).take (kW r)) (f.args.take (kW r))
 rw [show (r.terms.take (kW r)).map (vA w)=(aW r w).take (kW r) by unfold aW;rw [List.map_take]] at w1
 repeat' (first|refine z0 ?_|apply ag|refine z5 ?_|refine z10 ?_|apply ae|refine z16 ?_|refine z20 ?_|apply aj|apply aa|refine z22 ?_ (hc:=by apply w1)|refine z22 ?_ (hc:=by apply w2)|fail)
 all_goals try (exfalso;omega)
 exact cm rfl rfl
set_option maxHeartbeats 8000000 in
theorem indexW_fn {f:FuncId} {caps:List SV} (p:List Int→Bool) (l:List (List Int)) (hcap:SV.lowL 0 caps=true) (hp:∀ x∈l,Fn f (elW x::caps) (fun r=>r = .d (.bool (p x)))):Fn 173 [.d (.slice 1 (l.map jp)),.fn f caps] (fun r=>r = .d (.int .i64 (idxF p l))):=by
 refine ak _ Tryz.func173 rfl rfl (by kernel_rfl) ?_
 intro O w0 E0 β0
 refine cp (t:=0) rfl fun hb=>?_
 repeat' (first|refine z0 ?_|apply ag|apply ae|refine z16 ?_|apply ah|apply aa)
 refine bh (ι:=Nat) (fun i=>⟨0,[(0,.d (.slice 1 (l.map jp))),(1,.fn f caps),(7,.d (.int .i64 l.length)),(8,.d (.int .i64 i))],[]⟩)
  (fun i=>i≤l.length∧∀ j (hj:j < l.length),j < i→p l[j]=false) (fun i=>l.length - i) 0 ⟨Nat.zero_le _,fun j _ h=>absurd h (Nat.not_lt_zero j)⟩
  (ap id ⟨rfl,congrArg (SV.fn f) (SV.renL_id caps).symm,by simp;rfl,rfl,trivial⟩ trivial (by simp [Sl.low,SV.low,hcap]) rfl rfl rfl rfl rfl) ?_
 rintro i ⟨h1,h2⟩
 repeat' (first|refine z0 ?_|apply ag|apply ae|refine z16 ?_|apply aa)
 refine cd rfl (fun h=>?_) (fun h=>?_)
 ·have hi:i < l.length:=by omega
  have hpx:=hp l[i] (List.getElem_mem hi)
  repeat' (first|refine z0 ?_|apply ag|apply ae|refine z16 ?_|apply ah|apply ai|apply aa|(apply im;exact rfl;exact rfl;exact rfl;exact rfl;apply hpx;exact rfl;(assumption);exact rfl;rintro _ rfl))
  refine c7 rfl (fun hb=>?_) (fun hb=>?_)
  ·repeat' (first|refine z0 ?_|apply ag|apply ae|refine z16 ?_|apply aj|apply aa|apply av|apply br)
   exact cg rfl (jh h2 hi hb).symm
  ·repeat' (first|refine z0 ?_|apply ag|refine z16 ?_|apply ai|apply aa|apply bg)
   exact⟨i + 1,⟨hi,i5 h2 hi hb⟩,ap id ⟨rfl,congrArg (SV.fn f) (SV.renL_id caps).symm,rfl,rfl,trivial⟩ trivial (by simp [Sl.low,SV.low,hcap]) rfl rfl rfl rfl rfl,by omega⟩
 ·repeat' (first|refine z0 ?_|apply ag|apply ae|refine z16 ?_|apply au|apply aj|apply aa|apply aq|refine z17 ?_|fail)
  exact cg rfl (i6 fun j hj=>h2 j hj (by omega)).symm
set_option maxHeartbeats 8000000 in
theorem way_fn (r:Rul) (f:Fct) (ways:List (List Int)) (hw:∀ w∈ways,∀ t∈r.terms,okT w.length t) (hl:r.terms.length≤3) (hf:f.args.length=r.terms.length) (h0:r.fold≠0→0 < r.terms.length) (hex:∃ w∈ways,isW r f w=true) (hwl:∀ w∈ways,w.length≤1000) :
  Fn 156 [elRul r,ey f,.d (.slice 1 (ways.map jp))] (fun res=>res = .d (.slice 1 ((wayOf r f ways).map bi))):=by
 refine ak _ Tryz.func156 rfl rfl (by kernel_rfl) ?_
 intro O w0 E0 β0
 have l1:(r.terms.map bw).length=r.terms.length:=List.length_map _
 have lw:(ways.map jp).length=ways.length:=List.length_map _
 obtain⟨wm,wi⟩:=wayOf_mem hex
 have hlt:ways.findIdx (isW r f) < ways.length:=by
  obtain⟨w,hw,h⟩:=hex
  exact List.findIdx_lt_length_of_exists ⟨w,hw,h⟩
 have hidx:idxF (isW r f) ways=(ways.findIdx (isW r f):Int):=by
  unfold idxF
  rw [List.findIdx?_eq_some_iff_findIdx_eq.2 ⟨hlt,rfl⟩]
 have hget:ways[ways.findIdx (isW r f)]=wayOf r f ways:=by unfold wayOf;rw [List.getD_eq_getElem?_getD,List.getElem?_eq_getElem hlt];rfl
 have w3:=indexW_fn (isW r f) ways rfl (fun w hw'=>way1_fn r f w (hw w hw') hl hf)
 rw [hidx] at w3
 have w4:=cloneI_fn (wayOf r f ways) (by have:=hwl _ wm;omega)
 rw [← hget] at w4
 repeat' ((fail_if_success (apply kb 4));(first|refine z0 ?_|apply ag|apply ae|refine z16 ?_|apply ai|apply aa|refine z1 ?_|refine z3 ?_|(refine z23 ?_ ?_ <;> intro hg)|fail))
 ·have hk:((kW r:Nat):Int)=((r.terms.map bw).length:Int) - 1:=by
   unfold kW
   rw [if_neg (by assumption),l1]
   have:=h0 (by assumption)
   omega
  refine ba (gw (ds:=[.int .i64 r.pred,.slice 2 (r.terms.map bw),.int .i64 r.fold,.slice 4 (r.body.map bt),.int .i64 r.vars]) 3 0 rfl rfl) ?_
  refine ba (gw (ds:=[.int .i64 (kW r)]) 7 2 rfl (by rw [hk];rfl)) ?_
  refine ba (gw (ds:=a6 f) 4 1 rfl rfl) ?_
  repeat' (first|refine z0 ?_|apply ag|apply ae|refine z16 ?_|apply aj|apply aa|refine z21 ?_ (hc:=by apply w3)|refine z21 ?_ (hc:=by apply w4)|fail)
  all_goals try (exfalso;omega)
  rw [← hget]
  exact⟨.inl rfl,_,rfl,rfl,rfl⟩
 ·have hk:((kW r:Nat):Int)=((r.terms.map bw).length:Int):=by
   unfold kW
   rw [if_pos (by simp_all),l1]
  refine ba (gw (ds:=[.int .i64 r.pred,.slice 2 (r.terms.map bw),.int .i64 r.fold,.slice 4 (r.body.map bt),.int .i64 r.vars]) 3 0 rfl rfl) ?_
  refine ba (gw (ds:=[.int .i64 (kW r)]) 7 2 rfl (by rw [hk];rfl)) ?_
  refine ba (gw (ds:=a6 f) 4 1 rfl rfl) ?_
  repeat' (first|refine z0 ?_|apply ag|apply ae|refine z16 ?_|apply aj|apply aa|refine z21 ?_ (hc:=by apply w3)|refine z21 ?_ (hc:=by apply w4)|fail)
  all_goals try (exfalso;omega)
  rw [← hget]
  exact⟨.inl rfl,_,rfl,rfl,rfl⟩
def encStp (s:Stp):List D:=[.int .i64 s.fact.pred,.slice 1 (s.fact.args.map bi),.int .i64 s.rule,.slice 1 (s.vars.map bi)]
abbrev bldH (p:Prg) (S:List Fct) (hw:List Stp):Hp :=
 [(0,.blk 175 [.d (.slice 1 (p.arity.map bi)),.d (.slice 1 (p.names.map encT)),.d (.slice 5 (p.rules.map dx)),.d (.slice 2 (S.map a6)),.row 1]),(1,.row 220 4 (hw.map encStp))]
set_option maxHeartbeats 8000000 in
theorem mtake_fn (p:Prg) (n:Nat) (hn:n < p.rules.length) (ways:List (List Int)) (heads S:List Fct) (hw:List Stp) (hr:RulR p.arity p.rules[n]) (hl:p.rules[n].terms.length≤3)
  (hwok:∀ w∈ways,(∀ t∈p.rules[n].terms,okT w.length t)∧w.length≤1000) (hh:∀ f∈heads,f.args.length=p.rules[n].terms.length∧∃ w∈ways,isW p.rules[n] f w=true)
  (hS:Strict S) (hSl:S.length≤60) (hhl:heads.length≤2000) (hwl:hw.length≤100000) (hSa:∀ x∈S,x.args.length≤3) :
  FnOk false Tryz.prog tab cn 142 [.loc 0 0,.d (.int .i64 n),.d (.slice 2 (heads.map a6)),.d (.slice 1 (ways.map jp))] 1 2 (bldH p S hw)
   (fun k2 r H2=>k2=2∧r = .d (.bool (kr p.rules[n] n ways heads S hw).1)∧H2=bldH p (kr p.rules[n] n ways heads S hw).2.1 (kr p.rules[n] n ways heads S hw).2.2):=by
 refine co _ Tryz.func142 rfl rfl (by kernel_rfl) ?_
 intro O w0 E0 β0
 have lr:(p.rules.map dx).length=p.rules.length:=List.length_map _
 have lh:(heads.map a6).length=heads.length:=List.length_map _
 repeat' (first|refine z0 ?_|apply ag|apply ae|refine z16 ?_|apply ah|apply aa|refine z1 ?_|refine z3 ?_|fail)
 all_goals try (exfalso;omega)
 refine bh (ι:=Nat × List Fct × List Stp) (fun c=>⟨3,[(0,.loc 0 0),(1,.d (.int .i64 n)),(3,.d (.slice 1 (ways.map jp))),(8,.d (.bool false)),(9,.loc 2 0),(20,.d (.slice 2 (heads.map a6))),(21,.d (.int .i64 heads.length)),(22,.d (.int .i64 c.1))],
   (2,.blk 77 [.d (.int .i64 p.rules[n].pred),.d (.slice 2 (p.rules[n].terms.map bw)),.d (.int .i64 p.rules[n].fold),.d (.slice 4 (p.rules[n].body.map bt)),.d (.int .i64 p.rules[n].vars)])::bldH p c.2.1 c.2.2⟩)
  (fun c=>c.1≤heads.length∧kr p.rules[n] n ways heads S hw=kr p.rules[n] n ways (heads.drop c.1) c.2.1 c.2.2∧Strict c.2.1∧c.2.1.length≤60∧c.2.2.length≤100000 + c.1∧∀ x∈c.2.1,x.args.length≤3) (fun c=>heads.length - c.1) (0,S,hw) ⟨Nat.zero_le _,rfl,hS,hSl,hwl,hSa⟩
  (ap id ⟨rfl,rfl,rfl,rfl,rfl,rfl,by rw [← lh];rfl,rfl,trivial⟩ ⟨rfl,rfl,rfl,trivial⟩ rfl rfl rfl rfl rfl rfl) ?_
 rintro⟨i,S',hw'⟩ ⟨g1,g2,g3,g4,g5,g6⟩
 dsimp only at g1 g2 g3 g4 g5 g6 ⊢
 by_cases hi:i < heads.length
 ·have hm:=List.getElem_mem hi
  obtain⟨q1,q2⟩:=hh _ hm
  have w1:=in_fn S' heads[i] (by omega) g3
  have w2:=union_fn S' [heads[i]] (by rw [List.length_singleton];omega) (fun x hx=>by have:=g6 x hx;omega) (fun x hx=>by rw [List.mem_singleton] at hx;subst hx;omega)
  have w3:=way_fn p.rules[n] heads[i] ways (fun w hw=>(hwok w hw).1) hl q1 (fun hf=>(hr.folded hf).1) q2 (fun w hw=>(hwok w hw).2)
  have lS:(S'.map a6).length=S'.length:=List.length_map _
  have lhw:(hw'.map encStp).length=hw'.length:=List.length_map _
  rw [List.drop_eq_getElem_cons hi,kr] at g2
  repeat' (first|refine z0 ?_|apply ag|refine z5 ?_|refine z6 ?_|refine z9 ?_|refine z10 ?_|refine z11 ?_|apply ae|refine z16 ?_|refine z20 ?_|apply ah|apply ai|apply au|apply aj|apply aa|apply aq|apply av|apply bg|apply br|refine z17 ?_|refine z22 ?_ (hc:=by apply w1)|refine z22 ?_ (hc:=by apply w2)|refine z22 ?_ (hc:=by apply w3)|refine z1 ?_|refine z3 ?_|(refine z23 ?_ ?_ <;> intro hg)|(apply c7;exact rfl;all_goals intro hg))
  all_goals try (exfalso;omega)
  ·rw [if_pos (by assumption)] at g2
   exact⟨(i + 1,S',hw'),⟨hi,g2,g3,g4,by dsimp only;omega,g6⟩,ap id ⟨rfl,rfl,rfl,rfl,rfl,rfl,rfl,rfl,trivial⟩ ⟨rfl,rfl,rfl,trivial⟩ rfl rfl rfl rfl rfl rfl,by dsimp only;omega⟩
  ·rw [if_neg (by simp_all),if_pos (by omega)] at g2
   exact⟨.inl rfl,_,rfl,id,2,_,bldH p S' hw',rfl,⟨rfl,rfl,trivial⟩,rfl,rfl,rfl,rfl,rfl,rfl,rfl,by rw [g2],by rw [g2]⟩
  ·rw [if_neg (by simp_all),if_neg (by omega)] at g2
   obtain⟨s1,s2⟩:=bn (S'++[heads[i]])
   have hle:=jf (S'++[heads[i]])
   rw [List.length_append,List.length_singleton] at hle
   refine⟨(i + 1,bq (S'++[heads[i]]),hw'++[⟨heads[i],n,wayOf p.rules[n] heads[i] ways⟩]),⟨hi,g2,s1,by dsimp only;omega,by dsimp only;rw [List.length_append,List.length_singleton];omega,fun x hx=>?_⟩,
    ap (fun j=>match j with|1=>17|j=>j) ⟨rfl,rfl,rfl,rfl,rfl,rfl,rfl,rfl,trivial⟩ ⟨rfl,rfl,by dsimp only;rw [List.map_append];rfl,trivial⟩ rfl rfl rfl rfl rfl rfl,by dsimp only;omega⟩
   rcases List.mem_append.1 ((s2 x).1 hx) with hx|hx
   ·exact g6 x hx
   ·rw [List.mem_singleton] at hx;subst hx;omega
 ·rw [List.drop_of_length_le (by omega)] at g2
  repeat' (first|refine z0 ?_|apply ag|refine z5 ?_|apply ae|refine z16 ?_|refine z20 ?_|apply ah|apply ai|apply au|apply aj|apply aa|apply aq|refine z17 ?_|refine z1 ?_|refine z3 ?_|(refine z23 ?_ ?_ <;> intro hg)|fail)
  all_goals try (exfalso;omega)
  exact⟨.inl rfl,_,rfl,id,2,_,bldH p S' hw',rfl,⟨rfl,rfl,trivial⟩,rfl,rfl,rfl,rfl,rfl,rfl,rfl,by rw [g2,kr],by rw [g2,kr]⟩
theorem hw_len {given S:List Fct} {hw:List Stp} (h:HwOk given S hw):hw.length≤S.length:=by
 have:=nodup_len h.nodup (b:=S) fun x hx=>by
  obtain⟨g,hg,rfl⟩:=List.mem_map.1 hx
  exact (h.all _).2 (.inr ⟨g,hg,rfl⟩)
 rw [List.length_map] at this
 exact this
theorem fct_len {p:Prg} (hp:PrgR p) {x:Fct} (h:FctOk p.arity x):x.args.length≤3:=by
 have:=h.len
 have:=(hp.ar x.pred.toNat).2
 omega
def RndOk (p:Prg) (lv:List Int) (n:Nat) (S1 S:List Fct) (i:Nat):Prop :=
 ∀ j (hj:j < p.rules.length),j < i→lv.getD (p.rules[j]).pred.toNat 0=n→∃ S0,Strict S0∧(∀ x∈S1,x∈S0)∧(∀ x∈S0,x∈S)∧ed S0 p.rules[j]=true∧∀ x∈hdW S0 p.rules[j],x∈S
theorem RndOk.more {p:Prg} {lv:List Int} {n:Nat} {S1 S S':List Fct} {i:Nat} (h:RndOk p lv n S1 S i) (hs:∀ x∈S,x∈S') (hi:i < p.rules.length)
  (hn:lv.getD (p.rules[i]).pred.toNat 0=n→∃ S0,Strict S0∧(∀ x∈S1,x∈S0)∧(∀ x∈S0,x∈S')∧ed S0 p.rules[i]=true∧∀ x∈hdW S0 p.rules[i],x∈S'):RndOk p lv n S1 S' (i + 1):=by
 intro j hj hji hl
 by_cases he:j=i
 ·subst he;exact hn hl
 ·obtain⟨S0,a,b,c,d,e⟩:=h j hj (by omega) hl
  exact⟨S0,a,b,fun x hx=>hs x (c x hx),d,fun x hx=>hs x (e x hx)⟩
theorem round_fit {p:Prg} {lv:List Int} {n:Nat} {given m0 S1 S:List Fct} {hw:List Stp} (hb:BldOk p lv n given m0 S hw) (h1:Strict S1) (hs:∀ x∈S1,x∈S) (hr:RndOk p lv n S1 S p.rules.length) (hl:S.length≤S1.length):Fit (lvV p lv n m0) m0 S:=by
 have he:=same_len h1 hb.inv.strict hs hl
 subst he
 have key:∀ r∈(lvV p lv n m0).rs,ed S1 r=true∧∀ x∈hdW S1 r,x∈S1:=by
  intro r hr'
  obtain⟨hm,hn⟩:=List.mem_filter.1 hr'
  have hn:=of_decide_eq_true hn
  obtain⟨j,hj,rfl⟩:=List.mem_iff_getElem.1 hm
  obtain⟨S0,a,b,c,d,e⟩:=hr j hj hj hn
  have:S0=S1:=ir a h1 fun x=>⟨c x,b x⟩
  subst this
  exact⟨d,e⟩
 exact fit_done hb.inv (fun r hr=>(key r hr).1) fun r hr=>(key r hr).2
set_option maxHeartbeats 8000000 in
theorem level_fn (p:Prg) (lv:List Int) (n:Nat) (given m0:List Fct) (hw:List Stp) (hp:PrgR p) (hlv:LvFit p lv) (hb:BldOk p lv n given m0 m0 hw) :
  FnOk false Tryz.prog tab cn 124 [.loc 0 0,.d (.slice 1 (lv.map bi)),.d (.int .i64 n)] 1 2 (bldH p m0 hw)
   (fun k2 r H2=>k2=2∧∃ S' hw',H2=bldH p S' hw'∧((r = .d (.bool true)∧Fit (lvV p lv n m0) m0 S'∧BldOk p lv n given m0 S' hw')∨(r = .d (.bool false)∧¬ ∃ M,Fit (lvV p lv n m0) m0 M))):=by
 refine co _ Tryz.func124 rfl rfl (by kernel_rfl) ?_
 intro O w0 E0 β0
 have lr:(p.rules.map dx).length=p.rules.length:=List.length_map _
 have llv:(lv.map bi).length=lv.length:=List.length_map _
 have hrl:=hp.rlen
 repeat' (first|refine z0 ?_|apply ag|apply ae|refine z16 ?_|apply ah|apply aa)
 refine bh (ι:=Int × List Fct × List Stp) (fun c=>⟨2,[(0,.loc 0 0),(1,.d (.slice 1 (lv.map bi))),(2,.d (.int .i64 n)),(6,.d (.bool false)),(7,.d (.int .i64 c.1))],bldH p c.2.1 c.2.2⟩)
  (fun c=>BldOk p lv n given m0 c.2.1 c.2.2∧(c.1 = -1∨∃ S1,c.1=(S1.length:Int)∧Strict S1∧(∀ x∈S1,x∈c.2.1)∧RndOk p lv n S1 c.2.1 p.rules.length)) (fun c=>2 * (61 - c.2.1.length) + if c.1 < c.2.1.length then 1 else 0) (-1,m0,hw) ⟨hb,.inl rfl⟩
  (ap id ⟨rfl,rfl,rfl,rfl,rfl,trivial⟩ ⟨rfl,rfl,trivial⟩ rfl rfl rfl rfl rfl rfl) ?_
 rintro⟨many,S,hw1⟩ ⟨g1,g2⟩
 dsimp only at g1 g2 ⊢
 have lS:(S.map a6).length=S.length:=List.length_map _
 have hS60:=g1.inv.len
 repeat' (first|refine z0 ?_|apply ag|apply ae|refine z16 ?_|apply ah|apply ai|apply au|apply aj|apply aa|apply aq|refine z17 ?_|(refine z23 ?_ ?_ <;> intro hg)|fail)
 ·refine bh (ι:=Nat × List Fct × List Stp) (fun c=>⟨2,[(0,.loc 0 0),(1,.d (.slice 1 (lv.map bi))),(2,.d (.int .i64 n)),(6,.d (.bool false)),(7,.d (.int .i64 S.length)),(28,.d (.slice 5 (p.rules.map dx))),(29,.d (.int .i64 p.rules.length)),(30,.d (.int .i64 c.1))],bldH p c.2.1 c.2.2⟩)
   (fun c=>c.1≤p.rules.length∧BldOk p lv n given m0 c.2.1 c.2.2∧(∀ x∈S,x∈c.2.1)∧RndOk p lv n S c.2.1 c.1) (fun c=>p.rules.length - c.1) (0,S,hw1) ⟨Nat.zero_le _,g1,fun _ h=>h,fun j _ h=>absurd h (Nat.not_lt_zero j)⟩
   (ap id ⟨rfl,rfl,rfl,rfl,by rw [← lS];rfl,rfl,by rw [← lr];rfl,rfl,trivial⟩ ⟨rfl,rfl,trivial⟩ rfl rfl rfl rfl rfl rfl) ?_
  rintro⟨i,S2,hw2⟩ ⟨q1,q2,q3,q4⟩
  dsimp only at q1 q2 q3 q4 ⊢
  by_cases hi:i < p.rules.length
  ·have hr:=hp.rul _ (List.getElem_mem hi)
   have hpr:=hr.pred
   have hlvl:=hlv.len
   have hgd:lv.getD (p.rules[i]).pred.toNat 0=lv[(p.rules[i]).pred.toNat]'(by omega):=by rw [List.getD,List.getElem?_eq_getElem (by omega)];rfl
   have hS2:=q2.inv.len
   have hok:=raw_ok hr hp.ar q2.inv.a.1 q2.inv.strict.nodup
   have w1:=raw_fn S2 p.rules[i] q2.inv.strict (by omega) (rulS_mk hr hp.ar q2.inv.a.1)
   have w2:=made_fn p.arity p.rules[i] (gk S2 p.rules[i]) hok
   by_cases hlev:lv.getD (p.rules[i]).pred.toNat 0=n
   ·have hrs:p.rules[i]∈(lvV p lv n m0).rs:=List.mem_filter.2 ⟨List.getElem_mem hi,decide_eq_true hlev⟩
    cases hmm:ed S2 p.rules[i] with
    | false =>
     rw [hmm] at w1
     clear w2
     rw [hgd] at hlev
     repeat' (first|refine z0 ?_|refine z12 ?_|apply ag|refine z5 ?_|refine z10 ?_|apply ae|refine z16 ?_|refine z20 ?_|apply ah|apply ai|apply au|apply aj|refine z18 ?_|apply aa|apply aq|apply av|apply bg|apply br|refine z17 ?_|refine z22 ?_ (hc:=by apply w1)|refine z1 ?_|refine z3 ?_|(refine z23 ?_ ?_ <;> intro hg)|fail)
     all_goals try (exfalso;omega)
     exact⟨.inl rfl,_,rfl,id,2,_,bldH p S2 hw2,rfl,⟨rfl,rfl,trivial⟩,rfl,rfl,rfl,rfl,rfl,rfl,rfl,S2,hw2,rfl,.inr ⟨rfl,no_many (lvV_ok hp hlv n m0) q2.inv hrs hmm⟩⟩
    | true =>
     rw [hmm] at w1
     rw [hgd] at hlev
     repeat' (first|refine z0 ?_|apply ag|refine z5 ?_|refine z10 ?_|apply ae|refine z16 ?_|refine z20 ?_|apply ah|apply ai|apply au|apply aa|apply aq|apply bg|refine z17 ?_|refine z22 ?_ (hc:=by apply w1)|refine z21 ?_ (hc:=by apply w2)|refine z1 ?_|refine z3 ?_|(refine z23 ?_ ?_ <;> intro hg)|fail)
     all_goals try (exfalso;omega)
     clear w1 w2
     have hhd:∀ f∈hdW S2 p.rules[i],f.args.length=p.rules[i].terms.length∧∃ w∈gk S2 p.rules[i],isW p.rules[i] f w=true:=fun f hf=>head_way (((bn _).2 f).1 hf) fun hf=>(hr.folded hf).1
     have hhl:(hdW S2 p.rules[i]).length≤2000:=by
      refine Nat.le_trans (jf _) ?_
      rw [headsD_eq]
      exact Nat.le_trans (List.length_filterMap_le _ _) hok.many
     have wt:=mtake_fn p i hi (gk S2 p.rules[i]) (hdW S2 p.rules[i]) S2 hw2 hr hok.tlen (fun w hw=>⟨hok.terms hw,by rw [hok.len w hw];have:=hr.vars;omega⟩) hhd q2.inv.strict hS2 hhl (by have:=hw_len q2.hwk;omega) (fun x hx=>fct_len hp (q2.inv.a.1 x hx))
     obtain⟨t1,t2⟩:=take_spec hp hlv hi (hgd.trans hlev) q2 hmm (hdW S2 p.rules[i]) S2 hw2 (fun _ h=>h) q2 (fun _ h=>h) (fun _ h=>h) (Nat.le_refl _)
     generalize kr p.rules[i] i (gk S2 p.rules[i]) (hdW S2 p.rules[i]) S2 hw2=res at wt t1 t2
     obtain⟨ok,S3,hw3⟩:=res
     dsimp only at wt t1 t2
     (refine b8 id (wt) rfl rfl rfl rfl ⟨rfl,rfl,trivial⟩ rfl rfl rfl rfl rfl rfl ?_ ?_)
     ·rintro k2 r H2 ⟨rfl,rfl,rfl⟩
      exact⟨rfl,rfl⟩
     rintro k2 r H2 ⟨rfl,rfl,rfl⟩
     change DS _ _ _ _ _ _ _ _
     cases ok with
     | false =>
      repeat' (first|refine z0 ?_|apply ag|apply ae|refine z16 ?_|apply aj|refine z18 ?_|apply aa|apply av|apply br)
      all_goals try (exfalso;omega)
      exact⟨.inl rfl,_,rfl,fun j=>match j with|1=>4|j=>j,2,_,bldH p S3 hw3,rfl,⟨rfl,rfl,trivial⟩,rfl,rfl,rfl,rfl,rfl,rfl,rfl,S3,hw3,rfl,.inr ⟨rfl,t2 rfl⟩⟩
     | true =>
      obtain⟨a1,a2,a3,a4⟩:=t1 rfl
      repeat' (first|refine z0 ?_|apply ag|refine z16 ?_|apply ai|refine z19 ?_|apply aa|apply bg)
      all_goals try (exfalso;omega)
      exact⟨(i + 1,S3,hw3),⟨hi,a1,fun x hx=>a2 x (q3 x hx),q4.more a2 hi fun _=>⟨S2,q2.inv.strict,q3,a2,hmm,a3⟩⟩,ap (fun j=>match j with|1=>4|j=>j) ⟨rfl,rfl,rfl,rfl,rfl,rfl,rfl,rfl,trivial⟩ ⟨rfl,rfl,trivial⟩ rfl rfl rfl rfl rfl rfl,by dsimp only;omega⟩
   ·rw [hgd] at hlev
    clear w1 w2
    repeat' (first|refine z0 ?_|apply ag|refine z5 ?_|apply ae|refine z16 ?_|refine z20 ?_|apply ah|apply ai|apply au|apply aa|apply aq|apply bg|refine z17 ?_|refine z1 ?_|refine z3 ?_|(refine z23 ?_ ?_ <;> intro hg)|fail)
    all_goals try (exfalso;omega)
    exact⟨(i + 1,S2,hw2),⟨hi,q2,q3,q4.more (fun _ h=>h) hi fun h=>absurd (hgd.symm.trans h) hlev⟩,ap id ⟨rfl,rfl,rfl,rfl,rfl,rfl,rfl,rfl,trivial⟩ ⟨rfl,rfl,trivial⟩ rfl rfl rfl rfl rfl rfl,by dsimp only;omega⟩
  ·have hil:i=p.rules.length:=by omega
   subst hil
   repeat' (first|refine z0 ?_|apply ag|refine z5 ?_|apply ae|refine z16 ?_|refine z20 ?_|apply ah|apply ai|apply au|apply aa|apply aq|apply bg|refine z17 ?_|refine z1 ?_|refine z3 ?_|(refine z23 ?_ ?_ <;> intro hg)|fail)
   all_goals try (exfalso;omega)
   have hlen:S.length≤S2.length:=nodup_len g1.inv.strict.nodup q3
   have hS2:=q2.inv.len
   refine⟨((S.length:Int),S2,hw2),⟨q2,.inr ⟨S,rfl,g1.inv.strict,q3,q4⟩⟩,ap id ⟨rfl,rfl,rfl,rfl,rfl,trivial⟩ ⟨rfl,rfl,trivial⟩ rfl rfl rfl rfl rfl rfl,?_⟩
   dsimp only
   rw [if_pos (by omega:many < (S.length:Int))]
   split <;> omega
 ·rcases g2 with g2|⟨S1,e1,e2,e3,e4⟩
  ·exfalso;omega
  ·exact⟨.inl rfl,_,rfl,id,2,_,bldH p S hw1,rfl,⟨rfl,rfl,trivial⟩,rfl,rfl,rfl,rfl,rfl,rfl,rfl,S,hw1,rfl,.inl ⟨rfl,round_fit g1 e2 e3 e4 (by omega),g1⟩⟩
theorem hwm_next {p:Prg} {lv:List Int} {n:Nat} {given m0:List Fct} {hw:List Stp} (hp:PrgR p) (hl:LvFit p lv) (hm:∀ x∈m0,FctOk p.arity x) (hs:Strict m0) (h:HwM p lv n given hw m0) {T:List Fct} (hT:Good (lvV p lv n m0) m0 T):HwM p lv (n + 1) given hw T:=by
 intro i s hsi
 have h1:=h i s hsi
 have hr:=hp.rul _ (List.getElem_mem h1.hi)
 obtain⟨_,e2⟩:=same_ways hr hp.ar hT.a.1 hm hT.strict.nodup hs.nodup fun l hlb hk x hx=>hT.a.2 x (by
  have h2:=hl.fit _ (List.getElem_mem h1.hi) l hlb hk
  have h3:0≤liftN (p.rules[s.rule.toNat]'h1.hi).fold l:=by unfold liftN;split <;> omega
  have h4:=h1.level
  rw [hx];omega)
 refine⟨h1.lo,h1.hi,by have:=h1.level;omega,by rw [e2];exact h1.way,?_,h1.is,h1.ahead⟩
 unfold hdW
 rw [e2]
 exact h1.head
theorem bld_first {p:Prg} {lv:List Int} {n:Nat} {given m0:List Fct} {hw:List Stp} (hp:PrgR p) (hl:LvFit p lv) (hm:∀ x∈m0,FctOk p.arity x) (hs:Strict m0) (hlen:m0.length≤60) (hk:HwOk given m0 hw) (h:HwM p lv n given hw m0):BldOk p lv n given m0 m0 hw :=
 ⟨kx hs ⟨hm,fun _ _=>Iff.rfl⟩ hlen,hk,fun _ hT=>hwm_next hp hl hm hs h hT⟩
theorem hw_first (given:List Fct):HwOk given (bq given) [] :=
 ⟨fun x=>by rw [(bn given).2];simp,by simp,fun _ h=>by simp at h⟩
theorem run_none {p:Prg} {lv:List Int} {given:List Fct} {n N:Nat} {m:List Fct} (hn:n < N) (h:RunTo p lv given n m) (hno:¬ ∃ M,Fit (lvV p lv n m) m M):¬ ∃ M,RunTo p lv given N M:=by
 rintro⟨M,hM⟩
 have hN:n + 1 + (N - (n + 1))=N:=by omega
 rw [← hN] at hM
 obtain⟨m1,m',h1,h2⟩:=RunTo.back hM
 have:=h1.unique h
 subst this
 exact hno ⟨m1,h2⟩
set_option maxHeartbeats 8000000 in
theorem built_fn (p:Prg) (lv:List Int) (l:List Fct) (hp:PrgR p) (hlv:LvFit p lv) (hl:l.length≤60) (hf:∀ x∈l,FctOk p.arity x) :
  Fn 98 [jl p,.d (.slice 1 (lv.map bi)),.d (.slice 2 (l.map a6))]
   (fun r=>∃ (m:List Fct) (hw:List Stp) (b:Bool),r = .tup [.d (.slice 2 (m.map a6)),.d (.slice 4 (hw.map encStp)),.d (.bool b)] ∧
    ((b=true∧RunTo p lv l p.arity.length m∧HwOk l m hw∧HwM p lv p.arity.length l hw m)∨(b=false∧m=[]∧hw=[]∧¬ ∃ m,RunTo p lv l p.arity.length m))):=by
 refine ak _ Tryz.func98 rfl rfl (by kernel_rfl) ?_
 intro O w0 E0 β0
 have la:(p.arity.map bi).length=p.arity.length:=List.length_map _
 have hal:=hp.alen
 have ws:=set_fn l (by omega) (fun x hx=>by have:=fct_len hp (hf x hx);omega)
 repeat' ((fail_if_success (apply kb 2));(first|refine z0 ?_|apply ag|refine z5 ?_|refine z7 ?_|refine z11 ?_|apply ae|refine z16 ?_|refine z20 ?_|apply aa|refine z22 ?_ (hc:=by apply ws)|refine z1 ?_|fail))
 refine ba (k0 5 4 220 4 rfl rfl rfl) ?_
 repeat' (first|refine z0 ?_|apply ag|apply ae|refine z16 ?_|apply ah|apply aa)
 refine bh (ι:=Nat × List Fct × List Stp) (fun c=>⟨3,[(1,.d (.slice 1 (lv.map bi))),(9,.loc 0 0),(18,.d (.int .i64 p.arity.length)),(19,.d (.int .i64 c.1))],
   (2,.blk 26 [.d (.slice 1 (p.arity.map bi)),.d (.slice 1 (p.names.map encT)),.d (.slice 5 (p.rules.map dx))])::bldH p c.2.1 c.2.2⟩)
  (fun c=>c.1≤p.arity.length∧RunTo p lv l c.1 c.2.1∧HwOk l c.2.1 c.2.2∧HwM p lv c.1 l c.2.2 c.2.1) (fun c=>p.arity.length - c.1) (0,bq l,[]) ⟨Nat.zero_le _,rfl,hw_first l,fun i h hi=>by simp at hi⟩
  (ap (fun j=>match j with|0=>5|1=>7|_=>0) ⟨rfl,rfl,by rw [← la];rfl,rfl,trivial⟩ ⟨rfl,rfl,rfl,trivial⟩ rfl rfl rfl rfl rfl rfl) ?_
 rintro⟨n,S,hw⟩ ⟨g1,g2,g3,g4⟩
 dsimp only at g1 g2 g3 g4 ⊢
 obtain⟨s1,s2,s3,s4⟩:=RunTo.ok hf hl g2
 have lS:(S.map a6).length=S.length:=List.length_map _
 by_cases hn:n < p.arity.length
 ·have hb:=bld_first hp hlv s3 s1 s2 g3 g4
  have wl:=level_fn p lv n l S hw hp hlv hb
  repeat' (first|refine z0 ?_|apply ag|refine z5 ?_|refine z10 ?_|apply ae|refine z16 ?_|refine z20 ?_|apply ah|apply ai|apply au|apply aj|apply aa|apply aq|refine z17 ?_|(refine z23 ?_ ?_ <;> intro hg)|fail)
  all_goals try (exfalso;omega)
  (refine b8 id (wl) rfl rfl rfl rfl ⟨rfl,rfl,trivial⟩ rfl rfl rfl rfl rfl rfl ?_ ?_)
  ·rintro k2 r H2 ⟨rfl,S',hw',rfl,⟨rfl,_⟩|⟨rfl,_⟩⟩
   ·exact⟨rfl,rfl⟩
   ·exact⟨rfl,rfl⟩
  rintro k2 r H2 ⟨rfl,S',hw',rfl,⟨rfl,hfit,hb2⟩|⟨rfl,hno⟩⟩
  ·change DS _ _ _ _ _ _ _ _
   repeat' (first|refine z0 ?_|apply ag|refine z16 ?_|apply ai|refine z19 ?_|apply aa|apply bg)
   all_goals try (exfalso;omega)
   exact⟨(n + 1,S',hw'),⟨hn,⟨S,g2,hfit⟩,hb2.hwk,by have:=hb2.stp S' hfit.good;exact this⟩,ap (fun j=>match j with|1=>4|j=>j) ⟨rfl,rfl,rfl,rfl,trivial⟩ ⟨rfl,rfl,rfl,trivial⟩ rfl rfl rfl rfl rfl rfl,by dsimp only;omega⟩
  ·change DS _ _ _ _ _ _ _ _
   repeat' (first|refine z0 ?_|apply ag|apply ae|refine z16 ?_|refine z18 ?_|apply aa)
   all_goals try (exfalso;omega)
   refine ba (cr 6 2 rfl) ?_
   refine ba (cr 7 4 rfl) ?_
   repeat' (first|apply aj|apply av|apply br)
   exact⟨.inl rfl,_,rfl,rfl,[],[],false,rfl,.inr ⟨rfl,rfl,rfl,run_none hn g2 hno⟩⟩
 ·have hnn:n=p.arity.length:=by omega
  subst hnn
  repeat' (first|refine z0 ?_|apply ag|refine z5 ?_|refine z10 ?_|apply ae|refine z16 ?_|refine z20 ?_|apply ah|apply ai|apply au|apply aa|apply aq|refine z17 ?_|(refine z23 ?_ ?_ <;> intro hg)|fail)
  all_goals try (exfalso;omega)
  refine ba (dp 7 rfl rfl rfl) ?_
  repeat' (apply aj)
  exact⟨.inl rfl,_,rfl,rfl,S,hw,true,by rw [lS,decide_eq_true (by omega:(S.length:Int)≤60)];rfl,.inl ⟨rfl,g2,g3,g4⟩⟩
theorem mErr_lev {p:Prg} {l:List Fct}:mErr p l=if levE p≠0 then levE p else factsE p.arity l:=by
 unfold mErr levE
 by_cases h:dh du p=0
 ·rw [h]
  cases docOk p <;> simp
 ·simp [h]
set_option maxHeartbeats 8000000 in
theorem rights_fn (p:Prg) (l:List Fct):Fn 29 [jl p,.d (.slice 2 (l.map a6))] (fun r=>r = .d (.int .i64 (factsE p.arity l))):=by
 refine ak _ Tryz.func29 rfl rfl (by kernel_rfl) ?_
 intro O w0 E0 β0
 have ll:(l.map a6).length=l.length:=List.length_map _
 refine cp (t:=1) rfl fun hk=>?_
 unfold factsE
 by_cases h2:60 < l.length
 ·rw [if_pos h2]
  repeat' (first|refine z0 ?_|apply ag|apply ae|refine z16 ?_|apply ah|apply ai|apply aj|apply aa|apply av|refine z1 ?_|(refine z23 ?_ ?_ <;> intro hg)|fail)
  all_goals try (exfalso;omega)
  all_goals exact⟨.inl rfl,_,rfl,rfl,rfl⟩
 ·rw [if_neg h2]
  repeat' (first|refine z0 ?_|apply ag|apply ae|refine z16 ?_|apply ah|apply ai|apply aj|apply aa|apply av|refine z1 ?_|(refine z23 ?_ ?_ <;> intro hg)|fail)
  all_goals try (exfalso;omega)
  refine bh (ι:=Nat) (fun i=>⟨1,[(2,.loc 0 0),(11,.d (.slice 2 (l.map a6))),(12,.d (.int .i64 l.length)),(13,.d (.int .i64 i))],[(0,.blk 26 [.d (.slice 1 (p.arity.map bi)),.d (.slice 1 (p.names.map encT)),.d (.slice 5 (p.rules.map dx))])]⟩)
   (fun i=>i≤l.length∧cu (ky p.arity) l=cu (ky p.arity) (l.drop i)) (fun i=>l.length - i) 0 ⟨Nat.zero_le _,rfl⟩ (ap id ⟨rfl,rfl,by rw [← ll];rfl,rfl,trivial⟩ ⟨rfl,trivial⟩ rfl rfl rfl rfl rfl rfl) ?_
  rintro i ⟨g1,g2⟩
  dsimp only at g1 g2 ⊢
  by_cases hi:i < l.length
  ·rw [firstL_step hi] at g2
   have w2:=fright_fn p l[i]
   by_cases h3:ky p.arity l[i]≠0
   ·rw [if_pos h3] at g2
    rw [g2]
    repeat' (first|refine z0 ?_|apply ag|apply ae|refine z16 ?_|apply ah|apply ai|apply au|apply aj|apply aa|apply aq|apply av|apply bg|apply br|refine z17 ?_|refine z21 ?_ (hc:=by apply w2)|refine z1 ?_|refine z3 ?_|(refine z23 ?_ ?_ <;> intro hg)|fail)
    all_goals try (exfalso;omega)
    all_goals exact⟨.inl rfl,_,rfl,rfl,rfl⟩
   ·rw [if_neg h3] at g2
    repeat' (first|refine z0 ?_|apply ag|apply ae|refine z16 ?_|apply ah|apply ai|apply au|apply aj|apply aa|apply aq|apply av|apply bg|apply br|refine z17 ?_|refine z21 ?_ (hc:=by apply w2)|refine z1 ?_|refine z3 ?_|(refine z23 ?_ ?_ <;> intro hg)|fail)
    all_goals try (exfalso;omega)
    exact⟨i + 1,⟨hi,g2⟩,ap id ⟨rfl,rfl,rfl,rfl,trivial⟩ ⟨rfl,trivial⟩ rfl rfl rfl rfl rfl rfl,by omega⟩
  ·rw [firstL_end (by omega)] at g2
   rw [g2]
   repeat' (first|refine z0 ?_|apply ag|apply ae|refine z16 ?_|apply ah|apply ai|apply au|apply aj|apply aa|apply aq|refine z17 ?_|refine z1 ?_|refine z3 ?_|(refine z23 ?_ ?_ <;> intro hg)|fail)
   all_goals try (exfalso;omega)
   all_goals exact⟨.inl rfl,_,rfl,rfl,rfl⟩
set_option maxHeartbeats 8000000 in
theorem mall_fn (p:Prg) (l:List Fct) :
  Fn 55 [jl p,.d (.slice 2 (l.map a6))]
   (fun r=>∃ (m:List Fct) (hw:List Stp) (e:Int),r = .tup [.d (.slice 2 (m.map a6)),.d (.slice 4 (hw.map encStp)),.d (.int .i64 e)]∧ModelR p l e m∧(e=0→HwOk l m hw∧HwM p (eo p) p.arity.length l hw m)):=by
 refine ak _ Tryz.func55 rfl rfl (by kernel_rfl) ?_
 intro O w0 E0 β0
 have w1:=levels_fn p
 have w2:=rights_fn p l
 by_cases h0:mErr p l=0
 ·have ho:=mOk h0
  have hE:levE p=0:=by unfold levE;rw [if_neg (by rw [ho.prog];simp),ho.doc];rfl
  have hL:levL p=eo p:=by unfold levL;rw [if_pos ⟨ho.prog,ho.doc⟩]
  have hF:factsE p.arity l=0:=by rw [mErr_lev,if_neg (by rw [hE];simp)] at h0;exact h0
  rw [hE,hL] at w1
  rw [hF] at w2
  have w3:=built_fn p (eo p) l ho.pr ho.fit ho.len ho.facts
  repeat' (first|refine z0 ?_|apply ag|apply ae|refine z16 ?_|apply ai|refine z18 ?_|refine z19 ?_|apply aa|refine z21 ?_ (hc:=by apply w1)|refine z21 ?_ (hc:=by apply w2)|refine z1 ?_|fail)
  all_goals try (exfalso;omega)
  apply ds_call;exact rfl;exact rfl;exact w3;exact rfl;exact rfl;exact rfl
  rintro _ ⟨m,hw,b,rfl,⟨rfl,q1,q2,q3⟩|⟨rfl,rfl,rfl,q1⟩⟩
  ·clear w1 w2 w3
   repeat' (first|refine z0 ?_|apply ag|apply ae|refine z16 ?_|apply ai|apply aj|refine z19 ?_|apply aa)
   all_goals try (exfalso;omega)
   exact⟨.inl rfl,_,rfl,rfl,m,hw,0,rfl,.ok m h0 q1,fun _=>⟨q2,q3⟩⟩
  ·clear w1 w2 w3
   repeat' (first|refine z0 ?_|apply ag|apply ae|refine z16 ?_|refine z18 ?_|apply aa)
   all_goals try (exfalso;omega)
   refine ba (cr 4 2 rfl) ?_
   refine ba (cr 5 4 rfl) ?_
   repeat' (first|apply aj|apply av)
   exact⟨.inl rfl,_,rfl,rfl,[],[],2,rfl,.much h0 q1,fun h=>absurd h (by simp)⟩
 ·have hE:=mErr_lev (p:=p) (l:=l)
  have hb:ModelR p l (mErr p l) []:=.bad h0
  by_cases hl:levE p=0
  ·rw [if_neg (by rw [hl];simp)] at hE
   rw [hl] at w1
   rw [hE] at h0 hb
   generalize factsE p.arity l=e at *
   repeat' (first|refine z0 ?_|apply ag|apply ae|refine z16 ?_|apply ai|refine z18 ?_|apply aa|refine z21 ?_ (hc:=by apply w1)|refine z21 ?_ (hc:=by apply w2)|refine z1 ?_|(refine z23 ?_ ?_ <;> intro hg)|fail)
   all_goals try (exfalso;omega)
   refine ba (cr 4 2 rfl) ?_
   refine ba (cr 5 4 rfl) ?_
   repeat' (first|apply aj|apply av)
   exact⟨.inl rfl,_,rfl,rfl,[],[],e,rfl,hb,fun h=>absurd h h0⟩
  ·rw [if_pos hl] at hE
   rw [hE] at h0 hb
   generalize levE p=e at *
   repeat' (first|refine z0 ?_|apply ag|apply ae|refine z16 ?_|apply ai|apply aa|refine z21 ?_ (hc:=by apply w1)|refine z21 ?_ (hc:=by apply w2)|refine z1 ?_|(refine z23 ?_ ?_ <;> intro hg)|fail)
   all_goals try (exfalso;omega)
   refine ba (cr 4 2 rfl) ?_
   refine ba (cr 5 4 rfl) ?_
   repeat' (first|apply aj|apply av)
   exact⟨.inl rfl,_,rfl,rfl,[],[],e,rfl,hb,fun h=>absurd h h0⟩
set_option maxHeartbeats 8000000 in
theorem model_fn (p:Prg) (l:List Fct) (e:Int) (m:List Fct) (hm:ModelR p l e m):Fn 28 [jl p,.d (.slice 2 (l.map a6))] (fun r=>r = .tup [.d (.slice 2 (m.map a6)),.d (.int .i64 e)]):=by
 refine ak _ Tryz.func28 rfl rfl (by kernel_rfl) ?_
 intro O w0 E0 β0
 have w1:=mall_fn p l
 repeat' (first|refine z0 ?_|apply ag|apply ae|refine z16 ?_|apply aa|refine z1 ?_|fail)
 apply ds_call;exact rfl;exact rfl;exact w1;exact rfl;exact rfl;exact rfl
 rintro _ ⟨m',hw,e',rfl,q1,_⟩
 obtain⟨rfl,rfl⟩:=q1.unique hm
 repeat' (first|refine z0 ?_|apply ag|apply ae|refine z16 ?_|apply aj|apply aa)
 exact⟨.inl rfl,_,rfl,rfl,rfl⟩
set_option maxHeartbeats 8000000 in
theorem equalFunc_fn {f:FuncId} (l m:List Fct) (hp:∀ a b,Fn f ([ey a,ey b]++[]) (fun r=>r = .d (.bool (Fct.same a b)))):Fn 56 [.d (.slice 2 (l.map a6)),.d (.slice 2 (m.map a6)),.fn f []] (fun r=>r = .d (.bool (fx Fct.same l m))):=by
 refine ak _ Tryz.func56 rfl rfl (by kernel_rfl) ?_
 intro O w0 E0 β0
 refine cp (t:=0) rfl fun hb=>?_
 refine cp (t:=1) rfl fun hb2=>?_
 have ll:(l.map a6).length=l.length:=List.length_map _
 have lm:(m.map a6).length=m.length:=List.length_map _
 by_cases hl:l.length=m.length
 ·repeat' (first|refine z0 ?_|apply ag|apply ae|refine z16 ?_|apply ah|apply ai|apply aj|apply aa|apply av|(refine z23 ?_ ?_ <;> intro hg)|fail)
  all_goals try (exfalso;omega)
  refine bh (ι:=Nat) (fun i=>⟨0,[(1,.d (.slice 2 (m.map a6))),(2,.fn f []),(15,.d (.slice 2 (l.map a6))),(16,.d (.int .i64 l.length)),(17,.d (.int .i64 i))],[]⟩)
   (fun i=>i≤l.length∧fx Fct.same l m=fx Fct.same (l.drop i) (m.drop i)) (fun i=>l.length - i) 0 ⟨Nat.zero_le _,rfl⟩ (ap id ⟨rfl,rfl,rfl,by rw [← ll];rfl,rfl,trivial⟩ trivial rfl rfl rfl rfl rfl rfl) ?_
  rintro i ⟨g1,g2⟩
  dsimp only at g1 g2 ⊢
  by_cases hi:i < l.length
  ·have w:=hp l[i] (m[i]'(by omega))
   rw [sameL_drop Fct.same l m i hi (by omega)] at g2
   cases hs:Fct.same l[i] (m[i]'(by omega)) with
   | true =>
    rw [hs] at w
    rw [hs,Bool.true_and] at g2
    repeat' (first|refine z0 ?_|apply ag|apply ae|refine z16 ?_|apply ah|apply ai|apply au|apply aj|refine z19 ?_|apply aa|apply aq|apply bg|refine z17 ?_|(apply im;exact rfl;exact rfl;exact rfl;exact rfl;apply w;exact rfl;(exact rfl);exact rfl;rintro _ rfl)|refine z1 ?_|refine z3 ?_|(refine z23 ?_ ?_ <;> intro hg)|fail)
    all_goals try (exfalso;omega)
    exact⟨i + 1,⟨hi,g2⟩,ap id ⟨rfl,rfl,rfl,rfl,rfl,trivial⟩ trivial rfl rfl rfl rfl rfl rfl,by omega⟩
   | false =>
    rw [hs] at w
    rw [hs,Bool.false_and] at g2
    repeat' (first|refine z0 ?_|apply ag|apply ae|refine z16 ?_|apply ah|apply ai|apply au|apply aj|refine z18 ?_|apply aa|apply aq|apply av|apply br|refine z17 ?_|(apply im;exact rfl;exact rfl;exact rfl;exact rfl;apply w;exact rfl;(exact rfl);exact rfl;rintro _ rfl)|refine z1 ?_|refine z3 ?_|(refine z23 ?_ ?_ <;> intro hg)|fail)
    all_goals try (exfalso;omega)
    exact⟨.inl rfl,_,rfl,rfl,by rw [g2];rfl⟩
  ·rw [sameL_end Fct.same l m i (by omega) (by omega)] at g2
   repeat' (first|refine z0 ?_|apply ag|apply ae|refine z16 ?_|apply ah|apply ai|apply au|apply aj|apply aa|apply aq|refine z17 ?_|refine z1 ?_|refine z3 ?_|(refine z23 ?_ ?_ <;> intro hg)|fail)
   all_goals try (exfalso;omega)
   exact⟨.inl rfl,_,rfl,rfl,by rw [g2];rfl⟩
 ·rw [sameL_len Fct.same l m hl]
  repeat' (first|refine z0 ?_|apply ag|apply ae|refine z16 ?_|apply ah|apply ai|apply aj|apply aa|apply av|(refine z23 ?_ ?_ <;> intro hg)|fail)
  all_goals try (exfalso;omega)
  exact⟨.inl rfl,_,rfl,rfl,rfl⟩
theorem RpGood.bounds {r:Rpl} (h:RpGood r):(r.has.flatMap Upd.takes).length≤1200∧(r.has.flatMap Upd.says).length≤1200∧(saidF r).length≤1200:=by
 have hl:=h.len
 have hf:=flat_len Upd.takes 6 r.has fun u hu=>(checkU_small (h.each u (List.mem_append_left _ hu))).2.2
 have hs:=flat_len Upd.says 6 r.has fun u hu=>(checkU_small (h.each u (List.mem_append_left _ hu))).2.1
 have hd:=said_len r.has r.has.length
 rw [List.take_of_length_le (Nat.le_refl _)] at hd
 have hk:((keptU r.has).flatMap Upd.says).length≤(r.has.flatMap Upd.says).length:=hd
 have hS:=jf ((keptU r.has).flatMap Upd.says)
 refine⟨by omega,by omega,?_⟩
 unfold saidF
 omega
set_option maxHeartbeats 8000000 in
theorem look_fn (p:Prg) (sn:List Fct) (r:Rpl) (hg:RpGood r):FnOk false Tryz.prog tab cn 26 [.loc 0 0] 1 3 (vwH p sn r) (fun k res H=>k=3∧res = .d (.int .i64 (mdl p (de p r)).1)∧H=vwH p (mdl p (de p r)).2 r):=by
 refine co _ Tryz.func26 rfl rfl (by kernel_rfl) ?_
 intro O w0 E0 β0
 obtain⟨b1,b2,b3⟩:=hg.bounds
 have hl:=hg.len
 have ws:=saidV_fn r (by omega) (by omega) (by omega) (fun u hu f hf=>(short_of (hg.each u (List.mem_append_left _ hu))).args f hf)
 have hS:bq ((keptU r.has).flatMap Upd.says)=saidF r:=rfl
 rw [hS] at ws
 have hq:de p r=(saidF r).filter fun f=>decide (ky p.arity f=0):=rfl
 generalize de p r=q at *
 generalize saidF r=S at *
 have lS:(S.map a6).length=S.length:=List.length_map _
 repeat' (first|refine z0 ?_|apply ag|apply ae|refine z16 ?_|apply aa)
 refine b8 (fun j=>j + 1) ws rfl rfl rfl rfl ⟨rfl,rfl,trivial⟩ rfl rfl rfl rfl rfl rfl ?_ ?_
 ·rintro k2 res H2 ⟨rfl,rfl,rfl⟩;exact⟨rfl,rfl⟩
 rintro k2 res H2 ⟨rfl,rfl,rfl⟩
 change DS _ _ _ _ _ _ _ _
 clear ws
 repeat' (first|refine z0 ?_|apply ag|apply ah|apply aa)
 refine ba (ea (t:=3) 58 2 rfl) ?_
 refine bh (ι:=Nat) (fun i=>⟨4,[(0,.loc 0 0),(3,.row 3),(12,.d (.slice 2 (S.map a6))),(13,.d (.int .i64 (S.map a6).length)),(14,.d (.int .i64 i))],
   [(0,vwB p sn),(1,.row 53 5 (r.has.map a7)),(2,.row 53 5 (r.waits.map a7)),(3,.row 58 2 (((S.take i).filter fun f=>decide (ky p.arity f=0)).map a6))]⟩)
  (fun i=>i≤S.length) (fun i=>S.length - i) 0 (Nat.zero_le _) (ap id ⟨rfl,rfl,rfl,rfl,rfl,trivial⟩ ⟨rfl,rfl,rfl,rfl,trivial⟩ rfl rfl rfl rfl rfl rfl) ?_
 intro i gi
 by_cases hi:i < S.length
 ·have wr:=fright_fn p S[i]
  have lo:((S.take i).filter fun f=>decide (ky p.arity f=0)).length≤i:=Nat.le_trans (List.length_filter_le _ _) (by rw [List.length_take];omega)
  have hst:((S.take (i + 1)).filter fun f=>decide (ky p.arity f=0))=((S.take i).filter fun f=>decide (ky p.arity f=0))++([S[i]].filter fun f=>decide (ky p.arity f=0)):=by rw [List.take_succ_eq_append_getElem hi,List.filter_append]
  by_cases he:ky p.arity S[i]=0
  ·rw [he] at wr
   have hf:([S[i]].filter fun f=>decide (ky p.arity f=0))=[S[i]]:=by rw [List.filter_cons,if_pos (by simpa using he)];rfl
   rw [hf] at hst
   repeat' (first|refine z0 ?_|apply ag|refine z5 ?_|refine z10 ?_|apply ae|refine z16 ?_|refine z20 ?_|apply ah|apply ai|apply au|refine z18 ?_|apply aa|apply aq|apply bg|refine z17 ?_|refine z22 ?_ (hc:=by apply wr)|refine z1 ?_|refine z3 ?_|refine z4 ?_|refine z2 ?_|(refine z23 ?_ ?_ <;> intro hg)|fail)
   all_goals try (exfalso;omega)
   exact⟨i + 1,hi,ap (fun j=>match j with|3=>_|j=>j) ⟨rfl,rfl,rfl,rfl,rfl,trivial⟩ ⟨rfl,rfl,rfl,by rw [hst,List.map_append];rfl,trivial⟩ rfl rfl rfl rfl rfl rfl,by omega⟩
  ·have hf:([S[i]].filter fun f=>decide (ky p.arity f=0))=[]:=by rw [List.filter_cons,if_neg (by simpa using he)];rfl
   rw [hf,List.append_nil] at hst
   repeat' (first|refine z0 ?_|apply ag|refine z5 ?_|refine z10 ?_|apply ae|refine z16 ?_|refine z20 ?_|apply ah|apply ai|apply au|apply aa|apply aq|apply bg|refine z17 ?_|refine z22 ?_ (hc:=by apply wr)|refine z1 ?_|refine z3 ?_|refine z4 ?_|refine z2 ?_|(refine z23 ?_ ?_ <;> intro hg)|fail)
   all_goals try (exfalso;omega)
   exact⟨i + 1,hi,ap id ⟨rfl,rfl,rfl,rfl,rfl,trivial⟩ ⟨rfl,rfl,rfl,by rw [hst];rfl,trivial⟩ rfl rfl rfl rfl rfl rfl,by omega⟩
 ·rw [List.take_of_length_le (by omega),← hq]
  have wm:=model_fn p q _ _ (mdl_is p q)
  generalize mdl p q=x at *
  refine ba (dp 3 rfl rfl rfl) ?_
  repeat' (first|refine z0 ?_|apply ag|refine z5 ?_|apply ae|refine z16 ?_|refine z20 ?_|apply ah|apply ai|apply au|apply aj|apply aa|apply aq|refine z17 ?_|refine z21 ?_ (hc:=by apply wm)|refine z1 ?_|refine z3 ?_|(refine z23 ?_ ?_ <;> intro hg)|fail)
  all_goals try (exfalso;omega)
  exact⟨.inl rfl,_,rfl,id,3,.d (.int .i64 x.1),vwH p x.2 r,rfl,⟨rfl,rfl,rfl,trivial⟩,rfl,rfl,rfl,rfl,rfl,rfl,rfl,rfl,rfl⟩
end Go.Proofs.YtapciiffpnociaaGreat
namespace Go.Proofs.YtapciiffpnociaaGreat
open Go Go.RowKit
theorem Oper.wp_mono2 {P:Program} {o:Oper} {a:Act} {w:World} {K K':Act→World→Prop} {Q Q':Exit→Act→World→Prop} (h:∀ a w,K a w→K' a w) (hp:∀ c a w,Q (.panic c) a w→Q' (.panic c) a w) (hl:LetsOut Q→LetsOut Q')
  (hh:o.wp P a w K Q):o.wp P a w K' Q':=by
 unfold Oper.wp at *
 generalize (execOp a.eval o).run P w=r at *
 cases r with
 | ok n w' =>
  cases n <;> simp only [Oper.upon] at hh ⊢ <;>
   first
    | exact h _ _ hh
    | exact Calls.mono hh (fun e w'' he=>by cases e <;> first|exact h _ _ he|exact hp _ _ _ he|exact hl he)
    | exact Rows.mono hh (fun _ _ he=>h _ _ he)
    | exact hl hh
    | exact hh
 | halt x w'=>cases x <;> simp only [Oper.upon] at hh ⊢ <;> first|exact hp _ _ _ hh|exact hl hh|exact hh
def needsB (o:Oper) (done:List Nat):Bool:=o.after.toList.all fun e=>!(Region.binds .any e) || done.any (Nat.beq e.on)
def readyL (done:List Nat):Nat→List Oper→List (Nat × Oper)
 | _,[]=>[]
 | i,o::l=>match !(done.any (Nat.beq i)) && needsB o done with
  | true=>(i,o)::readyL done (i + 1) l
  | false=>readyL done (i + 1) l
theorem readyL_mem {done:List Nat} {j:Nat} {o:Oper}:∀ (l:List Oper) (i:Nat),l[j]? = some o→done.any (Nat.beq (i + j))=false→needsB o done=true→(i + j,o)∈readyL done i l
 | [],_,h,_,_=>by simp at h
 | p::l,i,h,hd,hn=>by
  unfold readyL
  cases j with
  | zero =>
   have:p=o:=by simpa using h
   subst this
   rw [Nat.add_zero] at hd
   rw [hd,hn]
   exact List.mem_cons_self ..
  | succ j =>
   have h1:=readyL_mem (done:=done) (j:=j) (o:=o) l (i + 1) (by simpa using h) (by rw [show i + 1 + j=i + (j + 1) by omega];exact hd) hn
   rw [show i + 1 + j=i + (j + 1) by omega] at h1
   split
   ·exact List.mem_cons_of_mem _ h1
   ·exact h1
def allQ {α:Type} (p:α→Prop):List α→Prop
 | []=>True
 | [x]=>p x
 | x::y::l=>p x∧allQ p (y::l)
theorem allQ_mem {α:Type} {p:α→Prop} {x:α}:∀ {l:List α},allQ p l→x∈l→p x
 | [],_,h=>by simp at h
 | [y],hp,h=>by
  rw [List.mem_singleton] at h
  subst h
  exact hp
 | y::z::l,hp,h=>by
  rcases List.mem_cons.1 h with rfl|h
  ·exact hp.1
  ·exact allQ_mem hp.2 h
def DP (Γ:Ctx) (l:List Oper) (K:cq):Nat→List Nat→cq
 | 0,_=>K
 | n + 1,done=>fun k L H=>allQ (fun p=>DS false Γ l [p.2] (DP Γ l K n (p.1::done)) k L H) (readyL done 0 l)
section
variable {Γ : Ctx} {l : List Oper} {K : cq}
theorem pick_run:∀ (n:Nat) (listed:Array Bool) (done:List Nat) (k:Nat) (L:Sl) (H:Hp) (e:Env) (a:Act) (w:World),listed.size=l.length→leftN listed=n→(∀ j,listed.getD j false=done.any (Nat.beq j))→Models Γ (lo k) L H e a w→DP Γ l K n done k L H→jg l=true →
  wpAny Γ.P .any l.toArray (lift Γ (fg K)) n listed a w
 | 0,listed,done,k,L,H,e,a,w,hs,hc,hd,m,h,_=>by
  have hr:Region.ready .any l.toArray listed=[]:=List.eq_nil_iff_forall_not_mem.2 fun j hj=>by
   obtain⟨h1,o,ho,_⟩:=mem_ready.1 hj
   have hj:j < listed.size:=by rw [hs];have:=(Array.getElem?_eq_some_iff.1 ho).1;simpa using this
   rw [left_zero hc j hj] at h1
   cases h1
  exact⟨hr,.inl ⟨k,L,H,e,m,rfl,h⟩⟩
 | n + 1,listed,done,k,L,H,e,a,w,hs,hc,hd,m,h,hdn=>by
  refine⟨fun hr=>?_,fun i hi=>?_⟩
  ·exfalso
   have hall:=ready_all hs hdn hr
   have:leftN listed=0:=by
    unfold leftN
    rw [List.countP_eq_zero]
    intro b hb
    obtain⟨j,hj⟩:=List.mem_iff_getElem?.1 hb
    have hj2:listed[j]? = some b:=by simpa using hj
    have hjs:j < listed.size:=(Array.getElem?_eq_some_iff.1 hj2).1
    have h1:=hall j (by rw [← hs];exact hjs)
    rw [Array.getD_eq_getD_getElem?,hj2] at h1
    simpa using h1
   omega
  ·obtain⟨h1,o,ho,hall⟩:=mem_ready.1 hi
   have hio:l[i]? = some o:=by simpa using ho
   have hj:i < listed.size:=by rw [hs];exact (List.getElem?_eq_some_iff.1 hio).1
   have hlt:=left_set hj h1
   have hnd:done.any (Nat.beq i)=false:=by rw [← hd,← ii hj];exact h1
   have hneed:needsB o done=true:=by
    unfold needsB
    rw [List.all_eq_true]
    intro e he
    cases hb:Region.binds .any e with
    | false=>rfl
    | true =>
     have:=hall e (by simpa using he) hb
     rw [hd] at this
     simpa using this
   have hp:=allQ_mem h (readyL_mem l 0 hio (by rw [Nat.zero_add];exact hnd) hneed)
   rw [Nat.zero_add] at hp
   have hp:DL Γ l [o] (DP Γ l K n (i::done)) k L H:=hp
   have h2:=hp e a w m
   have hset:∀ j,(listed.setIfInBounds i true).getD j false=(i::done).any (Nat.beq j):=by
    intro j
    rw [getD_set hj,List.any_cons,hd j]
    by_cases hij:i=j
    ·subst hij;simp
    ·rw [if_neg hij]
     have:Nat.beq j i=false:=by
      cases hb:Nat.beq j i with
      | false=>rfl
      | true=>exact absurd (Nat.eq_of_beq_eq_true hb).symm hij
     rw [this,Bool.false_or]
   have key:∀ a' w',wpList Γ.P l.toArray (lift Γ (fg (DP Γ l K n (i::done)))) [] a' w'→wpAny Γ.P .any l.toArray (lift Γ (fg K)) n (listed.setIfInBounds i true) a' w':=by
    rintro a' w' (⟨k',L',H',e',m',_,hq⟩|⟨v,k',L',H',e',hx,_⟩)
    ·exact pick_run n _ (i::done) k' L' H' e' a' w' (by simp [hs]) (by omega) hset m' hq hdn
    ·cases hx
   unfold wpList at h2
   unfold wpOp
   rw [ho]
   simp only
   split at h2
   ·rename_i hw
    rw [if_pos hw]
    have hlo:LetsOut (lift Γ (fg (DP Γ l K n (i::done))))→LetsOut (lift Γ (fg K)):=fun h=>absurd h (gr (Γ:=Γ) (K:=DP Γ l K n (i::done)))
    refine h2.imp (fun h2=>Oper.wp_mono2 key ?_ hlo h2) (fun h2=>⟨h2.1,hlo h2.2⟩)
    rintro c a' w' (⟨_,_,_,_,_,hx,_⟩|hf)
    ·cases hx
    ·exact .inr hf
   ·rename_i hw
    rw [if_neg hw]
    exact key _ _ h2
theorem readyL_of {done:List Nat} {q:Nat × Oper}:∀ (l:List Oper) (i:Nat),q∈readyL done i l→i≤q.1∧l[q.1 - i]? = some q.2
 | [],_,h=>by simp [readyL] at h
 | o::l,i,h=>by
  unfold readyL at h
  have hrec:q∈readyL done (i + 1) l→i≤q.1∧(o::l)[q.1 - i]? = some q.2:=fun h=>by
   obtain⟨h1,h2⟩:=readyL_of l (i + 1) h
   refine⟨by omega,?_⟩
   rw [show q.1 - i=(q.1 - (i + 1)) + 1 by omega,List.getElem?_cons_succ]
   exact h2
  split at h
  ·rcases List.mem_cons.1 h with rfl|h
   ·simp
   ·exact hrec h
  ·exact hrec h
theorem allQ_of {α:Type} {p:α→Prop}:∀ {l:List α},(∀ x∈l,p x)→allQ p l
 | [],_=>trivial
 | [x],h=>h x (List.mem_cons_self ..)
 | x::_::_,h=>⟨h x (List.mem_cons_self ..),allQ_of fun z hz=>h z (List.mem_cons_of_mem _ hz)⟩
theorem dp_end {done:List Nat} {k:Nat} {L:Sl} {H:Hp} (h:K k L H):DP Γ l K 0 done k L H:=h
theorem dp_one {n i:Nat} {o:Oper} {done:List Nat} {k:Nat} {L:Sl} {H:Hp} (hr:(readyL done 0 l).map (·.1)=[i]) (ho:l[i]? = some o) (h:DS false Γ l [o] (DP Γ l K n (i::done)) k L H):DP Γ l K (n + 1) done k L H :=
 allQ_of fun q hq=>by
  have h1:q.1∈(readyL done 0 l).map (·.1):=List.mem_map_of_mem hq
  obtain⟨_,h2⟩:=readyL_of l 0 hq
  rw [hr,List.mem_singleton] at h1
  rw [Nat.sub_zero,h1,ho] at h2
  cases h2
  rw [h1]
  exact h
theorem dp_two {n i j:Nat} {o o':Oper} {done:List Nat} {k:Nat} {L:Sl} {H:Hp} (hr:(readyL done 0 l).map (·.1)=[i,j]) (ho:l[i]? = some o) (ho':l[j]? = some o') (h:DS false Γ l [o] (DP Γ l K n (i::done)) k L H) (h':DS false Γ l [o'] (DP Γ l K n (j::done)) k L H) :
  DP Γ l K (n + 1) done k L H :=
 allQ_of fun q hq=>by
  have h1:q.1∈(readyL done 0 l).map (·.1):=List.mem_map_of_mem hq
  obtain⟨_,h2⟩:=readyL_of l 0 hq
  rw [hr] at h1
  rw [Nat.sub_zero] at h2
  rcases List.mem_cons.1 h1 with h1|h1
  ·rw [h1,ho] at h2
   cases h2
   rw [h1]
   exact h
  ·rw [List.mem_singleton] at h1
   rw [h1,ho'] at h2
   cases h2
   rw [h1]
   exact h'
theorem pick_core {id k:Nat} {L:Sl} {H:Hp} {e:Env} {a:Act} {w:World} (hm:Γ.P.follows .mixedOrders=true) (hB:jg l=true) (hnd:dt l=true) (h:DP Γ l K l.length [] k L H) (mm:Models Γ (lo k) L H e a w) :
  (Code.region id l.toArray true).wpIn (lf Γ.rd) 0 Γ.P (lift Γ (fg K)) a w:=by
 refine wpIn_region_any hm (wpAny_in (gr (Γ:=Γ) (K:=K)) hnd _ _ _ _ ?_)
 have m0:=mm.below (w':={ w with drawn:=w.drawn + 1 }) ((Beld.refl _ _ _).drew)
 have hsz:l.toArray.size=l.length:=by simp
 rw [hsz]
 refine pick_run l.length _ [] k L H e a _ (by simp) (by simp [leftN,List.countP_replicate]) (fun j=>?_) m0 h hB
 rw [ly]
 rfl
theorem dw_pickE {id k:Nat} {L:Sl} {H:Hp} {Q:f9} (k2:Nat) (L2:Sl) (H2:Hp) (hm:Γ.P.follows .mixedOrders=true) (hB:jg l=true) (hnd:dt l=true) (h:DP Γ l (fun k L H=>Ent Γ k L H k2 L2 H2) l.length [] k L H) (hk:Q .normal k2 L2 H2) :
  DW Γ (.region id l.toArray true) Q k L H:=fun _ _ _ mm=>wpIn_mono (pick_core hm hB hnd h mm) fun x a' w' hx=>by
 rcases hx with ⟨k',L',H',e',m',rfl,hE⟩|hf
 ·obtain⟨e2,m2⟩:=hE e' a' w' m'
  exact .inl ⟨k2,L2,H2,e2,m2,hk⟩
 ·exact .inr hf
end
abbrev vwN (p:Prg) (r:Rpl):Hp:=[(0,.blk 47 [.row 1,.row 2,.d (.slice 1 (p.arity.map bi)),.d (.slice 1 (p.names.map encT)),.d (.slice 5 (p.rules.map dx)),.nils]),(1,.row 53 5 (r.has.map a7)),(2,.row 53 5 (r.waits.map a7))]
attribute [local irreducible] DW DS DL DQ Ev FnOk FnP em b9 DP
set_option maxHeartbeats 8000000 in
theorem open_fn (p:Prg) (r:Rpl) (h1:r.has.length≤4398046511104) (h2:r.waits.length≤4398046511104) :
  FnOk false Tryz.prog tab cn 10 [jl p,elRpl r] 0 0 [] (fun k res H=>(dh du p=0∧ez r=0∧k=3∧res = .tup [.loc 0 0,.d (.int .i64 (mdl p (de p r)).1)]∧H=vwH p (mdl p (de p r)).2 r)∨(¬ (dh du p=0∧ez r=0)∧k=0∧res = .tup [.val (.pointer none),.d (.int .i64 (if dh du p≠0 then dh du p else ez r))]∧H=[])):=by
 refine co _ Tryz.func10 rfl rfl (by kernel_rfl) ?_
 intro O w0 E0 β0
 have w1:=scheck_fn p
 have w2:=dcheck_fn r (by omega) (by omega)
 by_cases hp:dh du p=0
 ·rw [hp] at w1
  by_cases hr:ez r=0
  ·rw [hr] at w2
   have hg:=RpGood.of hr
   have wl:=look_fn p [] r hg
   have hgl:=hg.len
   have wo:=dOwn_fn r (by omega) (by omega) (fun u hu=>short_of (hg.each u (List.mem_append_left _ hu))) (fun u hu=>short_of (hg.each u (List.mem_append_right _ hu)))
   repeat' ((fail_if_success (apply bz 6));(first|refine z0 ?_|apply ag|apply ae|refine z16 ?_|apply ai|refine z18 ?_|refine z19 ?_|apply aa|refine z21 ?_ (hc:=by apply w1)|refine z21 ?_ (hc:=by apply w2)|refine z1 ?_|fail))
   all_goals try (exfalso;omega)
   refine dw_pickE 3 [(7,.loc 0 0)] (vwH p [] r) (by kernel_rfl) (by kernel_rfl) rfl ?_ ?_
   rotate_left
   ·repeat' ((fail_if_success (apply bz 6));(first|refine z0 ?_|apply ae|refine z16 ?_|apply aa))
    refine b8 id wl rfl rfl rfl rfl ⟨rfl,rfl,rfl,trivial⟩ rfl rfl rfl rfl rfl rfl ?_ ?_
    ·rintro k2 res H2 ⟨rfl,rfl,rfl⟩;exact⟨rfl,rfl⟩
    rintro k2 res H2 ⟨rfl,rfl,rfl⟩
    change DS _ _ _ _ _ _ _ _
    repeat' (first|refine z0 ?_|apply ag|apply aj|apply aa)
    exact⟨.inl rfl,_,rfl,fun j=>match j with|1=>4|2=>5|j=>j,3,.tup [.loc 0 0,.d (.int .i64 (mdl p (de p r)).1)],vwH p (mdl p (de p r)).2 r,rfl,⟨rfl,rfl,rfl,trivial⟩,rfl,rfl,rfl,rfl,rfl,rfl,.inl ⟨hp,hr,rfl,rfl,rfl⟩⟩
   refine dp_two rfl rfl rfl ?_ ?_
   ·repeat' ((fail_if_success (apply bz 6));(first|refine z0 ?_|apply ag))
    refine dp_two rfl rfl rfl ?_ ?_
    ·refine b8 id wo rfl rfl rfl rfl trivial rfl rfl rfl rfl rfl rfl ?_ ?_
     ·rintro k2 res H2 ⟨rfl,rfl,rfl⟩;exact⟨rfl,rfl⟩
     rintro k2 res H2 ⟨rfl,rfl,rfl⟩
     change DS _ _ _ _ _ _ _ _
     repeat' ((fail_if_success (apply bz 6));(apply ag))
     refine dp_one rfl rfl ?_
     repeat' ((fail_if_success (apply bz 6));(first|refine z0 ?_|apply ag))
     refine dp_one rfl rfl ?_
     repeat' ((fail_if_success (apply bz 6));(first|refine z0 ?_|apply ag))
     refine dp_one rfl rfl ?_
     repeat' ((fail_if_success (apply bz 6));(first|apply ag|refine z1 ?_|fail))
     refine dp_one rfl rfl ?_
     repeat' ((fail_if_success (apply bz 6));(first|refine z0 ?_|apply ag))
     refine dp_end ?_
     exact kz (ap (k':=3) (L':=[(7,.loc 0 0)]) (H':=vwN p r) (fun j=>match j with|0=>4|1=>2|2=>3|j=>j) ⟨rfl,trivial⟩ ⟨rfl,rfl,rfl,trivial⟩ rfl rfl rfl rfl rfl rfl) (bp 0 5 2 rfl rfl rfl)
    ·repeat' ((fail_if_success (apply bz 6));(first|refine z0 ?_|apply ag))
     refine dp_one rfl rfl ?_
     refine b8 id wo rfl rfl rfl rfl trivial rfl rfl rfl rfl rfl rfl ?_ ?_
     ·rintro k2 res H2 ⟨rfl,rfl,rfl⟩;exact⟨rfl,rfl⟩
     rintro k2 res H2 ⟨rfl,rfl,rfl⟩
     change DS _ _ _ _ _ _ _ _
     repeat' ((fail_if_success (apply bz 6));(apply ag))
     refine dp_one rfl rfl ?_
     repeat' ((fail_if_success (apply bz 6));(first|refine z0 ?_|apply ag))
     refine dp_one rfl rfl ?_
     repeat' ((fail_if_success (apply bz 6));(first|apply ag|refine z1 ?_|fail))
     refine dp_one rfl rfl ?_
     repeat' ((fail_if_success (apply bz 6));(first|refine z0 ?_|apply ag))
     refine dp_end ?_
     exact kz (ap (k':=3) (L':=[(7,.loc 0 0)]) (H':=vwN p r) (fun j=>match j with|0=>4|1=>2|2=>3|j=>j) ⟨rfl,trivial⟩ ⟨rfl,rfl,rfl,trivial⟩ rfl rfl rfl rfl rfl rfl) (bp 0 5 2 rfl rfl rfl)
   ·repeat' ((fail_if_success (apply bz 6));(first|refine z0 ?_|apply ag))
    refine dp_one rfl rfl ?_
    repeat' ((fail_if_success (apply bz 6));(first|refine z0 ?_|apply ag))
    refine dp_one rfl rfl ?_
    refine b8 id wo rfl rfl rfl rfl trivial rfl rfl rfl rfl rfl rfl ?_ ?_
    ·rintro k2 res H2 ⟨rfl,rfl,rfl⟩;exact⟨rfl,rfl⟩
    rintro k2 res H2 ⟨rfl,rfl,rfl⟩
    change DS _ _ _ _ _ _ _ _
    repeat' ((fail_if_success (apply bz 6));(apply ag))
    refine dp_one rfl rfl ?_
    repeat' ((fail_if_success (apply bz 6));(first|refine z0 ?_|apply ag))
    refine dp_one rfl rfl ?_
    repeat' ((fail_if_success (apply bz 6));(first|apply ag|refine z1 ?_|fail))
    refine dp_one rfl rfl ?_
    repeat' ((fail_if_success (apply bz 6));(first|refine z0 ?_|apply ag))
    refine dp_end ?_
    exact kz (ap (k':=3) (L':=[(7,.loc 0 0)]) (H':=vwN p r) (fun j=>match j with|0=>4|1=>2|2=>3|j=>j) ⟨rfl,trivial⟩ ⟨rfl,rfl,rfl,trivial⟩ rfl rfl rfl rfl rfl rfl) (bp 0 5 2 rfl rfl rfl)
  ·repeat' (first|refine z0 ?_|apply ag|refine z5 ?_|apply ae|refine z16 ?_|refine z20 ?_|apply ai|apply aj|refine z18 ?_|apply aa|apply av|refine z21 ?_ (hc:=by apply w1)|refine z21 ?_ (hc:=by apply w2)|refine z1 ?_|(refine z23 ?_ ?_ <;> intro hg)|fail)
   all_goals try (exfalso;omega)
   exact⟨.inl rfl,_,rfl,id,0,.tup [.val (.pointer none),.d (.int .i64 (ez r))],[],rfl,trivial,rfl,rfl,rfl,rfl,rfl,rfl,.inr ⟨fun h=>hr h.2,rfl,by rw [if_neg (show ¬ dh du p≠0 from fun h=>h hp)],rfl⟩⟩
 ·repeat' (first|refine z0 ?_|apply ag|refine z5 ?_|apply ae|refine z16 ?_|refine z20 ?_|apply ai|apply aj|apply aa|apply av|refine z21 ?_ (hc:=by apply w1)|refine z21 ?_ (hc:=by apply w2)|refine z1 ?_|(refine z23 ?_ ?_ <;> intro hg)|fail)
  all_goals try (exfalso;omega)
  exact⟨.inl rfl,_,rfl,id,0,.tup [.val (.pointer none),.d (.int .i64 (dh du p))],[],rfl,trivial,rfl,rfl,rfl,rfl,rfl,rfl,.inr ⟨fun h=>hp h.1,rfl,by rw [if_pos hp],rfl⟩⟩
attribute [local irreducible] DT
set_option maxHeartbeats 8000000 in
theorem vopen_fn (p:Prg) (r:Rpl) (h1:r.has.length≤4398046511104) (h2:r.waits.length≤4398046511104):Fn 4 [jl p,elRpl r] (fun res=>res = .tup [.d (.slice 2 ((openV p r).1.map a6)),.d (.int .i64 (openV p r).2)]):=by
 refine ak _ Tryz.func4 rfl rfl (by kernel_rfl) ?_
 intro O w0 E0 β0
 have wo:=open_fn p r h1 h2
 have hn:=openV_none (p:=p) (r:=r)
 have hd:openV p r=if dh du p≠0 then ([],dh du p) else if ez r≠0 then ([],ez r) else ((mdl p (de p r)).2,(mdl p (de p r)).1):=rfl
 generalize openV p r=o at *
 obtain⟨s,e⟩:=o
 repeat' (first|refine z0 ?_|apply ag|apply ae|refine z16 ?_|apply aa|refine z1 ?_|fail)
 refine b8 id wo rfl rfl rfl rfl trivial rfl rfl rfl rfl rfl rfl ?_ ?_
 ·rintro k2 res H2 (⟨_,_,rfl,rfl,rfl⟩|⟨_,rfl,rfl,rfl⟩) <;> exact⟨rfl,rfl⟩
 rintro k2 res H2 (⟨hp,hr,rfl,rfl,rfl⟩|⟨hpr,rfl,rfl,rfl⟩)
 ·rw [if_neg (by simpa using hp),if_neg (by simpa using hr)] at hd
  generalize mdl p (de p r)=x at *
  obtain⟨xe,xs⟩:=x
  cases hd
  dsimp only at hn
  clear wo
  change DS _ _ _ _ _ _ _ _
  by_cases he:xe=0
  ·subst he
   repeat' (first|refine z0 ?_|apply ag|apply ae|refine z16 ?_|apply ai|apply aj|refine z19 ?_|apply aa)
   all_goals try (exfalso;omega)
   exact⟨.inl rfl,_,rfl,rfl,rfl⟩
  ·have hm:=hn he
   subst hm
   repeat' (first|refine z0 ?_|apply ag|apply ae|refine z16 ?_|apply ai|apply aa|(refine z23 ?_ ?_ <;> intro hg)|fail)
   all_goals try (exfalso;omega)
   refine ba (cr 4 2 rfl) ?_
   repeat' (first|apply aj|apply av)
   exact⟨.inl rfl,_,rfl,rfl,rfl⟩
 ·clear wo
  change DS _ _ _ _ _ _ _ _
  have hx:s=[]∧e=(if dh du p≠0 then dh du p else ez r)∧e≠0:=by
   by_cases hp:dh du p=0
   ·have hr:ez r≠0:=fun h=>hpr ⟨hp,h⟩
    rw [if_neg (by simpa using hp),if_pos hr] at hd
    cases hd
    exact⟨rfl,by rw [if_neg (by simpa using hp)],hr⟩
   ·rw [if_pos hp] at hd
    cases hd
    exact⟨rfl,by rw [if_pos hp],hp⟩
  obtain⟨rfl,he,h0⟩:=hx
  rw [← he]
  repeat' (first|refine z0 ?_|apply ag|apply ae|refine z16 ?_|apply ai|apply aa|(refine z23 ?_ ?_ <;> intro hg)|fail)
  all_goals try (exfalso;omega)
  refine ba (cr 4 2 rfl) ?_
  repeat' (first|apply aj|apply av)
  exact⟨.inl rfl,_,rfl,rfl,rfl⟩
end Go.Proofs.YtapciiffpnociaaGreat
namespace Go.Proofs.YtapciiffpnociaaGreat
open Go Go.RowKit
attribute [local irreducible] DW DS DL DQ Ev FnOk FnP em b9 DWr
attribute [local irreducible] DT

def d8:Rul:=⟨1,[⟨0,0⟩,⟨1,0⟩],0,[⟨1,0,0,[⟨0,0⟩,⟨1,0⟩]⟩],2⟩
theorem d9:smallP.rules=[d8,kh]:=rfl
theorem small_doc:docOk smallP=true:=by kernel_rfl
theorem small_lv:eo smallP=[0,0]:=by kernel_rfl
theorem small_err:mErr smallP pairsF=0:=by
 unfold mErr
 rw [if_neg (by rw [show dh du smallP=0 by kernel_rfl];simp),if_neg (by rw [small_doc];simp)]
 kernel_rfl
theorem one_way {S:List Fct} {r:Rul} {o:List (List Int)} (h:ij S r.body (ld r.body) (e0 r.vars.toNat)=o) (hs:SortW o) (hl:o.length≤2000):ed S r=true∧gk S r=o:=by
 have hw:waysL S r.vars.toNat r.body=o:=(waysL_eq hs (by rw [h])).symm
 have hm:ed S r=true:=by unfold ed;rw [hw];exact decide_eq_true hl
 exact⟨hm,by unfold gk;rw [if_pos hm,hw]⟩
theorem sortW_two {a b:List Int} (h:ep a b≤0):SortW [a,b]:=List.pairwise_cons.2 ⟨fun x hx=>by rw [List.mem_singleton] at hx;subst hx;exact h,List.pairwise_singleton _ _⟩
def midF:List Fct:=[⟨0,[1,2]⟩,⟨0,[2,3]⟩,⟨1,[1,2]⟩,⟨1,[2,3]⟩]
theorem q_pairs:ed pairsF d8=true∧gk pairsF d8=[[1,2],[2,3]]:=one_way (by kernel_rfl) (sortW_two (by decide)) (by simp)
theorem q_full:ed fullF d8=true∧gk fullF d8=[[1,2],[2,3]]:=one_way (by kernel_rfl) (sortW_two (by decide)) (by simp)
theorem r_mid:ed midF kh=true∧gk midF kh=[[1,2,3]]:=one_way (by kernel_rfl) (List.pairwise_singleton _ _) (by simp)
theorem r_full:ed fullF kh=true∧gk fullF kh=[[1,2,3]]:=one_way (by kernel_rfl) (List.pairwise_singleton _ _) (by simp)
theorem small_fct:∀ x∈fullF,FctOk smallP.arity x:=by
 intro x hx
 have:cu (ky smallP.arity) fullF=0:=by kernel_rfl
 exact factE_ok (gv this x hx)
theorem small_strict:Strict fullF:=by
 have:=(bn fullF).1
 rw [show bq fullF=fullF by kernel_rfl] at this
 exact this
theorem small_model:ModelR smallP pairsF 0 fullF:=by
 have ho:=mOk small_err
 have hV:=lvV_ok ho.pr ho.fit 0 pairsF
 have hset0:bq pairsF=pairsF:=by kernel_rfl
 have hst0:Strict pairsF:=by
  have:=(bn pairsF).1
  rw [hset0] at this
  exact this
 have i0:InvM (lvV smallP (eo smallP) 0 pairsF) pairsF pairsF:=kx hst0 ⟨ho.facts,fun _ _=>Iff.rfl⟩ (by decide)
 have hQ:d8∈(lvV smallP (eo smallP) 0 pairsF).rs:=List.mem_filter.2 ⟨by rw [d9];simp,by rw [small_lv];decide⟩
 have hR:kh∈(lvV smallP (eo smallP) 0 pairsF).rs:=List.mem_filter.2 ⟨by rw [d9];simp,by rw [small_lv];decide⟩
 have hq:hdW pairsF d8=[⟨1,[1,2]⟩,⟨1,[2,3]⟩]:=by unfold hdW;rw [q_pairs.2];kernel_rfl
 have hr:hdW midF kh=[⟨1,[1,3]⟩]:=by unfold hdW;rw [r_mid.2];kernel_rfl
 have hqf:hdW fullF d8=[⟨1,[1,2]⟩,⟨1,[2,3]⟩]:=by unfold hdW;rw [q_full.2];kernel_rfl
 have hrf:hdW fullF kh=[⟨1,[1,3]⟩]:=by unfold hdW;rw [r_full.2];kernel_rfl
 have i1:=inv_put hV i0 (H:=[⟨1,[1,2]⟩,⟨1,[2,3]⟩]) (fun x hx=>⟨d8,hQ,pairsF,i0,by show x∈hdW pairsF d8;rw [hq];exact hx⟩) (by decide)
 rw [show bq (pairsF++[⟨1,[1,2]⟩,⟨1,[2,3]⟩])=midF by kernel_rfl] at i1
 have i2:=inv_put hV i1 (H:=[⟨1,[1,3]⟩]) (fun x hx=>⟨kh,hR,midF,i1,by show x∈hdW midF kh;rw [hr];exact hx⟩) (by decide)
 rw [show bq (midF++[⟨1,[1,3]⟩])=fullF by kernel_rfl] at i2
 have hfit0:Fit (lvV smallP (eo smallP) 0 pairsF) pairsF fullF:=by
  have key:∀ r∈(lvV smallP (eo smallP) 0 pairsF).rs,ed fullF r=true∧∀ x∈hdW fullF r,x∈fullF:=by
   intro r hr'
   have hm:=(List.mem_filter.1 hr').1
   rw [d9] at hm
   simp only [List.mem_cons,List.not_mem_nil,or_false] at hm
   rcases hm with rfl|rfl
   ·refine⟨q_full.1,fun x hx=>?_⟩
    rw [hqf] at hx
    simp only [List.mem_cons,List.not_mem_nil,or_false] at hx
    rcases hx with rfl|rfl <;> simp [fullF]
   ·refine⟨r_full.1,fun x hx=>?_⟩
    rw [hrf] at hx
    simp only [List.mem_cons,List.not_mem_nil,or_false] at hx
    subst hx
    simp [fullF]
  exact fit_done i2 (fun r hr=>(key r hr).1) fun r hr=>(key r hr).2
 have hfit1:Fit (lvV smallP (eo smallP) 1 fullF) fullF fullF:=by
  have hno:∀ r∈(lvV smallP (eo smallP) 1 fullF).rs,False:=by
   intro r hr'
   obtain⟨hm,hl⟩:=List.mem_filter.1 hr'
   rw [d9] at hm
   simp only [List.mem_cons,List.not_mem_nil,or_false] at hm
   rw [small_lv] at hl
   rcases hm with rfl|rfl <;> exact absurd (of_decide_eq_true hl) (by decide)
  exact fit_done (kx small_strict ⟨small_fct,fun _ _=>Iff.rfl⟩ (by decide)) (fun r hr=>(hno r hr).elim) fun r hr=>(hno r hr).elim
 refine .ok fullF small_err ⟨fullF,⟨pairsF,?_,?_⟩,?_⟩
 ·show pairsF=bq pairsF
  exact hset0.symm
 ·exact hfit0
 ·exact hfit1

end Go.Proofs.YtapciiffpnociaaGreat
