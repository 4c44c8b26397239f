/- Several texts in one: WhB WhC WhD WhE WhF WhG WhH WhI WhJ WhK WhL WhM WhN. Condition: none. -/
import Derived.Test.YtapciiffpnociadGreatM23
set_option linter.all false
set_option maxHeartbeats 8000000
open Bool renaming and_eq_true→Ad,and_true→Fo,false_and→Cm,true_and→Bo
open List renaming all_append→C9,all_eq_true→Bg,append_assoc→Bt,filter_append→C3,foldl_cons→A2,getElem?_eq_getElem→Ab,getElem_map→C5,getElem_mem→Ag,getElem_of_mem→Eg,getElem_take→D1,length_append→Ap,length_map→Aa,length_take→Au,map_append→Av,mem_append_right→B7,mem_singleton→A5,take_of_length_le→Ak,take_succ_eq_append_getElem→Am
open Nat renaming le_refl→Af,lt_of_lt_of_le→Aq,not_lt_zero→A6,zero_le→Ai
namespace Go.Proofs.YtapciiffpnociadGreat
open Go Go.RowKit
variable [Bnds]
attribute [local irreducible] DW DS DL DQ Ev FnOk FnP dp bh DWr
def rm (x:Ltl):Bool:=decide (x.kind=1)
def vq (vars:List Int) (x:Ltl):Fct:=⟨x.pred,x.terms.map (vA vars)⟩
def qd (r:Rul) (vars:List Int):List (List SV):=(r.body.filter rm).map λx=>[c9 (vq vars x)]
def x8 (r:Rul) (i:Nat):Nat:=((r.body.take i).filter rm).length
theorem yes_fn (r:Rul) (vars:List Int):Fn 101 [k8 r,.d (.slice 1 (vars.map ah))] (λres=>res = .fn 153 [.pd (a6 r),.pd [.slice 1 (vars.map ah)]]):=by
 refine fqE Tryz.func101 ?_;intro O w0 E0 β0;repeat' ((fail_if_success (apply cp 1));(first|refine zs ?_|fail))
 refine au (cv (ds:=a6 r) 2 0 rfl rfl) ?_;refine au (cv (ds:=[.slice 1 (vars.map ah)]) 3 1 rfl rfl) ?_;repeat' (first|refine zr ?_|fail)
 exact⟨.inl rfl,_,rfl,rfl,rfl⟩
theorem yesX_each (r:Rul) (vars:List Int):∀ x∈qd r vars,1=x.length/\SV.lowL 0 x=true:=by
 intro x hx;unfold qd at hx;obtain⟨y,_,rfl⟩:=List.mem_map.1 hx;exact⟨rfl,rfl⟩
theorem cntY_skip {r:Rul} {i:Nat} (hi:i<r.body.length) (h:rm r.body[i]=false):x8 r (i+1)=x8 r i:=by
 unfold x8;rw [Am hi,C3,Ap];simp [h]
theorem cntY_step {r:Rul} {i:Nat} (hi:i<r.body.length) (h:rm r.body[i]=true):x8 r (i+1)=x8 r i+1:=by
 unfold x8;rw [Am hi,C3,Ap];simp [h]
theorem cntY_all {r:Rul} (vars:List Int) {i:Nat} (hi:r.body.length<=i):x8 r i=(qd r vars).length:=by
 unfold x8 qd;rw [Ak hi,Aa]
theorem yesX_at {r:Rul} (vars:List Int) {i:Nat} (hi:i<r.body.length) (h:rm r.body[i]=true):∃ hc:x8 r i<(qd r vars).length,(qd r vars)[x8 r i]=[c9 (vq vars r.body[i])]:=by
 have hsplit:r.body.filter rm=(r.body.take i).filter rm++r.body[i]::(r.body.drop (i+1)).filter rm:=by
  conv=>lhs;rw [<- List.take_append_drop i r.body,C3,List.drop_eq_getElem_cons hi]
  rw [List.filter_cons_of_pos h]
 have h1:(qd r vars)[x8 r i]?=some [c9 (vq vars r.body[i])]:=by
  unfold qd x8;rw [hsplit,List.getElem?_map,List.getElem?_append_right (Af _),Nat.sub_self];rfl
 obtain⟨h2,h3⟩:=List.getElem?_eq_some_iff.1 h1;exact⟨h2,h3⟩
abbrev ygL (yv pv qv bv:Value) (n i:Nat):Sl:=[(0,.val yv),(1,.val pv),(2,.val qv),(7,.val bv),(8,.d (.int .i64 n)),(9,.d (.int .i64 i))]
abbrev yg0 (yv pv bv:Value) (n i:Nat):Sl:=[(0,.val yv),(1,.val pv),(7,.val bv),(8,.d (.int .i64 n)),(9,.d (.int .i64 i))]
set_option maxHeartbeats 4000000 in
theorem yes1_seq (r:Rul) (vars:List Int) (hok:∀ x∈r.body,x.kind=1->(∀ t∈x.terms,okT vars.length t)/\x.terms.length<=1000000):SeqD Tryz.prog 153 [.pd (a6 r),.pd [.slice 1 (vars.map ah)]] (qd r vars):=by
 refine⟨by kernel_rfl,?_⟩
 intro X e0 W0 lb l J Jx hX hT hlb hJ0 hfr hJb hJxb hJxs hy;match lb,hlb with
 | [pv,qv],⟨hpd,hqd,_⟩ =>
  have hpd':=hpd;obtain⟨b,off,hpv,hb,hnX,hcells⟩:=hpd';obtain⟨u3,hc3,hr3⟩:=hcells 3 (by show 3<5;omega);have hr3:RepC X W0 u3 (.slice 4 (r.body.map ay)):=hr3;obtain⟨ao,cap,hu3,hcap,hmax,_⟩:=hr3.slice_inv;have hlen:(r.body.map ay).length=r.body.length:=Aa _;rw [hlen] at hu3 hcap;have hbl:r.body.length<=maxLen:=by omega
  have hbm:r.body.length<=9223372036854775807:=by unfold maxLen at hbl;omega
  refine callsIn_wide.1 (callsIn_of_wp_marks (F:=Fence.wide) (n:=0) Tryz.func153 rfl trivial ?_);have hF0:Flat 29 [(0,.val (.func (.yield l) #[] #[])),(1,.val pv),(2,.val qv)] { tmps:=(#[.func (.yield l) #[] #[]]++[pv,qv].toArray)++Array.replicate 26 undef,defers:=[] }:=by
   refine⟨by simp,rfl,λt X e w=>?_⟩
   rw [Sl.get_cons];split
   ·rename_i h;subst h;simp [Rel]
   ·rw [Sl.get_cons];split
    ·rename_i h;subst h;simp [Rel]
    ·rw [Sl.get_cons];split
     ·rename_i h;subst h;simp [Rel]
     ·trivial
  have hret:∀ (ex:Exit) (a:Act) (W:World),(ex = .normal∨ex = .ret)->a.defers=[]->(J (qd r vars).length W∨Jx W) ->
    bodyPostM Fence.wide 0 Tryz.prog Tryz.f153 (λen W'=>(∃ v,en = .returned v)/\(J (qd r vars).length W'∨Jx W')) ex a W:=by
   rintro ex a W hx hd hj;have:LeavesInM Fence.wide 0 Tryz.prog Tryz.f153 a.tmps (λen W'=>(∃ v,en = .returned v)/\(J (qd r vars).length W'∨Jx W')) a.defers .returning W:=by
    rw [hd];exact⟨.tuple #[],by simp [results,Tryz.f153],⟨_,rfl⟩,hj⟩
   rcases hx with rfl|rfl<;>exact this
  obtain⟨QQ,hQQ⟩:∃ QQ,QQ=bodyPostM Fence.wide 0 Tryz.prog Tryz.f153 (λen W'=>(∃ v,en = .returned v)/\(J (qd r vars).length W'∨Jx W')):=⟨_,rfl⟩;rw [<- hQQ] at hret ⊢;clear hQQ;refine wpIn_seq (wpIn_mono (Q:=λex a' w'=>ex = .normal/\Flat 29 (ygL (.func (.yield l) #[] #[]) pv qv u3 r.body.length 0) a'/\Below W0.heap.size W0 w') ?_ ?_)
  ·have m0:=hF0.models (P:=Tryz.prog) (τ:=tab) (τok:=bp) (O:=X) W0 hX hT;refine dwr_run m0 (dwr_of rfl ?_);subst hpv hu3;apply s8;exact rfl;refine jo (ev_fa_val (l:=[(0,3,1),(1,61,1),(2,3,1),(3,62,1),(4,3,1)]) rfl rfl rfl 1 rfl) rfl rfl ?_;refine jo (ev_ld_val (u:=.slice ao r.body.length cap) 6 rfl rfl rfl hc3 (λ_=>id)) rfl rfl ?_;refine jo (ev_len_val 7 (t':=68) rfl rfl hbl) rfl rfl ?_;repeat' (first|refine zs ?_|fail)
   intro e a w m;exact⟨rfl,m.flatten ⟨rfl,rfl,rfl,rfl,rfl,rfl,trivial⟩ rfl,m.toHeap.it_below⟩
  rintro ex a0 w0 ⟨rfl,hf0,hbl0⟩;refine wpIn_block (wpIn_loop_ghost (λn a W=>∃ i,i<=r.body.length/\n=r.body.length-i/\Flat 29 (ygL (.func (.yield l) #[] #[]) pv qv u3 r.body.length i) a/\J (x8 r i) W) r.body.length ⟨0,Ai _,rfl,hf0,hJb _ _ _ hJ0 hbl0⟩ ?_);rintro n a W ⟨i,hi,rfl,hf,hj⟩;obtain⟨hsz,hfrW⟩:=hfr _ _ hj;have hOW:∀ b,Oit X W0 W b->b<W.heap.size:=λb h=>h.1
  have m0:=hf.models (P:=Tryz.prog) (τ:=tab) (τok:=bp) (O:=Oit X W0 W) W hOW (hT.grow hsz);have hv2:∀ {k:Nat} {L:Sl} {H:Hp} {e:Env} {a:Act} {w:World},Models (Γit Tryz.prog tab bp (Oit X W0 W) W 29) (lo k) L H e a w->L.get 2 = .val qv->Models (Γit Tryz.prog tab bp (Oit X W0 W) W 29) (lo k) ((2,.pd [.slice 1 (vars.map ah)])::L) H e a w :=
   λm h=>m.val_as 2 h (it_rel hsz hfrW rfl hqd m.toHeap)
  have hv7:∀ {k:Nat} {L:Sl} {H:Hp} {e:Env} {a:Act} {w:World},Models (Γit Tryz.prog tab bp (Oit X W0 W) W 29) (lo k) L H e a w->L.get 7 = .val u3->Models (Γit Tryz.prog tab bp (Oit X W0 W) W 29) (lo k) ((7,.d (.slice 4 (r.body.map ay)))::L) H e a w :=
   λm h=>m.val_as 7 h (it_rel (e0:=e0) (s:=.d (.slice 4 (r.body.map ay))) hsz hfrW rfl hr3 m.toHeap)
  refine dwr_run m0 ?_;have hr5:∀ (c5:Code) (a:Act) (W':World),i<r.body.length->Flat 29 (ygL (.func (.yield l) #[] #[]) pv qv u3 r.body.length i) a->J (x8 r (i+1)) W' ->
    DW (Γit Tryz.prog tab bp X W' 29) c5 (λex _ L _=>ex = .normal/\th L (ygL (.func (.yield l) #[] #[]) pv qv u3 r.body.length (i+1))) 0 (ygL (.func (.yield l) #[] #[]) pv qv u3 r.body.length i) [] ->
    Code.wpIn Fence.wide 0 Tryz.prog c5 (Exit.then (λa' w'=>∃ n',n'<r.body.length-i/\∃ i,i<=r.body.length/\n'=r.body.length-i/\Flat 29 (ygL (.func (.yield l) #[] #[]) pv qv u3 r.body.length i) a'/\J (x8 r i) w') (Exit.inBlock 0 (λex a w=>QQ ex a w))) a W':=by
   intro c5 a W' hlt hf' hj' h5;have hO':∀ b,X b->b<W'.heap.size:=λb h=>Aq (hX b h) (hfr _ _ hj').1
   have m1:=hf'.models (P:=Tryz.prog) (τ:=tab) (τok:=bp) (O:=X) W' hO' (hT.grow (hfr _ _ hj').1);refine wpIn_mono (dw_run m1 h5) ?_;rintro ex a2 w2 (⟨k2,L2,H2,e2,m2,rfl,hk2⟩|⟨_,_,_,_,_,_,hv,_⟩)
   ·exact⟨r.body.length-(i+1),by omega,i+1,by omega,rfl,m2.flatten hk2 rfl,hJb _ _ _ hj' m2.toHeap.it_below⟩
   ·exact hv.elim
  refine rt rfl ?_;repeat' (first|refine zs ?_|fail)
  refine rt rfl ?_;by_cases hlt:i<r.body.length
  rotate_left
  ·repeat' (first|refine zs ?_|(refine zm ?_ ?_<;>intro hg)|(exfalso;omega))
   intro e a w m;refine hret .normal a w (.inl rfl) (m.flatten (Ls:=[]) trivial rfl).defers (.inl ?_);rw [<- cntY_all (r:=r) vars (i:=i) (by omega)];exact hJb _ _ _ hj m.toHeap.it_below
  repeat' (first|refine zs ?_|(refine zm ?_ ?_<;>intro hg)|(exfalso;omega))
  refine dwr_seqR (dwr_block ?_);refine rt rfl ?_;apply s8;exact rfl;refine jo (ev_val ((7,.d (.slice 4 (r.body.map ay)))::_) (λe a w m=>hv7 m rfl) (ev_index_map (f:=ay) (l:=r.body) (t':=68) rfl rfl rfl rfl rfl rfl hlt)) rfl rfl ?_;repeat' (first|refine zs ?_|fail)
  have hok':=hok _ (Ag hlt);have hat:=yesX_at vars hlt;have hskip:=cntY_skip hlt;have hstep:=cntY_step hlt;generalize r.body[i]=x at hok' hat hskip hstep ⊢;obtain⟨kind,op,pred,terms⟩:=x;dsimp only at hok' ⊢;by_cases hk1:kind=1
  ·subst hk1;obtain⟨hc,hx⟩:=hat rfl;obtain⟨ho1,ho2⟩:=hok' rfl;have w1:=args_fn terms vars ho1 ho2;refine dwr_seqR (dwr_yieldA (l:=l) (d:=25) (N:=29) (g:=some (3,true)) (fy:=17) (pre:=[_,_,_,_,_,_,_,_,_,_,_,_]) (post:=[_,_]) (by kernel_rfl) (by rfl) (by kernel_rfl) (by kernel_rfl) (by rfl) (by rfl) (by rfl) (by rfl)
    ((2,.pd [.slice 1 (vars.map ah)])::_) (λe a w m=>hv2 m rfl) 2 qv rfl (by rfl) ((16,.d (.bool true))::yg0 (.func (.yield l) #[] #[]) pv u3 r.body.length i) rfl (λb=>(27,.d (.bool (!b)))::ygL (.func (.yield l) #[] #[]) pv qv u3 r.body.length i) (J (x8 r (i+1))) Jx ?_ ?_ ?_ (λW1 h=>h.elim (λh=>hT.grow (hfr _ _ h).1) (λh=>hT.grow (hJxs _ h))))
   ·repeat' (first|refine zs ?_|refine z22 ?_ (hc:=by apply w1)|fail)
    refine⟨rfl,rfl,rfl,⟨rfl,rfl,rfl,rfl,rfl,rfl,trivial⟩,λe W' vs hb1 hvs=>?_⟩
    have:=hy (x8 r i) hc W W' vs hj hb1 ⟨e,by rw [hx];exact hvs⟩
    rw [<- hstep rfl] at this;exact this
   ·intro b W';repeat' (first|refine zs ?_|fail)
    exact⟨rfl,⟨rfl,rfl,rfl,rfl,rfl,rfl,rfl,trivial⟩,rfl⟩
   ·rintro b a' W' hfl ⟨W1,hb1,hj1⟩;have hfl':Flat 29 (ygL (.func (.yield l) #[] #[]) pv qv u3 r.body.length i) a':=⟨hfl.len,hfl.defers,λt X e w=>by
     have:=hfl.slot t X e w
     rw [Sl.get_cons] at this;split at this
     ·rename_i h;subst h;trivial
     ·exact this⟩
    have hv:a'.eval (.tmp 27) = .bool (!b):=by
     have h1:=hfl.slot 27 (λ_=>False) ⟨λ_=>0,λ_=>undef,lo 0⟩ W';have h1:RepC _ W' (a'.tmps.getD 27 undef) (.bool (!b)):=h1;show a'.tmps.getD 27 undef=_;generalize a'.tmps.getD 27 undef=v at h1 ⊢;cases h1;rfl
    rcases hj1 with ⟨rfl,hj1⟩|⟨rfl,hj1⟩
    ·refine wpIn_cond_false hv (wpIn_skip ?_);refine hr5 _ a' W' hlt hfl' (hJb _ _ _ hj1 hb1) ?_;repeat' (first|refine zs ?_|fail)
     exact⟨rfl,rfl,rfl,rfl,rfl,rfl,rfl,trivial⟩
    ·refine wpIn_cond_true hv (wpIn_ret ?_);exact hret .ret a' W' (.inr rfl) hfl.defers (.inr (hJxb _ _ hj1 hb1))
  ·refine rt rfl ?_;repeat' (first|refine zs ?_|(refine zm ?_ ?_<;>intro hg)|(exfalso;omega))
   unfold DWr;intro e a w m;have hv:a.eval (.tmp 27) = .bool false:=by
    have h1:RepC _ w (a.tmps.getD 27 undef) (.bool false):=m.slot 27;show a.tmps.getD 27 undef=_;generalize a.tmps.getD 27 undef=v at h1 ⊢;cases h1;rfl
   refine wpIn_cond_false hv (wpIn_skip ?_);refine hr5 _ a w hlt (m.flatten ⟨rfl,rfl,rfl,rfl,rfl,rfl,trivial⟩ rfl) (by rw [hskip (decide_eq_false hk1)];exact hJb _ _ _ hj m.toHeap.it_below) ?_;repeat' (first|refine zs ?_|fail)
   exact⟨rfl,rfl,rfl,rfl,rfl,rfl,rfl,trivial⟩
variable [Bnds]
abbrev chkD (p:Prg) (l m:List Fct):List D:=[.slice 1 (p.arity.map ah),.slice 1 (p.names.map dl),.slice 5 (p.rules.map a6),.slice 2 ((av l).map aa),.slice 2 (m.map aa)]
attribute [local irreducible] DT
theorem cway1_fn (n w:List Int):Fn 152 ([elW w]++[.pd [.slice 1 (n.map ah)]]) (λres=>res = .d (.bool (decide (w=n)))):=by
 refine fqE Tryz.func152 ?_;intro O w0 E0 β0;have w1:=s0 w n;repeat' (first|refine zr ?_|refine z21 ?_ (hc:=by apply w1)|fail)
 exact cm rfl rfl
theorem containsW_fn {f:FuncId} {caps:List SV} (p:List Int->Bool) (l:List (List Int)) (hcap:SV.lowL 0 caps=true) (hp:∀ x∈l,Fn f (elW x::caps) (λr=>r = .d (.bool (p x)))):Fn 151 [.d (.slice 1 (l.map cx)),.fn f caps] (λr=>r = .d (.bool (l.any p))):=by
 refine fqE Tryz.func151 ?_;intro O w0 E0 β0;have hx:=indexW_fn p l hcap hp;have hlow:SV.lowL 0 [.d (.slice 1 (l.map cx)),.fn f caps]=true:=by simp [SV.lowL,SV.low,hcap]
 repeat' (first|refine zr ?_|refine z21 ?_ (hc:=by apply hx)|fail)
 exact cm rfl (qu p l)
theorem cway_fn (p:Prg) (l m:List Fct) (r:Rul) (n:List Int) (hS:Strict m) (hS2:m.length<=4398046511104) (hr:RulS m r) (hm:manyW m r=true) :
  Fn 98 [.pd (chkD p l m),k8 r,.d (.slice 1 (n.map ah))] (λres=>res = .tup [.d (.slice 1 ((if (n.length:Int)=r.vars then dg m r else []).map cx)),.d (.bool (decide ((n.length:Int)=r.vars) && (dg m r).any λw=>decide (w=n)))]):=by
 refine fqE Tryz.func98 ?_;intro O w0 E0 β0;have ln:(n.map ah).length=n.length:=Aa _;have w1:=raw_fn m r hS hS2 hr;rw [hm] at w1;have w2:=containsW_fn (caps:=[.pd [.slice 1 (n.map ah)]]) (λw=>decide (w=n)) (dg m r) rfl (λw _=>cway1_fn n w);by_cases hv:(n.length:Int)=r.vars
 ·rw [decide_eq_true hv,Bo,if_pos hv];repeat' ((fail_if_success (apply cp 4));(first|refine zr ?_|refine z22 ?_ (hc:=by apply w1)|(refine zm ?_ ?_<;>intro hg)|fail))
  all_goals try (exfalso;omega)
  refine au (cv (ds:=[.slice 1 (n.map ah)]) 5 1 rfl rfl) ?_;repeat' (first|refine zr ?_|refine z21 ?_ (hc:=by apply w2)|fail)
  exact⟨.inl rfl,_,rfl,rfl,rfl⟩
 ·rw [decide_eq_false hv,Cm,if_neg hv];repeat' (first|refine zs ?_|(refine zm ?_ ?_<;>intro hg)|(exfalso;omega))
  refine au (dz 6 1 rfl) ?_;repeat' (first|refine zr ?_|fail)
  exact⟨.inl rfl,_,rfl,rfl,rfl⟩
variable [Bnds]
def ki (r:Rul) (m:List Fct) (ahead:List Stp) (x:Stp):Bool :=
 (dg m r).any (λw=>decide (w=x.vars)) &&
  (if r.fold=0 then decide (cu ⟨r.pred,aW r x.vars⟩ x.fact=0) && (r.body.filter rm).all λz=>oa ahead (vq x.vars z)
  else hasF (hdW m r) x.fact && decide (x.fact.args.take (r.terms.length-1)=(aW r x.vars).take (r.terms.length-1)))
def qg (p:Prg) (l m:List Fct) (ahead:List Stp) (x:Stp):Bool :=
 if x.rule = -1 then hasF l x.fact && decide (x.vars.length=0)
 else if h:0<=x.rule/\x.rule.toNat<p.rules.length then ki (p.rules[x.rule.toNat]'h.2) m ahead x else false
structure RuleM (p:Prg) (m:List Fct) (r:Rul):Prop where
 ok:HeadOk p.arity r (dg m r)
 s:RulS m r
 many:manyW m r=true
theorem ModelR.rule {p:Prg} {l m:List Fct} (hx:ModelR p l 0 m) {r:Rul} (hr:r∈p.rules):RuleM p m r:=by
 have ho:=mOk hx.ok0;obtain⟨s1,s2,s3⟩:=hx.strict;have hnd:m.Nodup:=s1.imp λh he=>by subst he;exact lt_irrefl h
 have h1:=ho.pr.rul r hr;obtain⟨g1,g2⟩:=ho.lvs r hr;refine⟨raw_ok h1 ho.pr.ar s3 hnd,oq h1 ho.pr.ar s3,?_⟩
 exact (RunTo.heads ho.pr ho.fit ho.facts ho.len (ModelR.run hx.ok0 hx) hr g1 g2).1
theorem any_mem {ws:List (List Int)} {n:List Int} (h:(ws.any λw=>decide (w=n))=true):n∈ws:=by
 obtain⟨w,hw,h⟩:=List.any_eq_true.1 h;rwa [<- of_decide_eq_true h]
abbrev isH (r:Rul) (ahead:List Stp) (x:Stp) (b:Bool):Hp:=[(4,.blk 37 [.d (.int .i64 r.pred),.d (.slice 1 ((aW r x.vars).map ah))]),(3,.blk 64 [.d (.int .i64 r.pred),.d (.slice 2 (r.terms.map aw)),.d (.int .i64 r.fold),.d (.slice 4 (r.body.map ay)),.d (.int .i64 r.vars)]),(2,.blk 4 [.d (.bool b)]),(1,.blk 39 [.d (.int .i64 x.fact.pred),.d (.slice 1 (x.fact.args.map ah)),.d (.int .i64 x.rule),.d (.slice 1 (x.vars.map ah))]),(0,.blk 28 [.d (.slice 4 (ahead.map ck))])]
theorem is_fn (p:Prg) (l m:List Fct) (ahead:List Stp) (x:Stp) (hx:ModelR p l 0 m) :
  Fn 47 [.pd (chkD p l m),.d (.slice 4 (ahead.map ck)),elStp x] (λres=>res = .d (.bool (qg p l m ahead x))):=by
 have ho:=mOk hx.ok0;obtain⟨s1,s2,s3⟩:=hx.strict;have hl60:=ho.len;have hsl:=fu l;refine fqE Tryz.func47 ?_;intro O w0 E0 β0;have lr:(p.rules.map a6).length=p.rules.length:=Aa _;have lv:(x.vars.map ah).length=x.vars.length:=Aa _;have w1:=in_fn (av l) x.fact (by omega) (a8 l).1;rw [hasF_set] at w1;by_cases h1:x.rule = -1
 ·have hst:qg p l m ahead x=(hasF l x.fact && decide (x.vars.length=0)):=if_pos h1;have hd:decide (((x.vars.map ah).length:Int)=0)=decide (x.vars.length=0):=by rw [lv];simp
  rw [hst,<- hd];cases hb:hasF l x.fact with
  | true =>
   rw [hb] at w1;rw [Bo];repeat' (first|refine zr ?_|refine z22 ?_ (hc:=by apply w1)|(refine zm ?_ ?_<;>intro hg)|(exfalso;omega))
   all_goals exact⟨.inl rfl,_,rfl,rfl,rfl⟩
  | false =>
   rw [hb] at w1;rw [Cm];repeat' (first|refine zr ?_|refine z22 ?_ (hc:=by apply w1)|(refine zm ?_ ?_<;>intro hg)|(exfalso;omega))
   all_goals exact⟨.inl rfl,_,rfl,rfl,rfl⟩
 ·by_cases hr:0<=x.rule/\x.rule.toNat<p.rules.length
  ·have hst:qg p l m ahead x=ki (p.rules[x.rule.toNat]'hr.2) m ahead x:=by unfold qg;rw [if_neg h1,dif_pos hr]
   rw [hst];have hM:=hx.rule (Ag hr.2);repeat' ((fail_if_success (apply cp 6));(first|refine zr ?_|refine z22 ?_ (hc:=by apply w1)|(refine zm ?_ ?_<;>intro hg)|fail))
   all_goals try (exfalso;omega)
   generalize p.rules[x.rule.toNat]'hr.2=r at hM ⊢;refine au (ag (k':=4) (L':=[(0,.pd (chkD p l m)),(4,.loc 0 0),(5,.loc 1 0),(6,.loc 2 0),(7,.loc 3 0)]) (H':=[(3,.blk 64 [.d (.int .i64 r.pred),.d (.slice 2 (r.terms.map aw)),.d (.int .i64 r.fold),.d (.slice 4 (r.body.map ay)),.d (.int .i64 r.vars)]),(2,.blk 4 [.d (.bool false)]),(1,.blk 39 [.d (.int .i64 x.fact.pred),.d (.slice 1 (x.fact.args.map ah)),.d (.int .i64 x.rule),.d (.slice 1 (x.vars.map ah))]),(0,.blk 28 [.d (.slice 4 (ahead.map ck))])])
    (λj=>match j with|3=>12|j=>j) ⟨rfl,rfl,rfl,rfl,rfl,trivial⟩ ⟨rfl,rfl,rfl,rfl,trivial⟩ rfl rfl rfl rfl rfl rfl) ?_
   have w2:=cway_fn p l m r x.vars s1 (by omega) hM.s hM.many;by_cases hin:((dg m r).any λw=>decide (w=x.vars))=true
   rotate_left
   ·have hin:=Bool.eq_false_iff.2 hin;have hrs:ki r m ahead x=false:=by unfold ki;rw [hin,Cm]
    rw [hrs];rw [hin,Bool.and_false] at w2;repeat' (first|refine zr ?_|refine z21 ?_ (hc:=by apply w2)|(exfalso;omega))
    exact⟨.inl rfl,_,rfl,rfl,rfl⟩
   have hmem:=any_mem hin;have hvl:(x.vars.length:Int)=r.vars:=by have:=hM.ok.len _ hmem;have:=hM.ok.rul.vars;omega
   rw [hin,Fo,decide_eq_true hvl,if_pos hvl] at w2;have w3:=args_fn r.terms x.vars (hM.ok.terms hmem) (by have:=hM.ok.tlen;omega);repeat' ((fail_if_success (apply cp 10));(first|refine zs ?_|refine z21 ?_ (hc:=by apply w2)|refine z22 ?_ (hc:=by apply w3)|fail))
   all_goals try (exfalso;omega)
   refine au (ag (k':=5) (L':=[(0,.pd (chkD p l m)),(4,.loc 0 0),(5,.loc 1 0),(6,.loc 2 0),(7,.loc 3 0),(8,.d (.slice 1 ((dg m r).map cx))),(10,.loc 4 0)]) (H':=[(4,.blk 37 [.d (.int .i64 r.pred),.d (.slice 1 ((aW r x.vars).map ah))]),(3,.blk 64 [.d (.int .i64 r.pred),.d (.slice 2 (r.terms.map aw)),.d (.int .i64 r.fold),.d (.slice 4 (r.body.map ay)),.d (.int .i64 r.vars)]),(2,.blk 4 [.d (.bool false)]),(1,.blk 39 [.d (.int .i64 x.fact.pred),.d (.slice 1 (x.fact.args.map ah)),.d (.int .i64 x.rule),.d (.slice 1 (x.vars.map ah))]),(0,.blk 28 [.d (.slice 4 (ahead.map ck))])])
    (λj=>match j with|4=>12|j=>j) ⟨rfl,rfl,rfl,rfl,rfl,rfl,rfl,trivial⟩ ⟨rfl,rfl,rfl,rfl,rfl,trivial⟩ rfl rfl rfl rfl rfl rfl) ?_
   clear w1 w2 w3;by_cases hf:r.fold=0
   ·have w4:=jr ⟨r.pred,aW r x.vars⟩ x.fact;have w5:=yes_fn r x.vars;have hrs:ki r m ahead x=(decide (cu ⟨r.pred,aW r x.vars⟩ x.fact=0) && (r.body.filter rm).all λz=>oa ahead (vq x.vars z)):=by unfold ki;rw [hin,Bo,if_pos hf]
    rw [hrs];by_cases ho0:cu ⟨r.pred,aW r x.vars⟩ x.fact=0
    ·rw [decide_eq_true ho0,Bo];repeat' (first|refine zr ?_|refine z21 ?_ (hc:=by apply w4)|refine z21 ?_ (hc:=by apply w5)|(refine zm ?_ ?_<;>intro hg)|(exfalso;omega))
     clear w4 w5;obtain⟨ys,hys⟩:∃ ys,ys=r.body.filter rm:=⟨_,rfl⟩;rw [<- hys];have hyl:(qd r x.vars).length=ys.length:=by unfold qd;rw [Aa,hys]
     refine dw_range (qd r x.vars) rfl rfl (yes1_seq r x.vars λz hz hk=>?_) (yesX_each r x.vars) (by simp) [(0,.pd (chkD p l m)),(4,.loc 0 0),(5,.loc 1 0),(6,.loc 2 0),(7,.loc 3 0),(10,.loc 4 0)] ⟨rfl,rfl,rfl,rfl,rfl,rfl,trivial⟩ rfl
      (ι:=Unit) (λ_ _=>(5,isH r ahead x false)) (λj _=>((ys.take j).all λz=>oa ahead (vq x.vars z))=true) () (by simp) rfl ?_ ?_
     ·have h:=(hM.s.ok.lit z hz).terms;rw [show r.vars.toNat=x.vars.length by omega] at h;exact⟨h,by have:=hM.s.ok.tlen z hz;omega⟩
     ·rintro j hj ⟨⟩ e1 O1 w1 E1 β1 l1;have hj':j<ys.length:=by omega
      have hxj:(qd r x.vars)[j]=[c9 (vq x.vars ys[j])]:=by simp [qd,hys]
      rw [hxj];have wm:=met_fn ahead (vq x.vars ys[j]);have hst1:((ys.take (j+1)).all λz=>oa ahead (vq x.vars z))=oa ahead (vq x.vars ys[j]):=by
       rw [Am hj',C9,e1];simp
      change DW _ _ _ _ ((104,c9 (vq x.vars ys[j]))::_) _;repeat' (first|refine zs ?_|fail)
      refine⟨rfl,λO2 w2 E2 β2=>?_⟩
      cases hb:oa ahead (vq x.vars ys[j]) with
      | true =>
       rw [hb] at wm hst1;repeat' (first|refine zs ?_|refine z21 ?_ (hc:=by apply wm)|(exfalso;omega))
       exact⟨(),hst1,er id⟩
      | false =>
       rw [hb] at wm;have hall:(ys.all λz=>oa ahead (vq x.vars z))=false:=List.all_eq_false.2 ⟨_,Ag hj',by rw [hb];simp⟩;rw [hall];repeat' (first|refine zr ?_|refine z21 ?_ (hc:=by apply wm)|(exfalso;omega))
       refine⟨5,isH r ahead x false,er id,?_⟩
       repeat' (first|refine zs ?_|fail)
       exact⟨.inl rfl,_,rfl,rfl,rfl⟩
     ·rintro⟨⟩ e1;rw [hyl,Ak (Af _)] at e1;rw [e1];repeat' (first|refine zr ?_|(exfalso;omega))
      exact⟨.inl rfl,_,rfl,rfl,rfl⟩
    ·rw [decide_eq_false ho0,Cm];repeat' (first|refine zr ?_|refine z21 ?_ (hc:=by apply w4)|refine z21 ?_ (hc:=by apply w5)|(refine zm ?_ ?_<;>intro hg)|(exfalso;omega))
     exact⟨.inl rfl,_,rfl,rfl,rfl⟩
   ·obtain⟨g1,g2⟩:=hM.ok.rul.folded hf;have w4:=made_fn p.arity r (dg m r) hM.ok;have hl:(hdW m r).length<=2000:=by
     refine Nat.le_trans (fu _) ?_;rw [mr];exact Nat.le_trans (List.length_filterMap_le _ _) hM.ok.many
    have w5:=in_fn (hdW m r) x.fact (by omega) (a8 _).1;have w6:=s0 (x.fact.args.take (r.terms.length-1)) ((aW r x.vars).take (r.terms.length-1));rw [show av (ep r (dg m r))=hdW m r from rfl] at w4;have hrs:ki r m ahead x=(hasF (hdW m r) x.fact && decide (x.fact.args.take (r.terms.length-1)=(aW r x.vars).take (r.terms.length-1))):=by unfold ki;rw [hin,Bo,if_neg hf]
    rw [hrs];have lt:(r.terms.map aw).length=r.terms.length:=Aa _;have la:((aW r x.vars).map ah).length=(aW r x.vars).length:=Aa _;have la2:=aW_len r x.vars;have lf:(x.fact.args.map ah).length=x.fact.args.length:=Aa _;have ht3:=hM.ok.tlen;obtain⟨last,hlast⟩:∃ last,last=r.terms.length-1:=⟨_,rfl⟩;rw [<- hlast] at w6 ⊢;have hl1:((r.terms.map aw).length:Int)-1=(last:Int):=by omega
    repeat' ((fail_if_success (apply cp 12));(first|refine zs ?_|(refine zm ?_ ?_<;>intro hg)|fail))
    all_goals try (exfalso;omega)
    refine au (ag (k':=5) (L':=[(0,.pd (chkD p l m)),(4,.loc 0 0),(5,.loc 1 0),(6,.loc 2 0),(7,.loc 3 0),(8,.d (.slice 1 ((dg m r).map cx))),(10,.loc 4 0),(11,.d (.int .i64 last))]) (H':=isH r ahead x false) id ⟨rfl,rfl,rfl,rfl,rfl,rfl,rfl,by rw [<- hl1];rfl,trivial⟩ ⟨rfl,rfl,rfl,rfl,rfl,trivial⟩ rfl rfl rfl rfl rfl rfl) ?_;have hat:hasF (hdW m r) x.fact=true->x.fact.args.length=r.terms.length:=λh=>(head_way (((a8 _).2 _).1 (hasF_iff.1 h)) (λ_=>g1)).1
    cases hb:hasF (hdW m r) x.fact with
    | true =>
     have hat:=hat hb;rw [hb] at w5;rw [Bo];repeat' (first|refine zr ?_|refine z22 ?_ (hc:=by apply w4)|refine z22 ?_ (hc:=by apply w5)|refine z22 ?_ (hc:=by apply w6)|(exfalso;omega))
     all_goals exact⟨.inl rfl,_,rfl,rfl,rfl⟩
    | false =>
     rw [hb] at w5;rw [Cm];repeat' (first|refine zr ?_|refine z22 ?_ (hc:=by apply w4)|refine z22 ?_ (hc:=by apply w5)|(exfalso;omega))
     all_goals exact⟨.inl rfl,_,rfl,rfl,rfl⟩
  ·have hst:qg p l m ahead x=false:=by unfold qg;rw [if_neg h1,dif_neg hr]
   rw [hst];repeat' (first|refine zr ?_|(refine zm ?_ ?_<;>intro hg)|(exfalso;omega))
   all_goals exact⟨.inl rfl,_,rfl,rfl,rfl⟩
variable [Bnds]
def stepAt (p:Prg) (l m:List Fct) (xs:List Stp) (i:Nat):Bool:=match xs[i]? with
 | some x=>qg p l m (xs.take i) x
 | none=>true
def pf (p:Prg) (l m:List Fct) (xs:List Stp) (n:Nat):Bool:=(List.range n).all (stepAt p l m xs)
def proofB (p:Prg) (l m:List Fct) (xs:List Stp):Bool:=decide (0<xs.length) && pf p l m xs xs.length
theorem stepsB_succ (p:Prg) (l m:List Fct) (xs:List Stp) {i:Nat} (hi:i<xs.length):pf p l m xs (i+1)=(pf p l m xs i && qg p l m (xs.take i) xs[i]):=by
 unfold pf;rw [List.range_succ,C9];congr 1;simp [stepAt,Ab hi]
theorem stepsB_false (p:Prg) (l m:List Fct) (xs:List Stp) {i:Nat} (hi:i<xs.length) (h:qg p l m (xs.take i) xs[i]=false):pf p l m xs xs.length=false:=by
 unfold pf;exact List.all_eq_false.2 ⟨i,List.mem_range.2 hi,by simp [stepAt,Ab hi,h]⟩
def whyE (e:Int) (xs:List Stp):Int:=if e=0/\200<xs.length then 2 else e
theorem wcheck_fn (p:Prg) (l:List Fct) (xs:List Stp) (e:Int) (m:List Fct) (hx:ModelR p l e m) :
  Fn 9 [db p,.d (.slice 2 (l.map aa)),.d (.slice 4 (xs.map ck))] (λr=>r = .tup [.d (.bool (decide (whyE e xs=0) && proofB p l m xs)),.d (.int .i64 (whyE e xs))]):=by
 refine fqE Tryz.func9 ?_;intro O w0 E0 β0;have w1:=model_fn p l e m hx;have lx:(xs.map ck).length=xs.length:=Aa _;refine c8 (t:=2) rfl λhb=>?_
 by_cases he:e=0
 ·subst he;by_cases hl:200<xs.length
  ·have hw:whyE 0 xs=2:=if_pos ⟨rfl,hl⟩;rw [hw];repeat' (first|refine zr ?_|refine z21 ?_ (hc:=by apply w1)|(refine zm ?_ ?_<;>intro hg)|(exfalso;omega))
   exact⟨.inl rfl,_,rfl,rfl,rfl⟩
  ·have hw:whyE 0 xs=0:=if_neg (λh=>hl h.2);rw [hw,decide_eq_true rfl,Bo];have ho:=mOk hx.ok0;obtain⟨s1,s2,s3⟩:=hx.strict;have hl60:=ho.len;have w2:=set_fn l (by omega) (λx hx=>by have:=rr ho.pr (ho.facts x hx);omega);repeat' ((fail_if_success (apply cp 7));(first|refine zr ?_|refine z21 ?_ (hc:=by apply w1)|refine z22 ?_ (hc:=by apply w2)|(refine zm ?_ ?_<;>intro hg)|fail))
   all_goals try (exfalso;omega)
   refine au (cv (ds:=chkD p l m) 10 6 rfl rfl) ?_;clear w1 w2;repeat' (first|refine zs ?_|fail)
   refine ak (ι:=Nat) (λi=>⟨0,[(2,.d (.slice 4 (xs.map ck))),(10,.pd (chkD p l m)),(31,.d (.slice 4 (xs.map ck))),(32,.d (.int .i64 xs.length)),(33,.d (.int .i64 i))],[]⟩)
    (λi=>i<=xs.length/\pf p l m xs i=true) (λi=>xs.length-i) 0 ⟨Ai _,rfl⟩ (ag id ⟨rfl,rfl,rfl,by rw [<- lx];rfl,rfl,trivial⟩ trivial rfl rfl rfl rfl rfl rfl) ?_
   rintro i ⟨g1,g2⟩;dsimp only at g1 g2 ⊢;by_cases hi:i<xs.length
   ·have w3:=is_fn p l m (xs.take i) xs[i] hx;have hs:=stepsB_succ p l m xs hi;rw [g2,Bo] at hs;have hpf:proofB p l m xs=pf p l m xs xs.length:=by unfold proofB;rw [decide_eq_true (by omega),Bo]
    cases hbb:qg p l m (xs.take i) xs[i] with
    | true =>
     rw [hbb] at w3 hs;repeat' (first|refine zr ?_|refine z22 ?_ (hc:=by apply w3)|(refine zm ?_ ?_<;>intro hg)|(exfalso;omega))
     exact⟨i+1,⟨hi,hs⟩,er id,by omega⟩
    | false =>
     rw [hbb] at w3;rw [hpf,stepsB_false p l m xs hi hbb];repeat' (first|refine zr ?_|refine z22 ?_ (hc:=by apply w3)|(refine zm ?_ ?_<;>intro hg)|(exfalso;omega))
     exact⟨.inl rfl,_,rfl,rfl,rfl⟩
   ·have hin:i=xs.length:=by omega
    rw [hin] at g2;have hpf:proofB p l m xs=decide (((xs.map ck).length:Int) > 0):=by
     unfold proofB;rw [g2,Fo,lx];exact decide_eq_decide.2 (by omega)
    rw [hpf];repeat' (first|refine zr ?_|(refine zm ?_ ?_<;>intro hg)|(exfalso;omega))
    exact⟨.inl rfl,_,rfl,rfl,rfl⟩
 ·have hw:whyE e xs=e:=if_neg (λh=>he h.1);rw [hw,decide_eq_false he,Cm];repeat' (first|refine zr ?_|refine z21 ?_ (hc:=by apply w1)|(refine zm ?_ ?_<;>intro hg)|(exfalso;omega))
  exact⟨.inl rfl,_,rfl,rfl,rfl⟩
variable [Bnds]
theorem heads_pred {r:Rul} {ws:List (List Int)} {f:Fct} (h:f∈ep r ws):f.pred=r.pred:=by
 rw [mr] at h;obtain⟨w,hw,h⟩:=List.mem_filterMap.1 h;unfold headD at h;split at h
 ·simp only [Option.some.injEq] at h;rw [<- h]
 ·split at h
  ·simp only [Option.some.injEq] at h;rw [<- h]
  ·cases h
theorem RuleM.mem {p:Prg} {m:List Fct} {r:Rul} (hM:RuleM p m r) (hS:Strict m) (a:List Int):a∈dg m r↔a.length=r.vars.toNat/\∀ l∈r.body,holdE m l a=true:=by
 have hnd:m.Nodup:=hS.imp λh he=>by subst he;exact lt_irrefl h
 obtain⟨_,_,p3⟩:=jq hnd hM.s.ok.lit hM.s.bd;have heq:dg m r=pn m r.vars.toNat r.body:=by unfold dg;rw [if_pos hM.many]
 rw [heq,(fk _ _ _).mem_iff,p3]
variable [Bnds]
variable [Bnds]
def twiceB (xs:List Stp):Nat->Bool
 | 0=>false
 | n+1=>twiceB xs n || (match xs[n]? with
  | some x=>oa (xs.take n) x.fact
  | none=>false)
theorem twiceB_succ {xs:List Stp} {i:Nat} (hi:i<xs.length):twiceB xs (i+1)=(twiceB xs i || oa (xs.take i) xs[i].fact):=by
 rw [twiceB,Ab hi]
variable [Bnds]
def ol (p:Prg) (h:Stp):List Fct:=match p.rules[h.rule.toNat]? with
 | some r=>if r.fold=0 then (r.body.filter rm).map (vq h.vars) else []
 | none=>[]
def da (p:Prg) (how:List Stp):Nat->List Stp->Fct->List Stp
 | 0,out,_=>out
 | n+1,out,f=>if oa out f then out else match how.find? (o7 f) with
  | some h=>(ol p h).foldl (da p how n) out++[⟨f,h.rule,h.vars⟩]
  | none=>out++[⟨f,-1,[]⟩]
theorem prove1_fn (f:Fct) (s:Stp):Fn 132 ([elStp s]++[.pd (aa f)]) (λr=>r = .d (.bool (o7 f s))):=by
 refine fqE Tryz.func132 ?_;intro O w0 E0 β0;have w1:=jr s.fact f;repeat' (first|refine zr ?_|refine z21 ?_ (hc:=by apply w1)|fail)
 exact cm rfl rfl
theorem indexHow_fn {f:FuncId} {caps:List SV} (p:Stp->Bool) (l:List (Stp)) (hcap:SV.lowL 0 caps=true) (hp:∀ x∈l,Fn f (elStp x::caps) (λr=>r = .d (.bool (p x)))):Fn 131 [.d (.slice 4 (l.map ck)),.fn f caps] (λr=>r = .d (.int .i64 (n9 p l))):=by
 refine fqE Tryz.func131 ?_;intro O w0 E0 β0;refine c8 (t:=0) rfl λhb=>?_
 repeat' (first|refine zs ?_|fail)
 refine ak (ι:=Nat) (λi=>⟨0,[(0,.d (.slice 4 (l.map ck))),(1,.fn f caps),(7,.d (.int .i64 l.length)),(8,.d (.int .i64 i))],[]⟩)
  (λi=>i<=l.length/\∀ j (hj:j<l.length),j<i->p l[j]=false) (λi=>l.length-i) 0 ⟨Ai _,λj _ h=>absurd h (A6 j)⟩
  (ag id ⟨rfl,congrArg (SV.fn f) (SV.renL_id caps).symm,by simp;rfl,rfl,trivial⟩ trivial (by simp [Sl.low,SV.low,hcap]) rfl rfl rfl rfl rfl) ?_
 rintro i ⟨h1,h2⟩;repeat' (first|refine zs ?_|fail)
 refine bi rfl (λh=>?_) (λh=>?_)
 ·have hi:i<l.length:=by omega
  have hpx:=hp l[i] (Ag hi);repeat' (first|refine zs ?_|(apply jp;exact rfl;exact rfl;exact rfl;exact rfl;apply hpx;exact rfl;(assumption);exact rfl;rintro _ rfl))
  refine ff rfl (λhb=>?_) (λhb=>?_)
  ·repeat' (first|refine zr ?_|fail)
   exact br rfl (j8 h2 hi hb).symm
  ·repeat' (first|refine zs ?_|fail)
   exact⟨i+1,⟨hi,jt h2 hi hb⟩,ag id ⟨rfl,congrArg (SV.fn f) (SV.renL_id caps).symm,rfl,rfl,trivial⟩ trivial (by simp [Sl.low,SV.low,hcap]) rfl rfl rfl rfl rfl,by omega⟩
 ·repeat' (first|refine zr ?_|fail)
  exact br rfl (iy λj hj=>h2 j hj (by omega)).symm
abbrev zt (p:Prg) (how out:List Stp):Hp :=
 [(0,.blk 127 [.d (.slice 1 (p.arity.map ah)),.d (.slice 1 (p.names.map dl)),.d (.slice 5 (p.rules.map a6)),.d (.slice 4 (how.map ck)),.row 1]),(1,.row 39 4 (out.map gg))]
variable [Bnds]
theorem proveMet_fn (p:Prg) (how out:List Stp) (f:Fct) (n:Nat) (hl:out.length<=1000) (hmet:oa out f=true) :
  FnOk false Tryz.prog tab bp 72 [.loc 0 0,c9 f] 1 2 (zt p how out) (λk2 r H2=>k2=2/\r = .tup []/\H2=zt p how (da p how (n+1) out f)):=by
 have hg:da p how (n+1) out f=out:=by rw [da,if_pos hmet]
 rw [hg];refine frE Tryz.func72 ?_;intro O w0 E0 β0;have w1:=metR_fn out f (by omega);rw [hmet] at w1;repeat' (first|refine zs ?_|fail)
 refine x7 (λj=>match j with|0=>1|j=>j) w1 (by rintro _ rfl;exact⟨rfl,rfl⟩) ⟨_,rfl⟩ rfl rfl rfl rfl ⟨rfl,trivial⟩ rfl rfl rfl rfl rfl rfl rfl rfl rfl ?_;rintro _ rfl;repeat' (first|refine zr ?_|fail)
 exact⟨.inl rfl,_,rfl,kp id 2 _ (zt p how out) ⟨rfl,rfl,rfl⟩⟩
theorem proveLeaf_fn (p:Prg) (how out:List Stp) (f:Fct) (n:Nat) (hl:out.length<=1000) (hf:f.args.length<=17592186044416) (hmet:oa out f=false) (hno:how.find? (o7 f)=none) :
  FnOk false Tryz.prog tab bp 72 [.loc 0 0,c9 f] 1 2 (zt p how out) (λk2 r H2=>k2=2/\r = .tup []/\H2=zt p how (da p how (n+1) out f)):=by
 have hg:da p how (n+1) out f=out++[⟨f,-1,[]⟩]:=by rw [da,if_neg (by simp [hmet]),hno]
 rw [hg];refine frE Tryz.func72 ?_;intro O w0 E0 β0;have w1:=metR_fn out f (by omega);rw [hmet] at w1;have w2:=ownO_fn f hf;have lo:(out.map gg).length=out.length:=Aa _;have w3:=indexHow_fn (caps:=[.pd (aa f)]) (o7 f) how rfl (λs _=>prove1_fn f s);rw [show n9 (o7 f) how = -1 from iy λj hj=>by
  have:=List.find?_eq_none.1 hno _ (Ag hj)
  simpa using this] at w3
 repeat' (first|refine zs ?_|fail)
 refine x7 (λj=>match j with|0=>1|j=>j) w1 (by rintro _ rfl;exact⟨rfl,rfl⟩) ⟨_,rfl⟩ rfl rfl rfl rfl ⟨rfl,trivial⟩ rfl rfl rfl rfl rfl rfl rfl rfl rfl ?_;rintro _ rfl;repeat' ((fail_if_success (apply cp 3));(first|refine zs ?_|refine z21 ?_ (hc:=by apply w2)|fail))
 refine au (cv (ds:=aa f) 3 3 rfl rfl) ?_;refine au (ef 4 3 1 rfl rfl rfl) ?_;repeat' ((fail_if_success (apply iz 12));(first|refine zs ?_|refine z21 ?_ (hc:=by apply w3)|fail))
 exact⟨.inr rfl,_,rfl,λj=>match j with|1=>12|j=>j,2,_,zt p how (out++[⟨f,-1,[]⟩]),rfl,⟨rfl,by dsimp only;rw [Av];rfl,trivial⟩,rfl,rfl,rfl,rfl,rfl,rfl,rfl,rfl,rfl⟩
variable [Bnds]
abbrev prvQ (p:Prg) (how out:List Stp) (q:Nat):Hp :=
 [(0,.blk 127 [.d (.slice 1 (p.arity.map ah)),.d (.slice 1 (p.names.map dl)),.d (.slice 5 (p.rules.map a6)),.d (.slice 4 (how.map ck)),.row q]),(q,.row 39 4 (out.map gg))]
abbrev stpH (p:Prg) (how:List Stp) (h:Stp) (f:Fct) (r:Rul) (out:List Stp) (q:Nat):Hp:=(3,.blk 64 [.d (.int .i64 r.pred),.d (.slice 2 (r.terms.map aw)),.d (.int .i64 r.fold),.d (.slice 4 (r.body.map ay)),.d (.int .i64 r.vars)])::(5,.blk 187 [.d (.int .i64 h.fact.pred),.d (.slice 1 (h.fact.args.map ah)),.d (.int .i64 h.rule),.d (.slice 1 (h.vars.map ah))])::(4,.blk 39 [.d (.int .i64 f.pred),.d (.own Bnds.B (.slice 1 (f.args.map ah))),.d (.int .i64 h.rule),.d (.own Bnds.B (.slice 1 (h.vars.map ah)))])::(2,.blk 125 [.loc 0 0])::prvQ p how out q
theorem proveStep_fn (p:Prg) (how out:List Stp) (f:Fct) (h:Stp) (r:Rul) (n:Nat) (hl:out.length<=1000) (hf:f.args.length<=17592186044416) (hmet:oa out f=false) (hfind:how.find? (o7 f)=some h) (h0:0<=h.rule) (h1:h.rule.toNat<p.rules.length) (hr:p.rules[h.rule.toNat]=r) (hv:h.vars.length<=1000) (hok:∀ x∈r.body,x.kind=1->(∀ t∈x.terms,okT h.vars.length t)/\x.terms.length<=1000000)
  (Inv:List Stp->Prop) (hI0:Inv out) (hIl:∀ o,Inv o->o.length<=1000) (IH:∀ o g,Inv o->g∈ol p h->Inv (da p how n o g)/\FnOk false Tryz.prog tab bp 72 [.loc 0 0,c9 g] 1 2 (zt p how o) (λk2 r H2=>k2=2/\r = .tup []/\H2=zt p how (da p how n o g))) :
  FnOk false Tryz.prog tab bp 72 [.loc 0 0,c9 f] 1 2 (zt p how out) (λk2 r H2=>k2=2/\r = .tup []/\H2=zt p how (da p how (n+1) out f)):=by
 have hg:da p how (n+1) out f=(ol p h).foldl (da p how n) out++[⟨f,h.rule,h.vars⟩]:=by rw [da,if_neg (by simp [hmet]),hfind]
 rw [hg];have hlt:how.findIdx (o7 f)<how.length:=by
  have hx:=List.find?_some hfind;exact List.findIdx_lt_length_of_exists ⟨h,List.mem_of_find?_eq_some hfind,hx⟩
 have hget:how[how.findIdx (o7 f)]=h:=by
  have h2:=List.find?_eq_some_iff_getElem.1 hfind;obtain⟨hx,i,hi,he,hno⟩:=h2;have:how.findIdx (o7 f)=i:=(List.findIdx_eq hi).2 ⟨by rw [he];exact hx,λj hj=>by have:=hno j hj;simpa using this⟩
  simp only [this,he]
 have hidx:n9 (o7 f) how=(how.findIdx (o7 f):Int):=by
  unfold n9;rw [List.findIdx?_eq_some_iff_findIdx_eq.2 ⟨hlt,rfl⟩]
 refine frE Tryz.func72 ?_;intro O w0 E0 β0;have w1:=metR_fn out f (by omega);rw [hmet] at w1;have w2:=ownO_fn f hf;have lo:(out.map gg).length=out.length:=Aa _;have lh:(how.map ck).length=how.length:=Aa _;have lr:(p.rules.map a6).length=p.rules.length:=Aa _;have w3:=indexHow_fn (caps:=[.pd (aa f)]) (o7 f) how rfl (λs _=>prove1_fn f s);rw [hidx] at w3;generalize how.findIdx (o7 f)=ix at *;have w4:=uz h.vars (by omega);repeat' (first|refine zs ?_|fail)
 refine x7 (λj=>match j with|0=>1|j=>j) w1 (by rintro _ rfl;exact⟨rfl,rfl⟩) ⟨_,rfl⟩ rfl rfl rfl rfl ⟨rfl,trivial⟩ rfl rfl rfl rfl rfl rfl rfl rfl rfl ?_;rintro _ rfl;repeat' ((fail_if_success (apply cp 3));(first|refine zs ?_|refine z21 ?_ (hc:=by apply w2)|fail))
 refine au (cv (ds:=aa f) 3 3 rfl rfl) ?_;repeat' ((fail_if_success (apply cp 6));(first|refine zs ?_|refine z21 ?_ (hc:=by apply w3)|fail))
 all_goals try (exfalso;omega)
 rw [hget];refine au (ag (k':=6) (L':=[(2,.loc 2 0),(4,.loc 4 0),(6,.loc 5 0)]) (H':=(5,.blk 187 [.d (.int .i64 h.fact.pred),.d (.slice 1 (h.fact.args.map ah)),.d (.int .i64 h.rule),.d (.slice 1 (h.vars.map ah))])::(4,.blk 39 [.d (.int .i64 f.pred),.d (.own Bnds.B (.slice 1 (f.args.map ah))),.d (.int .i64 (-1)),.nils])::(2,.blk 125 [.loc 0 0])::zt p how out) id ⟨rfl,rfl,rfl,trivial⟩ ⟨rfl,rfl,rfl,rfl,rfl,trivial⟩ rfl rfl rfl rfl rfl rfl) ?_;clear w1 w2 w3;repeat' ((fail_if_success (apply cp 8));(first|refine zs ?_|refine z22 ?_ (hc:=by apply w4)|fail))
 all_goals try (exfalso;omega)
 have hah:ol p h=if r.fold=0 then (r.body.filter rm).map (vq h.vars) else []:=by unfold ol;rw [Ab h1,hr]
 rw [hr];refine au (ag (k':=6) (L':=[(2,.loc 2 0),(4,.loc 4 0),(6,.loc 5 0),(7,.loc 3 0)]) (H':=stpH p how h f r out 1) (λj=>match j with|3=>15|j=>j) ⟨rfl,rfl,rfl,rfl,trivial⟩ ⟨rfl,rfl,rfl,rfl,rfl,rfl,trivial⟩ rfl rfl rfl rfl rfl rfl) ?_;by_cases hfo:r.fold=0
 ·rw [if_pos hfo] at hah;have w5:=yes_fn r h.vars;repeat' (first|refine zs ?_|refine z21 ?_ (hc:=by apply w5)|(refine zm ?_ ?_<;>intro hg)|(exfalso;omega))
  clear w4 w5;obtain⟨gs,hgs⟩:∃ gs,gs=ol p h:=⟨_,rfl⟩;rw [<- hgs];rw [<- hgs] at hah IH;have hyl:(qd r h.vars).length=gs.length:=by rw [hah];unfold qd;simp
  refine dw_range (qd r h.vars) rfl rfl (yes1_seq r h.vars hok) (yesX_each r h.vars) (by simp) [(2,.loc 2 0),(4,.loc 4 0)] ⟨rfl,rfl,trivial⟩ rfl
   (ι:=Bool×List Stp) (λ_ x=>match x.1 with|false=>(6,stpH p how h f r x.2 1)|true=>(7,stpH p how h f r x.2 6)) (λj x=>Inv x.2/\x.2=(gs.take j).foldl (da p how n) out) (false,out) ⟨hI0,rfl⟩ rfl ?_ ?_
  ·rintro j hj ⟨b,o⟩ ⟨e1,e2⟩ O1 w1 E1 β1 l1;dsimp only at e1 e2;have hj':j<gs.length:=by omega
   have hxj:(qd r h.vars)[j]=[c9 gs[j]]:=by simp [qd,hah]
   rw [hxj];obtain⟨i1,i2⟩:=IH o gs[j] e1 (Ag hj');have hst1:da p how n o gs[j]=(gs.take (j+1)).foldl (da p how n) out:=by rw [Am hj',List.foldl_append,<- e2];rfl
   cases b with
   | false =>
    change DW _ _ _ _ ((56,c9 gs[j])::_) _;dsimp only;repeat' (first|refine zs ?_|fail)
    refine⟨rfl,λO2 w2 E2 β2=>?_⟩
    repeat' (first|refine zs ?_|fail)
    (refine bk id (i2) rfl rfl rfl rfl ⟨rfl,rfl,trivial⟩ rfl rfl rfl rfl rfl rfl ?_ ?_)
    ·rintro k2 res H2 ⟨rfl,rfl,rfl⟩;exact⟨rfl,rfl⟩
    rintro k2 res H2 ⟨rfl,rfl,rfl⟩;change DS _ _ _ _ _ _ _ _;repeat' (first|refine zs ?_|fail)
    exact⟨(true,_),⟨i1,hst1⟩,er (λj=>match j with|6=>8|j=>j)⟩
   | true =>
    change DW _ _ _ _ ((56,c9 gs[j])::_) _;dsimp only;repeat' (first|refine zs ?_|fail)
    refine⟨rfl,λO2 w2 E2 β2=>?_⟩
    repeat' (first|refine zs ?_|fail)
    refine bk (λj=>match j with|1=>6|j=>j) i2 rfl rfl rfl rfl ⟨rfl,rfl,trivial⟩ rfl rfl rfl rfl rfl rfl ?_ ?_
    ·rintro k2 res H2 ⟨rfl,rfl,rfl⟩;exact⟨rfl,rfl⟩
    rintro k2 res H2 ⟨rfl,rfl,rfl⟩;change DS _ _ _ _ _ _ _ _;repeat' (first|refine zs ?_|fail)
    exact⟨(true,_),⟨i1,hst1⟩,er (λj=>match j with|6=>9|j=>j)⟩
  ·rintro⟨b,o⟩ ⟨e1,e2⟩;dsimp only at e1 e2;rw [hyl,Ak (Af _)] at e2;rw [<- e2];have lo2:(o.map gg).length=o.length:=Aa _;have hol:=hIl o e1;cases b with
   | false =>
    dsimp only;repeat' (first|refine zs ?_|(exfalso;omega))
    exact⟨.inr rfl,_,rfl,λj=>match j with|1=>13|j=>j,2,_,zt p how (o++[⟨f,h.rule,h.vars⟩]),rfl,⟨rfl,by dsimp only;rw [Av];rfl,trivial⟩,rfl,rfl,rfl,rfl,rfl,rfl,rfl,rfl,rfl⟩
   | true =>
    dsimp only;repeat' (first|refine zs ?_|(exfalso;omega))
    exact⟨.inr rfl,_,rfl,λj=>match j with|1=>14|j=>j,2,_,zt p how (o++[⟨f,h.rule,h.vars⟩]),rfl,⟨rfl,by dsimp only;rw [Av];rfl,trivial⟩,rfl,rfl,rfl,rfl,rfl,rfl,rfl,rfl,rfl⟩
 ·rw [if_neg hfo] at hah;rw [hah,List.foldl_nil];repeat' (first|refine zs ?_|(refine zm ?_ ?_<;>intro hg)|(exfalso;omega))
  exact⟨.inr rfl,_,rfl,λj=>match j with|1=>13|j=>j,2,_,zt p how (out++[⟨f,h.rule,h.vars⟩]),rfl,⟨rfl,by dsimp only;rw [Av];rfl,trivial⟩,rfl,rfl,rfl,rfl,rfl,rfl,rfl,rfl,rfl⟩
variable [Bnds]
theorem isSB_iff {f:Fct} {s:Stp}:o7 f s=true↔s.fact=f:=by
 unfold o7;rw [decide_eq_true_iff];exact⟨λh=>qp h,λh=>by rw [h];exact js f⟩
theorem hasS_iff {l:List Stp} {f:Fct}:oa l f=true↔∃ s∈l,s.fact=f:=by
 unfold oa;rw [List.any_eq_true];exact⟨fun⟨s,h1,h2⟩=>⟨s,h1,isSB_iff.1 h2⟩,fun⟨s,h1,h2⟩=>⟨s,h1,isSB_iff.2 h2⟩⟩
theorem hasS_no {l:List Stp} {f:Fct} (h:oa l f=false):∀ s∈l,s.fact≠f:=λs hs he=>by
 rw [hasS_iff.2 ⟨s,hs,he⟩] at h
 cases h
def rkF (how:List Stp) (f:Fct):Nat:=match how.findIdx? (o7 f) with
 | some i=>i+1
 | none=>0
theorem rkF_take {how:List Stp} {g:Stp} {i:Nat} (h:g∈how.take i):rkF how g.fact<=i:=by
 obtain⟨j,hj,he⟩:=Eg h;have hj2:j<i/\j<how.length:=by rw [Au] at hj;omega
 rw [D1] at he;unfold rkF;cases hk:how.findIdx? (o7 g.fact) with
 | none=>exact Ai _
 | some k =>
  obtain⟨h1,h2,h3⟩:=List.findIdx?_eq_some_iff_getElem.1 hk;dsimp only;apply Classical.byContradiction;intro hc;exact h3 j (by omega) (isSB_iff.2 (by rw [he]))
theorem rkF_new {how:List Stp} {f:Fct} (h:∀ g∈how,g.fact≠f):rkF how f=0:=by
 unfold rkF;rw [List.findIdx?_eq_none_iff.2 λx hx=>Bool.eq_false_iff.2 λhc=>h x hx (isSB_iff.1 hc)]
theorem rkF_some {how:List Stp} {f:Fct} {h:Stp} (hf:how.find? (o7 f)=some h):∃ i,how[i]?=some h/\rkF how f=i+1/\h.fact=f:=by
 obtain⟨h1,i,hi,he,hno⟩:=List.find?_eq_some_iff_getElem.1 hf;refine⟨i,by rw [Ab hi,he],?_,isSB_iff.1 h1⟩
 unfold rkF;rw [List.findIdx?_eq_some_iff_getElem.2 ⟨hi,by rw [he];exact h1,λj hj hc=>by have:=hno j hj;rw [hc] at this;cases this⟩]
structure PInv (p:Prg) (l m:List Fct) (o:List Stp):Prop where
 nodup:(o.map (·.fact)).Nodup
 mem:∀ s∈o,s.fact∈m
 right:pf p l m o o.length=true
theorem stepsB_more {p:Prg} {l m:List Fct} {o:List Stp} {s:Stp} (h:pf p l m o o.length=true) (hs:qg p l m o s=true):pf p l m (o++[s]) (o++[s]).length=true:=by
 have hlt:o.length<(o++[s]).length:=by rw [Ap];exact Nat.lt_succ_self _
 have hle:(o++[s]).length=o.length+1:=by rw [Ap];rfl
 rw [hle,stepsB_succ p l m _ hlt,Ad];refine⟨?_,?_⟩
 ·unfold pf at h ⊢;rw [Bg] at h ⊢;intro i hi;have hi2:=List.mem_range.1 hi;have:=h i hi
  unfold stepAt at this ⊢;rw [List.getElem?_append_left hi2,List.take_append_of_le_length (Nat.le_of_lt hi2)];exact this
 ·rw [List.take_left,List.getElem_append_right (Af _)];simpa using hs
theorem PInv.more {p:Prg} {l m:List Fct} {o:List Stp} {s:Stp} (h:PInv p l m o) (hm:s.fact∈m) (hn:∀ x∈o,x.fact≠s.fact) (hs:qg p l m o s=true):PInv p l m (o++[s]):=by
 refine⟨?_,λx hx=>?_,stepsB_more h.right hs⟩
 ·rw [Av];refine List.nodup_append.2 ⟨h.nodup,by simp,λx hx y hy he=>?_⟩;rw [List.map_singleton,A5] at hy;obtain⟨g,hg,rfl⟩:=List.mem_map.1 hx;exact hn g hg (he.trans hy)
 ·rcases List.mem_append.1 hx with hx|hx
  ·exact h.mem x hx
  ·rw [A5] at hx;rw [hx];exact hm
theorem PInv.len {p:Prg} {l m:List Fct} {o:List Stp} (h:PInv p l m o):o.length<=m.length:=by
 have h1:(o.map (·.fact)).length<=m.length:=h.nodup.length_le_of_subset λx hx=>by
  obtain⟨g,hg,rfl⟩:=List.mem_map.1 hx;exact h.mem g hg
 rwa [Aa] at h1
theorem ahead_ok {p:Prg} {lv:List Int} {n:Int} {l m:List Fct} {how:List Stp} (hk:HwOk l m how) (hm:HwM p lv n l how m) {h:Stp} {i:Nat} (hi:how[i]?=some h) {g:Fct} (hg:g∈ol p h):g∈m/\rkF how g<i+1:=by
 have hs:=hm i h hi;unfold ol at hg;rw [Ab hs.hi] at hg;dsimp only at hg;split at hg
 ·rename_i h0;obtain⟨z,hz,rfl⟩:=List.mem_map.1 hg;obtain⟨hz1,hz2⟩:=List.mem_filter.1 hz;rcases hs.ahead h0 z hz1 (of_decide_eq_true hz2) with h1|⟨g',h1,h2⟩
  ·refine⟨(hk.all _).2 (.inl h1),?_⟩
   rw [show vq h.vars z=(⟨z.pred,z.terms.map (vA h.vars)⟩:Fct) from rfl,rkF_new λx hx he=>hk.new x hx (by rw [he];exact h1)];omega
  ·have h3:=rkF_take h1;rw [h2] at h3;exact⟨(hk.all _).2 (.inr ⟨g',List.mem_of_mem_take h1,h2⟩),Nat.lt_succ_of_le h3⟩
 ·cases hg
theorem step_right {p:Prg} {lv:List Int} {n:Int} {l m:List Fct} {how:List Stp} (hx:ModelR p l 0 m) (hm:HwM p lv n l how m) {h:Stp} {i:Nat} (hi:how[i]?=some h) {o:List Stp} (ho:∀ g∈ol p h,oa o g=true):qg p l m o ⟨h.fact,h.rule,h.vars⟩=true:=by
 have hs:=hm i h hi;have hM:=hx.rule (Ag hs.hi);have hah:ol p h=if (p.rules[h.rule.toNat]'hs.hi).fold=0 then ((p.rules[h.rule.toNat]'hs.hi).body.filter rm).map (vq h.vars) else []:=by unfold ol;rw [Ab hs.hi]
 have hlo:=hs.lo;unfold qg;rw [if_neg (by dsimp only;omega),dif_pos ⟨hs.lo,hs.hi⟩];dsimp only;have hway:=hs.way;have hhead:=hs.head;have his:=hs.is;generalize p.rules[h.rule.toNat]'hs.hi=r at hM hah hway hhead his ⊢;unfold ki;rw [List.any_eq_true.2 ⟨h.vars,hway,decide_eq_true rfl⟩,Bo];have hin:=((a8 _).2 _).1 hhead;unfold isW at his;have his:=of_decide_eq_true his;split
 ·rename_i h0;rw [if_pos h0] at hah;have hw:=head_way hin λh1=>absurd h0 h1
  unfold kW at his;rw [if_pos h0,Ak (by rw [aW_len];exact Af _),Ak (by rw [hw.1];exact Af _)] at his;have heq:(⟨r.pred,aW r h.vars⟩:Fct)=h.fact:=by rw [his,<- heads_pred hin]
  rw [Ad];refine⟨?_,?_⟩
  ·dsimp only;rw [heq];exact decide_eq_true (js _)
  ·rw [Bg];intro z hz;exact ho _ (by rw [hah];exact List.mem_map.2 ⟨z,hz,rfl⟩)
 ·rename_i h0;unfold kW at his;rw [if_neg h0] at his;rw [Ad];exact⟨hasF_iff.2 hhead,decide_eq_true his.symm⟩
theorem fold_inv {p:Prg} {l m:List Fct} {how:List Stp} {N K:Nat} (hKN:K<=N)
  (IH:∀ o f,rkF how f<N->f∈m->PInv p l m o->PInv p l m (da p how N o f)/\oa (da p how N o f) f=true/\∃ t,da p how N o f=o++t/\∀ s∈t,s.fact=f∨rkF how s.fact<rkF how f) :
  ∀ (gs:List Fct) (o:List Stp),(∀ g∈gs,g∈m/\rkF how g<K)->PInv p l m o->PInv p l m (gs.foldl (da p how N) o)/\(∀ g∈gs,oa (gs.foldl (da p how N) o) g=true)/\∃ t,gs.foldl (da p how N) o=o++t/\∀ s∈t,rkF how s.fact<K
 | [],o,_,h=>⟨h,λ_ hg=>by simp at hg,[],by simp,λ_ hs=>by simp at hs⟩
 | g::gs,o,hg,h=>by
  have g1:=hg g (List.mem_cons_self ..)
  obtain⟨a1,a2,t1,a3,a4⟩:=IH o g (Aq g1.2 hKN) g1.1 h
  obtain⟨b1,b2,t2,b3,b4⟩:=fold_inv hKN IH gs _ (λx hx=>hg x (List.mem_cons_of_mem _ hx)) a1
  refine⟨b1,λx hx=>?_,t1++t2,by rw [A2,b3,a3,Bt],λs hs=>?_⟩
  ·rcases List.mem_cons.1 hx with rfl|hx
   ·obtain⟨s,hs,he⟩:=hasS_iff.1 a2
    rw [A2,b3]
    exact hasS_iff.2 ⟨s,List.mem_append_left _ hs,he⟩
   ·exact b2 x hx
  ·rcases List.mem_append.1 hs with hs|hs
   ·rcases a4 s hs with he|he
    ·rw [he];exact g1.2
    ·exact Nat.lt_trans he g1.2
   ·exact b4 s hs
theorem prove_inv {p:Prg} {lv:List Int} {n:Int} {l m:List Fct} {how:List Stp} (hx:ModelR p l 0 m) (hk:HwOk l m how) (hm:HwM p lv n l how m) :
  ∀ (N:Nat) (o:List Stp) (f:Fct),rkF how f<N->f∈m->PInv p l m o->PInv p l m (da p how N o f)/\oa (da p how N o f) f=true/\∃ t,da p how N o f=o++t/\∀ s∈t,s.fact=f∨rkF how s.fact<rkF how f
 | 0,_,_,h,_,_=>absurd h (A6 _)
 | N+1,o,f,h,hf,hI=>by
  cases hmet:oa o f with
  | true =>
   have hg:da p how (N+1) o f=o:=by rw [da,if_pos hmet]
   rw [hg];exact⟨hI,hmet,[],by simp,λ_ hs=>by simp at hs⟩
  | false =>
   have hno:=hasS_no hmet;cases hfind:how.find? (o7 f) with
   | none =>
    have hg:da p how (N+1) o f=o++[⟨f,-1,[]⟩]:=by rw [da,if_neg (by simp [hmet]),hfind]
    rw [hg];have hgiv:f∈l:=by
     rcases (hk.all f).1 hf with h1|⟨s,h1,h2⟩
     ·exact h1
     ·have:=List.find?_eq_none.1 hfind s h1
      exact absurd (isSB_iff.2 h2) this
    refine⟨hI.more hf hno ?_,hasS_iff.2 ⟨_,B7 _ (List.mem_singleton.2 rfl),rfl⟩,_,rfl,λs hs=>.inl ?_⟩
    ·unfold qg;rw [if_pos rfl,Ad];exact⟨hasF_iff.2 hgiv,rfl⟩
    ·rw [List.mem_singleton.1 hs]
   | some s =>
    have hg:da p how (N+1) o f=(ol p s).foldl (da p how N) o++[⟨f,s.rule,s.vars⟩]:=by rw [da,if_neg (by simp [hmet]),hfind]
    obtain⟨i,hi,hr,hsf⟩:=rkF_some hfind;obtain⟨b1,b2,t,b3,b4⟩:=fold_inv (K:=i+1) (by omega) (prove_inv hx hk hm N) (ol p s) o (λg hg=>ahead_ok hk hm hi hg) hI;rw [hg];have hst:=step_right hx hm hi b2;rw [hsf] at hst;refine⟨b1.more hf (λx hx he=>?_) hst,hasS_iff.2 ⟨_,B7 _ (List.mem_singleton.2 rfl),rfl⟩,t++[⟨f,s.rule,s.vars⟩],by rw [b3,Bt],λx hx=>?_⟩
    ·rw [b3] at hx;rcases List.mem_append.1 hx with hx|hx
     ·exact hno x hx he
     ·have:=b4 x hx
      rw [he] at this;dsimp only at this;omega
    ·rcases List.mem_append.1 hx with hx|hx
     ·right;rw [hr];exact b4 x hx
     ·left;rw [List.mem_singleton.1 hx]
theorem prove_last {p:Prg} {how:List Stp} {N:Nat} {o:List Stp} {f:Fct} (h:oa o f=false):∃ t s,da p how (N+1) o f=t++[s]/\s.fact=f:=by
 rw [da,if_neg (by simp [h])];split
 ·exact⟨_,_,rfl,rfl⟩
 ·exact⟨_,_,rfl,rfl⟩
theorem prove_fn {p:Prg} {lv:List Int} {n:Int} {l m:List Fct} {how:List Stp} (hx:ModelR p l 0 m) (hk:HwOk l m how) (hm:HwM p lv n l how m) :
  ∀ (N:Nat) (o:List Stp) (f:Fct),rkF how f<N->f∈m->PInv p l m o ->
   FnOk false Tryz.prog tab bp 72 [.loc 0 0,c9 f] 1 2 (zt p how o) (λk2 r H2=>k2=2/\r = .tup []/\H2=zt p how (da p how N o f))
 | 0,_,_,h,_,_=>absurd h (A6 _)
 | N+1,o,f,h,hf,hI=>by
  obtain⟨s1,s2,s3⟩:=hx.strict
  have ho:=hI.len
  have hfl:=rr (mOk hx.ok0).pr (s3 f hf)
  cases hmet:oa o f with
  | true=>exact proveMet_fn p how o f N (by omega) hmet
  | false =>
   cases hfind:how.find? (o7 f) with
   | none=>exact proveLeaf_fn p how o f N (by omega) (by omega) hmet hfind
   | some s =>
    obtain⟨i,hi,hr,hsf⟩:=rkF_some hfind
    have hs:=hm i s hi
    have hM:=hx.rule (Ag hs.hi)
    have hvl:=hM.ok.len _ hs.way
    have hv8:=hM.ok.rul.vars
    refine proveStep_fn p how o f s _ N (by omega) (by omega) hmet hfind hs.lo hs.hi rfl (by omega) (λx hx _=>?_) (PInv p l m) hI (λo h=>by have:=h.len;omega) λo g hI hg=>?_
    ·have h:=(hM.s.ok.lit x hx).terms
     rw [<- hvl] at h
     exact⟨h,by have:=hM.s.ok.tlen x hx;omega⟩
    ·obtain⟨q1,q2⟩:=ahead_ok hk hm hi hg
     exact⟨(prove_inv hx hk hm N o g (by omega) q1 hI).1,prove_fn hx hk hm N o g (by omega) q1 hI⟩
variable [Bnds]
def prvE (p:Prg) (f:Fct) (e:Int):Int:=if e=0 then kt p.arity f else e
def prvB (p:Prg) (m:List Fct) (f:Fct) (e:Int):Bool:=decide (prvE p f e=0) && hasF m f
structure PrvOk (p:Prg) (l m:List Fct) (f:Fct) (xs:List Stp):Prop where
 inv:PInv p l m xs
 last:∃ t s,xs=t++[s]/\s.fact=f
theorem rkF_le (how:List Stp) (f:Fct):rkF how f<=how.length:=by
 unfold rkF;cases hk:how.findIdx? (o7 f) with
 | none=>exact Ai _
 | some i=>exact (List.findIdx?_eq_some_iff_getElem.1 hk).1
theorem wproveO_fn (p:Prg) (l:List Fct) (f:Fct) (e:Int) (m:List Fct) (hx:ModelR p l e m) :
  Fn 24 [db p,.d (.slice 2 (l.map aa)),c9 f] (λr=>∃ xs:List Stp,r = .tup [.d (.own Bnds.B (.slice 4 (xs.map ck))),.d (.bool (prvB p m f e)),.d (.int .i64 (prvE p f e))]/\(prvB p m f e=true->PrvOk p l m f xs)/\(prvB p m f e=false->xs=[])):=by
 refine fqE Tryz.func24 ?_;intro O w0 E0 β0;have w1:=mall_fn p l;repeat' (first|refine zs ?_|fail)
 apply ow;exact rfl;exact rfl;exact w1;exact rfl;exact rfl;exact rfl;rintro _ ⟨m',how,e',rfl,q1,q2⟩;obtain⟨he,hm⟩:=q1.unique hx;subst he hm;clear w1;by_cases h0:e'=0
 ·subst h0;have hE:prvE p f 0=kt p.arity f:=if_pos rfl;have hB:prvB p m' f 0=(decide (kt p.arity f=0) && hasF m' f):=by unfold prvB;rw [hE]
  rw [hE,hB];have w2:=fright_fn p f;by_cases hf:kt p.arity f=0
  ·rw [hf,decide_eq_true rfl,Bo];rw [hf] at w2;obtain⟨s1,s2,s3⟩:=hx.strict;have w3:=in_fn m' f (by omega) s1;cases hb:hasF m' f with
   | true =>
    rw [hb] at w3;repeat' ((fail_if_success (apply cp 9));(first|refine zs ?_|refine z21 ?_ (hc:=by apply w2)|refine z21 ?_ (hc:=by apply w3)|fail))
    all_goals try (exfalso;omega)
    obtain⟨q3,q4⟩:=q2 rfl;have hmem:=hasF_iff.1 hb;have hN:rkF how f<how.length+1+1:=by have:=rkF_le how f;omega
    have hI:PInv p l m' []:=⟨by simp,by simp,rfl⟩
    have w4:=prove_fn hx q3 q4 (how.length+1+1) [] f hN hmem hI;obtain⟨r1,-,t,r2,-⟩:=prove_inv hx q3 q4 (how.length+1+1) [] f hN hmem hI;have r3:=prove_last (p:=p) (how:=how) (N:=how.length+1) (o:=[]) (f:=f) rfl;generalize da p how (how.length+1+1) [] f=xs at *;refine au (ag (k':=2) (L':=[(12,.loc 0 0),(5,.loc 1 0)]) (H':=[(0,.blk 127 [.d (.slice 1 (p.arity.map ah)),.d (.slice 1 (p.names.map dl)),.d (.slice 5 (p.rules.map a6)),.d (.slice 4 (how.map ck)),.nils]),(1,.blk 37 [.d (.int .i64 f.pred),.d (.slice 1 (f.args.map ah))])])
     (λj=>match j with|0=>2|j=>j) ⟨rfl,rfl,trivial⟩ ⟨rfl,rfl,trivial⟩ rfl rfl rfl rfl rfl rfl) ?_
    refine au (ib 0 4 39 4 rfl rfl rfl) ?_;repeat' (first|refine zs ?_|fail)
    refine bk (λj=>match j with|1=>2|j=>j) w4 rfl rfl rfl rfl ⟨rfl,rfl,trivial⟩ rfl rfl rfl rfl rfl rfl ?_ ?_
    ·rintro k2 res H2 ⟨rfl,rfl,rfl⟩;exact⟨rfl,rfl⟩
    rintro k2 res H2 ⟨rfl,rfl,rfl⟩;change DS _ _ _ _ _ _ _ _;repeat' ((fail_if_success (apply cp 10));(first|refine zs ?_|fail))
    refine au (r6 (xs:=xs.map ck) 0 4 4 (e6 owns_stp _) rfl rfl rfl rfl rfl) ?_;repeat' (first|refine zr ?_|fail)
    exact⟨.inl rfl,_,rfl,rfl,xs,rfl,λ_=>⟨r1,r3⟩,λh=>(by cases h)⟩
   | false =>
    rw [hb] at w3;repeat' (first|refine zs ?_|refine z21 ?_ (hc:=by apply w2)|refine z21 ?_ (hc:=by apply w3)|(exfalso;omega))
    refine au (cz 6 4 rfl) ?_;repeat' (first|refine zr ?_|fail)
    exact⟨.inl rfl,_,rfl,rfl,[],rfl,λh=>(by cases h),λ_=>rfl⟩
  ·rw [decide_eq_false hf,Cm];generalize kt p.arity f=ee at *;repeat' (first|refine zs ?_|refine z21 ?_ (hc:=by apply w2)|(refine zm ?_ ?_<;>intro hg)|(exfalso;omega))
   refine au (cz 6 4 rfl) ?_;repeat' (first|refine zr ?_|fail)
   exact⟨.inl rfl,_,rfl,rfl,[],rfl,λh=>(by cases h),λ_=>rfl⟩
 ·have hE:prvE p f e'=e':=if_neg h0;have hB:prvB p m' f e'=false:=by unfold prvB;rw [hE,decide_eq_false h0,Cm]
  rw [hE,hB];repeat' (first|refine zs ?_|(refine zm ?_ ?_<;>intro hg)|(exfalso;omega))
  refine au (cz 6 4 rfl) ?_;repeat' (first|refine zr ?_|fail)
  exact⟨.inl rfl,_,rfl,rfl,[],rfl,λh=>(by cases h),λ_=>rfl⟩
theorem wprove_fn (p:Prg) (l:List Fct) (f:Fct) (e:Int) (m:List Fct) (hx:ModelR p l e m) :
  Fn 24 [db p,.d (.slice 2 (l.map aa)),c9 f] (λr=>∃ xs:List Stp,r = .tup [.d (.slice 4 (xs.map ck)),.d (.bool (prvB p m f e)),.d (.int .i64 (prvE p f e))]/\(prvB p m f e=true->PrvOk p l m f xs)/\(prvB p m f e=false->xs=[])) :=
 (wproveO_fn p l f e m hx).wk.imp λr ⟨r0,⟨xs,h0,h⟩,hr⟩=>⟨xs,by rw [hr,h0];rfl,h⟩
variable [Bnds]
theorem PInv.proof {p:Prg} {l m:List Fct} {xs:List Stp} (h:PInv p l m xs) (h0:0<xs.length):proofB p l m xs=true:=by
 unfold proofB;rw [decide_eq_true h0,Bo];exact h.right
theorem PInv.once {p:Prg} {l m:List Fct} {xs:List Stp} (h:PInv p l m xs):∀ n,n<=xs.length->twiceB xs n=false
 | 0,_=>rfl
 | n+1,hn=>by
  have hlt:n<xs.length:=hn;rw [twiceB_succ hlt,PInv.once h n (by omega),Bool.false_or];cases hb:oa (xs.take n) xs[n].fact with
  | false=>rfl
  | true =>
   obtain⟨s,hs,he⟩:=hasS_iff.1 hb;obtain⟨j,hj,hjs⟩:=Eg hs;have hj2:j<n:=by rw [Au] at hj;omega
   rw [D1] at hjs;have hnd:=h.nodup;have hne:=List.pairwise_iff_getElem.1 hnd j n (by rw [Aa];omega) (by rw [Aa];exact hlt) hj2;rw [C5,C5,hjs] at hne;exact absurd he hne
theorem last_is {xs t:List Stp} {s:Stp} (h:xs=t++[s]):∃ hl:(((xs.map ck).length:Int)-1).toNat<xs.length,xs[(((xs.map ck).length:Int)-1).toNat]'hl=s:=by
 have hn:(((xs.map ck).length:Int)-1).toNat=t.length:=by rw [Aa,h,Ap];simp
 have hs:xs[(((xs.map ck).length:Int)-1).toNat]?=some s:=by rw [hn,h];simp
 exact List.getElem?_eq_some_iff.1 hs
theorem whyBegun_fn:Fn 7 [] (λr=>r = .d (.bool true)):=by
 refine fqE Tryz.func7 ?_;intro O w0 E0 β0;have h1:=sn;have h2:=lpairs_fn;have h3:=fv 1 [1,3];have h3':=fv 1 [3,1];have h4:=wprove_fn smallP pairsF ⟨1,[1,3]⟩ 0 fullF i5;have h5:=wprove_fn smallP pairsF ⟨1,[3,1]⟩ 0 fullF i5;rw [show prvB smallP fullF ⟨1,[1,3]⟩ 0=true by kernel_rfl,show prvE smallP ⟨1,[1,3]⟩ 0=0 by kernel_rfl] at h4;rw [show prvB smallP fullF ⟨1,[3,1]⟩ 0=false by kernel_rfl,show prvE smallP ⟨1,[3,1]⟩ 0=0 by kernel_rfl] at h5;repeat' (first|refine zs ?_|refine z21 ?_ (hc:=by apply h1)|refine z21 ?_ (hc:=by apply h2)|refine z21 ?_ (hc:=by apply h3)|fail)
 apply ow;exact rfl;exact rfl;exact h4;exact rfl;exact rfl;exact rfl;rintro _ ⟨xs,rfl,q1,-⟩;obtain⟨q1,t,s,q2,q3⟩:=q1 rfl;repeat' (first|refine zs ?_|refine z21 ?_ (hc:=by apply h1)|refine z21 ?_ (hc:=by apply h2)|refine z21 ?_ (hc:=by apply h3')|fail)
 apply ow;exact rfl;exact rfl;exact h5;exact rfl;exact rfl;exact rfl;rintro _ ⟨ys,rfl,-,q4⟩;obtain rfl:=q4 rfl;have hpos:0<xs.length:=by rw [q2];simp
 have h60:xs.length<=5:=q1.len;have h6:=wcheck_fn smallP pairsF xs 0 fullF i5;rw [show whyE 0 xs=0 from if_neg (by omega),q1.proof hpos,show (decide ((0:Int)=0) && true)=true from rfl] at h6;have lx:(xs.map ck).length=xs.length:=Aa _;obtain⟨hl,hlast⟩:=last_is q2;have h8:=fa [(xs[(((xs.map ck).length:Int)-1).toNat]'hl).fact] [⟨1,[1,3]⟩];rw [show d7 Fct.same [(xs[(((xs.map ck).length:Int)-1).toNat]'hl).fact] [⟨1,[1,3]⟩]=true by rw [hlast,q3];kernel_rfl] at h8;repeat' (first|refine zr ?_|refine z21 ?_ (hc:=by apply h1)|refine z21 ?_ (hc:=by apply h2)|refine z22 ?_ (hc:=by apply h3)|refine z21 ?_ (hc:=by apply h6)|refine z22 ?_ (hc:=by apply h8)|(refine zm ?_ ?_<;>intro hg)|(exfalso;omega))
 exact⟨.inl rfl,_,rfl,rfl,rfl⟩
end Go.Proofs.YtapciiffpnociadGreat
