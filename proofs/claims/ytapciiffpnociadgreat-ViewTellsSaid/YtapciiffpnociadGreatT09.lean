/- Several texts in one: GxCell WirE WirA WirB GxElm GxWin GxVew LstS. Condition: none. -/
import Derived.Test.YtapciiffpnociadGreatT08
import Derived.Test.YtapciiffpnociadGreatT01
import Derived.Laws.MakeOwn
import Derived.Laws.OwnMore
set_option maxHeartbeats 8000000
open Array renaming length_toList→A2
open Bool renaming and_eq_true→Ae,not_not→Hg
open List renaming append_assoc→Cf,drop_eq_getElem_cons→Am,drop_of_length_le→As,ext_getElem?→Ci,flatten_cons→D4,getElem?_append_left→Bm,getElem?_append_right→A4,getElem?_eq_getElem→Ad,getElem?_eq_none→A8,getElem?_take→Bi,getElem_mem→Aj,getElem_replicate→Eb,getElem_take→Dp,length→Bv,length_append→Af,length_drop→A7,length_map→Aa,length_replicate→Cb,length_take→Aq,map_append→Ar,mem_of_mem_take→Bq,replicate→Ap,replicate_succ→Fe,sum_append→E9
open Nat renaming add_mul→Bo,beq→Aw,ble→C0,blt→Av,le_of_ble_eq_true→Ab,le_refl→Ah,min_eq_left→Eo,mod_lt→Fj,mul_le_mul_right→Be,not_lt_zero→A9,zero_le→Ak
namespace Go.Proofs.YtapciiffpnociadGreat
section
open Go Go.RowKit
def KeptR (J:Nat) (R:Nat->SV->Hp->Prop) (_:Nat) (r:SV) (H:Hp):Prop :=
 ∃ (ρ:Nat->Nat) (k2:Nat) (r2:SV) (H2:Hp),r=r2.ren ρ/\KnowsH ρ H H2/\Hp.low k2 H2=true/\aw (H2.map λp=>ρ p.1)=true/\aw (H2.map (·.1))=true/\C0 J k2=true/\l5 ρ J=true/\r2.low k2=true/\R k2 r2 H2
theorem kp {J:Nat} {R:Nat->SV->Hp->Prop} {k:Nat} {r:SV} {H:Hp} (ρ:Nat->Nat) (k2:Nat) (r2:SV) (H2:Hp) (hR:R k2 r2 H2) (h1:r=r2.ren ρ:=by exact rfl) (h2:KnowsH ρ H H2:=by (repeat' (first | exact trivial | refine ⟨rfl, ?_⟩))) (h3:Hp.low k2 H2=true:=by exact rfl) (h4:aw (H2.map λp=>ρ p.1)=true:=by exact rfl) (h5:aw (H2.map (·.1))=true:=by exact rfl) (h6:Nat.ble J k2=true:=by exact rfl) (h7:l5 ρ J=true:=by exact rfl) (h8:r2.low k2=true:=by exact rfl):KeptR J R k r H:=⟨ρ,k2,r2,H2,h1,h2,h3,h4,h5,h6,h7,h8,hR⟩
theorem fn_enterR {dr:Bool} {P:Program} {τ:List (Nat×TI)} {τok:dz P τ} {f:FuncId} {fn:Func} {c:Code} {args:List SV} {J k:Nat} {H:Hp} {R:Nat->SV->Hp->Prop} (N:Nat) (hf:P.funcs[f]?=some fn) (hb:fn.body=some c)
  (hN:args.length+(fn.ntmps-args.length)=N) (hcall:fj P f=true)
  (h:∀ (O:Nat->Prop) (w0:World) (E0:Nat->Prop) (β0:Nat->Nat×Value),DW ⟨P,τ,τok,O,w0,E0,N,J,β0,none,dl,true,dr⟩ c (RetQ τ fn.results.toList (KeptR J R)) k (o7 0 args) H):FnOk dr P τ τok f args J k H R:=by
 have h2:=fn_enter (J:=J) (k:=k) (H:=H) N hf hb hN hcall (R:=KeptR J R) h;refine⟨h2.1,λO e w vs hH hr=>(h2.2 O e w vs hH hr).mono ?_⟩
 rintro en w' ⟨k',r,H',e',v,⟨ρ,k2,r2,H2,rfl,hK,hl,hd,hd',hj,ha,hrl,hR⟩,rfl,hH',hrel⟩;obtain⟨g1,g2⟩:=hH'.ren ρ k2 H2 hK hl hd hd' hj ha;exact⟨k2,r2,H2,e'.ren ρ k2,v,hR,rfl,g1,Rel.keep (Ah _) (λ_ _ _=>rfl) (λb _ hy=>g2 b hy) _ _ (Rel.ren ρ k2 r2 v hrl hrel)⟩
theorem frE {dr:Bool} {P:Program} {τ:List (Nat×TI)} {τok:dz P τ} {f:FuncId} {fn:Func} {c:Code} {args:List SV} {J k:Nat} {H:Hp} {R:Nat->SV->Hp->Prop} {N:Nat} (hf:P.funcs[f]?=some fn) (h:∀ (O:Nat->Prop) (w0:World) (E0:Nat->Prop) (β0:Nat->Nat×Value),DW ⟨P,τ,τok,O,w0,E0,N,J,β0,none,dl,true,dr⟩ c (RetQ τ fn.results.toList (KeptR J R)) k (o7 0 args) H) (hb:fn.body=some c:=by exact rfl) (hN:args.length+(fn.ntmps-args.length)=N:=by exact rfl) (hcall:fj P f=true:=by kernel_rfl):FnOk dr P τ τok f args J k H R:=fn_enterR N hf hb hN hcall h
theorem set_same {α:Type} {l:List α} {i:Nat} {v:α} (h:l[i]?=some v):l.set i v=l:=by
 apply Ci;intro j;rw [List.getElem?_set];split
 ·rename_i hij;subst hij;obtain⟨h1,h2⟩:=List.getElem?_eq_some_iff.1 h;rw [if_pos h1,h]
 ·rfl
section
variable {Γ : Ctx} {k : Nat} {L : Sl} {H H' : Hp} {Q : gh} {c : Code}
theorem kg (i o:Nat) (te:TypeId) (es:Nat) {tb:TypeId} {cs:List SV} (hH:Hp.get H i=some (.blk tb cs)) (hc:cs[o]?=some .nils) (hS:zk ((k,.row te es [])::H) i (.blk tb (cs.set o (.row k))) some=some H'):Ent Γ k L H (k+1) L H':=by
 rw [l6] at hS;cases hS;intro e a w m;have hη:(e.bindRow k (.slice none 0 0)).η k = .slice none 0 0:=if_pos rfl;have m2:=(m.new (gn k) (hb:=.row te es []) (e':=e.bindRow k (.slice none 0 0)) (w':=w) (λi=>or_congr (m.top i) Iff.rfl) (e.bindRow_ext _ _ (λh=>gn k ((m.top k).1 h))) (Beld.refl _ _ _)
  (λb hb=>by simp [HB.owned,hη,Value.ownBlock] at hb) (λ_=>⟨[],by rw [hη];exact World.ownsRow_nil w 0 te es,by simp,by simp,by simp⟩)).cast (ff k)
 have hik:i<k:=(m.top i).1 (m.heap _ (Hp.mem_of hH)).1;have hH2:Hp.get ((k,.row te es [])::H) i=some (.blk tb cs):=by
  rw [Hp.get_cons,if_neg (by omega)];exact hH
 refine⟨_,m2.turn hH2 (Ah _) rfl rfl rfl (λ_=>Ah _) (λ_ _ _=>rfl) rfl ?_⟩
 obtain⟨vs,h1,h2,h3⟩:=(m2.heap _ (Hp.mem_of hH2)).2;refine⟨vs,h1,?_,h3⟩
 obtain⟨v,g1,g2⟩:=RelL.get cs vs h2 o .nils hc;have g2:v = .slice none 0 0:=g2;have:=RelL.set cs vs h2 o (.row k) v ⟨(m2.top k).2 (Nat.lt_succ_self k),by rw [hη,g2],by rw [g2];rfl⟩
 rwa [set_same g1] at this
theorem pq (i o j:Nat) {es:Nat} {te tb:TypeId} {cs:List SV} {xs:List (List D)} {H1:Hp} (hj:Hp.get H j=some (.row te es xs)) (hD:zn H j some=some H1) (hH:Hp.get H1 i=some (.blk tb cs)) (hc:cs[o]?=some (.row j))
  (hS:zk H1 i (.blk tb (cs.set o (.d (.slice es xs)))) some=some H'):Ent Γ k L H k L H':=by
 rw [ni] at hD;cases hD;rw [l6] at hS;cases hS;intro e a w m;obtain⟨m2,_⟩:=m.del j;have hrow:=qn m hj;refine⟨_,m2.turn hH (Ah _) rfl rfl rfl (λ_=>Ah _) (λ_ _ _=>rfl) rfl ?_⟩
 obtain⟨vs,h1,h2,h3⟩:=(m2.heap _ (Hp.mem_of hH)).2;refine⟨vs,h1,?_,h3⟩
 obtain⟨v,g1,g2⟩:=RelL.get cs vs h2 o (.row j) hc;have:=RelL.set cs vs h2 o (.d (.slice es xs)) v (by rw [g2.2.1];exact hrow)
 rwa [set_same g1] at this
theorem dw_lenC (i o:Nat) {tb:TypeId} {cs:List SV} {es:Nat} {xs:List (List D)} (hH:Hp.get H i=some (.blk tb cs)) (hc:cs[o]?=some (.d (.slice es xs))) (hk:xs.length<=9223372036854775807->DW Γ c Q k L H):DW Γ c Q k L H:=by
 intro e a w m;obtain⟨v,_,g2⟩:=HRel.blk_cell (m.heap _ (Hp.mem_of hH)).2 hc;obtain⟨ao,cap,_,h1,h2,_⟩:=g2.slice_inv;exact hk (by unfold maxLen at h2;omega) e a w m
theorem bi (i o es:Nat) {tb:TypeId} {cs:List SV} (hH:Hp.get H i=some (.blk tb cs)) (hc:cs[o]?=some .nils) (hS:zk H i (.blk tb (cs.set o (.d (.slice es [])))) some=some H'):Ent Γ k L H k L H':=by
 rw [l6] at hS;cases hS;intro e a w m;refine⟨_,m.turn hH (Ah _) rfl rfl rfl (λ_=>Ah _) (λ_ _ _=>rfl) rfl ?_⟩
 obtain⟨vs,h1,h2,h3⟩:=(m.heap _ (Hp.mem_of hH)).2;refine⟨vs,h1,?_,h3⟩
 obtain⟨v,g1,g2⟩:=RelL.get cs vs h2 o .nils hc;have g2:v = .slice none 0 0:=g2;have:=RelL.set cs vs h2 o (.d (.slice es [])) v (by rw [g2];exact .nil)
 rwa [set_same g1] at this
theorem cd {t:Nat} (te:TypeId) (es:Nat) (h:L.get t = .nils):Ent Γ k L H (k+1) ((t,.row k)::L) ((k,.row te es [])::H):=by
 intro e a w m;have hη:(e.bindRow k (.slice none 0 0)).η k = .slice none 0 0:=if_pos rfl;have m2:=(m.new (gn k) (hb:=.row te es []) (e':=e.bindRow k (.slice none 0 0)) (w':=w) (λi=>or_congr (m.top i) Iff.rfl) (e.bindRow_ext _ _ (λh=>gn k ((m.top k).1 h))) (Beld.refl _ _ _)
  (λb hb=>by simp [HB.owned,hη,Value.ownBlock] at hb) (λ_=>⟨[],by rw [hη];exact World.ownsRow_nil w 0 te es,by simp,by simp,by simp⟩)).cast (ff k)
 refine⟨_,⟨m2.toHeap,m2.defers,m2.len,λt'=>?_⟩⟩
 rw [Sl.get_cons];split
 ·rename_i ht;subst ht;have hs:=m.slot t;rw [h] at hs;refine⟨.inr rfl,?_⟩
  have hs:a.tmps.getD t undef = .slice none 0 0:=hs;exact⟨hs.trans hη.symm,by rw [hs];rfl⟩
 ·exact m2.slot t'
theorem bh {i es:Nat} {te:TypeId} {xs:List (List D)} (t:Nat) (hL:L.get t = .row i) (hH:Hp.get H i=some (.row te es xs)) (hD:zn H i some=some H'):Ent Γ k L H k ((t,.d (.slice es xs))::L) H':=by
 rw [ni] at hD;cases hD;intro e a w m;obtain⟨m2,_⟩:=m.del i;refine⟨e,⟨m2.toHeap,m2.defers,m2.len,λt'=>?_⟩⟩
 rw [Sl.get_cons];split
 ·rename_i ht;subst ht;have hs:=m.slot t;rw [hL] at hs;rw [hs.2.1];exact qn m hH
 ·exact m2.slot t'
theorem cr (t es:Nat) (hL:L.get t = .nils):Ent Γ k L H k ((t,.d (.slice es []))::L) H:=by
 intro e a w m;refine⟨e,⟨m.toHeap,m.defers,m.len,λt'=>?_⟩⟩
 rw [Sl.get_cons];split
 ·rename_i ht;subst ht;have hs:=m.slot t;rw [hL] at hs;rw [hs];exact .nil
 ·exact m.slot t'
end
attribute [local irreducible] DW DS DL DQ Ev FnOk FnP ef bt DT
def aq (n:Int):List D:=[.int .i64 n]
def ck (i:UId):List D:=[.int .i64 i.author,.int .i64 i.number]
def ae (f:Fct):List D:=[.int .i64 f.pred,.slice 1 (f.args.map aq)]
def aa (u:Upd):List D:=[.int .i64 u.id.author,.int .i64 u.id.number,.slice 2 (u.parents.map ck),.slice 2 (u.says.map ae),.slice 2 (u.takes.map ck)]
abbrev elI (n:Int):SV:=.d (.int .i64 n)
abbrev o8 (i:UId):SV:=.agg [.d (.int .i64 i.author),.d (.int .i64 i.number)]
abbrev fi (f:Fct):SV:=.agg [.d (.int .i64 f.pred),.d (.slice 1 (f.args.map aq))]
abbrev gc (u:Upd):SV:=.agg [.d (.int .i64 u.id.author),.d (.int .i64 u.id.number),.d (.slice 2 (u.parents.map ck)),.d (.slice 2 (u.says.map ae)),.d (.slice 2 (u.takes.map ck))]
theorem indexFuncId_fn {f:FuncId} {caps:List SV} (p:UId->Bool) (l:List (UId)) (hcap:SV.lowL 0 caps=true) (hp:∀ x∈l,Fn f (o8 x::caps) (λr=>r = .d (.bool (p x)))):Fn 247 [.d (.slice 2 (l.map ck)),.fn f caps] (λr=>r = .d (.int .i64 (kr p l))):=by
 refine fqE Tryz.func247 ?_;intro O w0 E0 β0;refine cp (t:=0) rfl λhb=>?_
 repeat' (first|refine zs ?_|fail)
 refine ag (ι:=Nat) (λi=>⟨0,[(0,.d (.slice 2 (l.map ck))),(1,.fn f caps),(7,.d (.int .i64 l.length)),(8,.d (.int .i64 i))],[]⟩)
  (λi=>i<=l.length/\∀ j (hj:j<l.length),j<i->p l[j]=false) (λi=>l.length-i) 0 ⟨Ak _,λj _ h=>absurd h (A9 j)⟩
  (ai id ⟨rfl,congrArg (SV.fn f) (SV.renL_id caps).symm,by simp;rfl,rfl,trivial⟩ trivial (by simp [Sl.low,SV.low,hcap]) rfl rfl rfl rfl rfl) ?_
 rintro i ⟨h1,h2⟩;repeat' (first|refine zs ?_|fail)
 refine bf rfl (λh=>?_) (λh=>?_)
 ·have hi:i<l.length:=by omega
  have hpx:=hp l[i] (Aj hi);repeat' (first|refine zs ?_|(apply ki;exact rfl;exact rfl;exact rfl;exact rfl;apply hpx;exact rfl;(assumption);exact rfl;rintro _ rfl))
  refine d7 rfl (λhb=>?_) (λhb=>?_)
  ·repeat' (first|refine zr ?_|fail)
   exact a6 rfl (jp h2 hi hb).symm
  ·repeat' (first|refine zs ?_|fail)
   exact⟨i+1,⟨hi,gz h2 hi hb⟩,ai id ⟨rfl,congrArg (SV.fn f) (SV.renL_id caps).symm,rfl,rfl,trivial⟩ trivial (by simp [Sl.low,SV.low,hcap]) rfl rfl rfl rfl rfl,by omega⟩
 ·repeat' (first|refine zr ?_|fail)
  exact a6 rfl (ja λj hj=>h2 j hj (by omega)).symm
theorem indexFuncFct_fn {f:FuncId} {caps:List SV} (p:Fct->Bool) (l:List (Fct)) (hcap:SV.lowL 0 caps=true) (hp:∀ x∈l,Fn f (fi x::caps) (λr=>r = .d (.bool (p x)))):Fn 157 [.d (.slice 2 (l.map ae)),.fn f caps] (λr=>r = .d (.int .i64 (kr p l))):=by
 refine fqE Tryz.func157 ?_;intro O w0 E0 β0;refine cp (t:=0) rfl λhb=>?_
 repeat' (first|refine zs ?_|fail)
 refine ag (ι:=Nat) (λi=>⟨0,[(0,.d (.slice 2 (l.map ae))),(1,.fn f caps),(7,.d (.int .i64 l.length)),(8,.d (.int .i64 i))],[]⟩)
  (λi=>i<=l.length/\∀ j (hj:j<l.length),j<i->p l[j]=false) (λi=>l.length-i) 0 ⟨Ak _,λj _ h=>absurd h (A9 j)⟩
  (ai id ⟨rfl,congrArg (SV.fn f) (SV.renL_id caps).symm,by simp;rfl,rfl,trivial⟩ trivial (by simp [Sl.low,SV.low,hcap]) rfl rfl rfl rfl rfl) ?_
 rintro i ⟨h1,h2⟩;repeat' (first|refine zs ?_|fail)
 refine bf rfl (λh=>?_) (λh=>?_)
 ·have hi:i<l.length:=by omega
  have hpx:=hp l[i] (Aj hi);repeat' (first|refine zs ?_|(apply ki;exact rfl;exact rfl;exact rfl;exact rfl;apply hpx;exact rfl;(assumption);exact rfl;rintro _ rfl))
  refine d7 rfl (λhb=>?_) (λhb=>?_)
  ·repeat' (first|refine zr ?_|fail)
   exact a6 rfl (jp h2 hi hb).symm
  ·repeat' (first|refine zs ?_|fail)
   exact⟨i+1,⟨hi,gz h2 hi hb⟩,ai id ⟨rfl,congrArg (SV.fn f) (SV.renL_id caps).symm,rfl,rfl,trivial⟩ trivial (by simp [Sl.low,SV.low,hcap]) rfl rfl rfl rfl rfl,by omega⟩
 ·repeat' (first|refine zr ?_|fail)
  exact a6 rfl (ja λj hj=>h2 j hj (by omega)).symm
theorem indexFuncInt_fn {f:FuncId} {caps:List SV} (p:Int->Bool) (l:List (Int)) (hcap:SV.lowL 0 caps=true) (hp:∀ x∈l,Fn f (elI x::caps) (λr=>r = .d (.bool (p x)))):Fn 175 [.d (.slice 1 (l.map aq)),.fn f caps] (λr=>r = .d (.int .i64 (kr p l))):=by
 refine fqE Tryz.func175 ?_;intro O w0 E0 β0;refine cp (t:=0) rfl λhb=>?_
 repeat' (first|refine zs ?_|fail)
 refine ag (ι:=Nat) (λi=>⟨0,[(0,.d (.slice 1 (l.map aq))),(1,.fn f caps),(7,.d (.int .i64 l.length)),(8,.d (.int .i64 i))],[]⟩)
  (λi=>i<=l.length/\∀ j (hj:j<l.length),j<i->p l[j]=false) (λi=>l.length-i) 0 ⟨Ak _,λj _ h=>absurd h (A9 j)⟩
  (ai id ⟨rfl,congrArg (SV.fn f) (SV.renL_id caps).symm,by simp;rfl,rfl,trivial⟩ trivial (by simp [Sl.low,SV.low,hcap]) rfl rfl rfl rfl rfl) ?_
 rintro i ⟨h1,h2⟩;repeat' (first|refine zs ?_|fail)
 refine bf rfl (λh=>?_) (λh=>?_)
 ·have hi:i<l.length:=by omega
  have hpx:=hp l[i] (Aj hi);repeat' (first|refine zs ?_|(apply ki;exact rfl;exact rfl;exact rfl;exact rfl;apply hpx;exact rfl;(assumption);exact rfl;rintro _ rfl))
  refine d7 rfl (λhb=>?_) (λhb=>?_)
  ·repeat' (first|refine zr ?_|fail)
   exact a6 rfl (jp h2 hi hb).symm
  ·repeat' (first|refine zs ?_|fail)
   exact⟨i+1,⟨hi,gz h2 hi hb⟩,ai id ⟨rfl,congrArg (SV.fn f) (SV.renL_id caps).symm,rfl,rfl,trivial⟩ trivial (by simp [Sl.low,SV.low,hcap]) rfl rfl rfl rfl rfl,by omega⟩
 ·repeat' (first|refine zr ?_|fail)
  exact a6 rfl (ja λj hj=>h2 j hj (by omega)).symm
theorem nj {f:FuncId} {caps:List SV} (p:UId->Bool) (l:List (UId)) (hcap:SV.lowL 0 caps=true) (hp:∀ x∈l,Fn f (o8 x::caps) (λr=>r = .d (.bool (p x)))):Fn 190 [.d (.slice 2 (l.map ck)),.fn f caps] (λr=>r = .d (.bool (l.any p))):=by
 refine fqE Tryz.func190 ?_;intro O w0 E0 β0;have hx:=indexFuncId_fn p l hcap hp;have hlow:SV.lowL 0 [.d (.slice 2 (l.map ck)),.fn f caps]=true:=by simp [SV.lowL,SV.low,hcap]
 repeat' (first|refine zr ?_|refine z21 ?_ (hc:=by apply hx)|fail)
 exact a7 rfl (ol p l)
theorem containsFuncFct_fn {f:FuncId} {caps:List SV} (p:Fct->Bool) (l:List (Fct)) (hcap:SV.lowL 0 caps=true) (hp:∀ x∈l,Fn f (fi x::caps) (λr=>r = .d (.bool (p x)))):Fn 106 [.d (.slice 2 (l.map ae)),.fn f caps] (λr=>r = .d (.bool (l.any p))):=by
 refine fqE Tryz.func106 ?_;intro O w0 E0 β0;have hx:=indexFuncFct_fn p l hcap hp;have hlow:SV.lowL 0 [.d (.slice 2 (l.map ae)),.fn f caps]=true:=by simp [SV.lowL,SV.low,hcap]
 repeat' (first|refine zr ?_|refine z21 ?_ (hc:=by apply hx)|fail)
 exact a7 rfl (ol p l)
theorem q9 {f:FuncId} {caps:List SV} (p:Int->Bool) (l:List (Int)) (hcap:SV.lowL 0 caps=true) (hp:∀ x∈l,Fn f (elI x::caps) (λr=>r = .d (.bool (p x)))):Fn 126 [.d (.slice 1 (l.map aq)),.fn f caps] (λr=>r = .d (.bool (l.any p))):=by
 refine fqE Tryz.func126 ?_;intro O w0 E0 β0;have hx:=indexFuncInt_fn p l hcap hp;have hlow:SV.lowL 0 [.d (.slice 1 (l.map aq)),.fn f caps]=true:=by simp [SV.lowL,SV.low,hcap]
 repeat' (first|refine zr ?_|refine z21 ?_ (hc:=by apply hx)|fail)
 exact a7 rfl (ol p l)
theorem sk {α:Type} {o:α->α->Int} {l:List α} {i:Nat} (hi:i+1<l.length) (h:0<=o (l[i]'(by omega)) l[i+1]):dg o (l.drop i)=false:=by
 rw [Am (by omega),Am hi,dg,decide_eq_false (by omega)];rfl
theorem ww {α:Type} {o:α->α->Int} {l:List α} {i:Nat} (hi:i+1<l.length) (h:o (l[i]'(by omega)) l[i+1]<0):dg o (l.drop i)=dg o (l.drop (i+1)):=by
 rw [Am (show i<l.length by omega),Am hi,dg,decide_eq_true h];rfl
theorem sj {α:Type} {o:α->α->Int} {l:List α} {i:Nat} (hi:l.length<=i+1):dg o (l.drop i)=true:=by
 by_cases h:i<l.length
 ·rw [Am h,As hi];unfold dg;rfl
 ·rw [As (by omega)];unfold dg;rfl
theorem isNaN_fnD (dr:Bool) (a:Int):FnD dr 156 [.d (.int .i64 a)] (λr=>r = .d (.bool false)):=by
 refine fqE Tryz.func156 ?_;intro O w0 E0 β0;repeat' (first|refine zr ?_|fail)
 exact a7 rfl (by simp)
theorem x6 (dr:Bool) (a b:Int):FnD dr 104 [.d (.int .i64 a),.d (.int .i64 b)] (λr=>r = .d (.int .i64 (ep a b))):=by
 refine fqE Tryz.func104 ?_;intro O w0 E0 β0;repeat' (first|refine zr ?_|refine z21 ?_ (hc:=by apply isNaN_fnD)|(refine zm ?_ ?_<;>intro hg)|fail)
 all_goals exact a6 rfl (by unfold ep;simp [*])
theorem compare_fn (a b:Int):Fn 104 [.d (.int .i64 a),.d (.int .i64 b)] (λr=>r = .d (.int .i64 (ep a b))):=x6 false a b
def orL:List Int->Int
 | []=>0
 | a::l=>if a=0 then orL l else a
theorem or_fnD (dr:Bool) (l:List Int):FnD dr 103 [.d (.slice 1 (l.map aq))] (λr=>r = .d (.int .i64 (orL l))):=by
 refine fqE Tryz.func103 ?_;intro O w0 E0 β0;refine cp (t:=0) rfl λhb=>?_
 repeat' (first|refine zs ?_|fail)
 refine ag (ι:=Nat) (λi=>⟨0,[(3,.d (.int .i64 0)),(6,.d (.slice 1 (l.map aq))),(7,.d (.int .i64 l.length)),(8,.d (.int .i64 i))],[]⟩)
  (λi=>i<=l.length/\orL l=orL (l.drop i)) (λi=>l.length-i) 0 ⟨Ak _,rfl⟩
  (ai id ⟨rfl,rfl,by simp;rfl,rfl,trivial⟩ trivial rfl rfl rfl rfl rfl rfl) ?_
 rintro i ⟨h1,h2⟩;repeat' (first|refine zs ?_|fail)
 refine bf rfl (λh=>?_) (λh=>?_)
 ·have hi:i<l.length:=by omega
  have hd:=Am hi;repeat' (first|refine zs ?_|fail)
  refine bf rfl (λhb=>?_) (λhb=>?_)
  ·repeat' (first|refine zr ?_|fail)
   exact a6 rfl (by rw [h2,hd,orL,if_neg hb])
  ·repeat' (first|refine zs ?_|fail)
   exact⟨i+1,⟨hi,by rw [h2,hd,orL,if_pos (Decidable.not_not.1 hb)]⟩,er id,by omega⟩
 ·repeat' (first|refine zr ?_|fail)
  exact a6 rfl (by rw [h2,As (by omega)];rfl)
theorem or_fn (l:List Int):Fn 103 [.d (.slice 1 (l.map aq))] (λr=>r = .d (.int .i64 (orL l))):=or_fnD false l
theorem ordId_or (a b:UId):bw a b=orL [ep a.author b.author,ep a.number b.number]:=by
 unfold bw;simp only [orL];split
 ·split
  ·assumption
  ·rfl
 ·rfl
theorem order_fn (a b:UId):Fn 192 [o8 a,o8 b] (λr=>r = .d (.int .i64 (bw a b))):=by
 refine fqE Tryz.func192 ?_;intro O w0 E0 β0;have ho:=or_fn [ep a.author b.author,ep a.number b.number];repeat' (first|refine zr ?_|refine z22 ?_ (hc:=by apply compare_fn)|refine z22 ?_ (hc:=by apply ho)|fail)
 exact a6 rfl (ordId_or a b).symm
theorem yr {l m:List Int} {i:Nat} (h1:i<l.length) (h2:i<m.length):du (l.drop i) (m.drop i)=if ep l[i] m[i]=0 then du (l.drop (i+1)) (m.drop (i+1)) else ep l[i] m[i]:=by
 rw [Am h1,Am h2,du]
theorem ordL_more {l m:List Int} {i:Nat} (h1:i<l.length) (h2:m.length<=i):du (l.drop i) (m.drop i)=1:=by
 rw [Am h1,As h2];unfold du;rfl
theorem ordL_less {l m:List Int} {i:Nat} (h1:l.length<=i) (h2:i<m.length):du (l.drop i) (m.drop i) = -1:=by
 rw [Am h2,As h1];unfold du;rfl
theorem ordL_end {l m:List Int} {i:Nat} (h1:l.length<=i) (h2:m.length<=i):du (l.drop i) (m.drop i)=0:=by
 rw [As h1,As h2];unfold du;rfl
theorem vg (dr:Bool) (l m:List Int):FnD dr 105 [.d (.slice 1 (l.map aq)),.d (.slice 1 (m.map aq))] (λr=>r = .d (.int .i64 (du l m))):=by
 refine fqE Tryz.func105 ?_;intro O w0 E0 β0;refine cp (t:=0) rfl λhb=>?_
 refine cp (t:=1) rfl λhb2=>?_
 repeat' (first|refine zs ?_|fail)
 refine ag (ι:=Nat) (λi=>⟨0,[(0,.d (.slice 1 (l.map aq))),(1,.d (.slice 1 (m.map aq))),(9,.d (.slice 1 (l.map aq))),(10,.d (.int .i64 l.length)),(11,.d (.int .i64 i))],[]⟩)
  (λi=>i<=l.length/\i<=m.length/\du l m=du (l.drop i) (m.drop i)) (λi=>l.length-i) 0 ⟨Ak _,Ak _,rfl⟩
  (ai id ⟨rfl,rfl,rfl,by simp;rfl,rfl,trivial⟩ trivial rfl rfl rfl rfl rfl rfl) ?_
 rintro i ⟨h1,h2,h3⟩;repeat' (first|refine zs ?_|fail)
 refine bf rfl (λh=>?_) (λh=>?_)
 ·have hi:i<l.length:=by omega
  repeat' (first|refine zs ?_|fail)
  refine bf rfl (λhb=>?_) (λhb=>?_)
  ·repeat' (first|refine zr ?_|fail)
   exact a6 rfl (by rw [h3,ordL_more hi (by rw [Aa] at hb;omega)])
  ·have hm:i<m.length:=by rw [Aa] at hb;omega
   have hs:=yr hi hm;repeat' (first|refine zs ?_|refine z21 ?_ (hc:=by apply x6)|fail)
   refine bf rfl (λhc=>?_) (λhc=>?_)
   ·repeat' (first|refine zr ?_|fail)
    exact a6 rfl (by rw [h3,hs,if_neg hc])
   ·repeat' (first|refine zs ?_|fail)
    exact⟨i+1,⟨hi,hm,by rw [h3,hs,if_pos (Decidable.not_not.1 hc)]⟩,er id,by omega⟩
 ·repeat' (first|refine zs ?_|fail)
  refine bf rfl (λhb=>?_) (λhb=>?_)
  ·repeat' (first|refine zr ?_|fail)
   exact a6 rfl (by rw [h3,ordL_less (by omega) (by rw [Aa,Aa] at hb;omega)])
  ·repeat' (first|refine zr ?_|fail)
   exact a6 rfl (by rw [h3,ordL_end (by omega) (by rw [Aa,Aa] at hb;omega)])
theorem ordF_or (a b:Fct):de a b=orL [ep a.pred b.pred,du a.args b.args]:=by
 unfold de;simp only [orL];split
 ·split
  ·assumption
  ·rfl
 ·rfl
theorem orderF_fnD (dr:Bool) (a b:Fct):FnD dr 52 [fi a,fi b] (λr=>r = .d (.int .i64 (de a b))):=by
 refine fqE Tryz.func52 ?_;intro O w0 E0 β0;have ho:=or_fnD dr [ep a.pred b.pred,du a.args b.args];repeat' (first|refine zr ?_|refine z22 ?_ (hc:=by apply x6)|refine z22 ?_ (hc:=by apply vg)|refine z22 ?_ (hc:=by apply ho)|fail)
 exact a6 rfl (ordF_or a b).symm
theorem yq (a b:Fct):Fn 52 [fi a,fi b] (λr=>r = .d (.int .i64 (de a b))):=orderF_fnD false a b
theorem risesId_fn {f:FuncId} (o:UId->UId->Int) (l:List (UId)) (hp:∀ x y,Fn f [o8 x,o8 y] (λr=>r = .d (.int .i64 (o x y)))):Fn 191 [.d (.slice 2 (l.map ck)),.fn f []] (λr=>r = .d (.bool (dg o l))):=by
 refine fqE Tryz.func191 ?_;intro O w0 E0 β0;refine cp (t:=0) rfl λhb=>?_
 repeat' (first|refine zs ?_|fail)
 refine ag (ι:=Nat) (λi=>⟨0,[(0,.d (.slice 2 (l.map ck))),(1,.fn f []),(5,.d (.int .i64 ((i:Int)+1)))],[]⟩)
  (λi=>i<=l.length/\dg o l=dg o (l.drop i)) (λi=>l.length-i) 0 ⟨Ak _,rfl⟩
  (er id) ?_
 rintro i ⟨h1,h2⟩;repeat' (first|refine zs ?_|fail)
 refine bf rfl (λh=>?_) (λh=>?_)
 ·have hi:i+1<l.length:=by have:=h;rw [Aa] at this;omega
  have e0:∀ (j:Nat) (hj:j<l.length),j=i->l[j]'hj=l[i]'(by omega):=by rintro j hj rfl;rfl
  have hpx:=hp (l[((i:Int)+1-1).toNat]'(by omega)) (l[i+1]'hi);repeat' (first|refine zs ?_|(apply jd;exact rfl;exact rfl;exact rfl;exact rfl;apply hpx;exact rfl;(exact rfl);exact rfl;exact rfl;exact⟨_,rfl⟩;rintro _ rfl))
  refine bf rfl (λhb=>?_) (λhb=>?_)
  ·repeat' (first|refine zr ?_|fail)
   rw [e0 _ _ (by omega)] at hb;exact a7 rfl (by rw [h2,sk hi (by omega)])
  ·repeat' (first|refine zs ?_|fail)
   rw [e0 _ _ (by omega)] at hb;exact⟨i+1,⟨by omega,by rw [h2,ww hi (by omega)]⟩,er id,by omega⟩
 ·repeat' (first|refine zr ?_|fail)
  exact a7 rfl (by rw [h2,sj (by have:=h;rw [Aa] at this;omega)])
theorem risesFct_fn {f:FuncId} (o:Fct->Fct->Int) (l:List (Fct)) (hp:∀ x y,Fn f [fi x,fi y] (λr=>r = .d (.int .i64 (o x y)))):Fn 196 [.d (.slice 2 (l.map ae)),.fn f []] (λr=>r = .d (.bool (dg o l))):=by
 refine fqE Tryz.func196 ?_;intro O w0 E0 β0;refine cp (t:=0) rfl λhb=>?_
 repeat' (first|refine zs ?_|fail)
 refine ag (ι:=Nat) (λi=>⟨0,[(0,.d (.slice 2 (l.map ae))),(1,.fn f []),(5,.d (.int .i64 ((i:Int)+1)))],[]⟩)
  (λi=>i<=l.length/\dg o l=dg o (l.drop i)) (λi=>l.length-i) 0 ⟨Ak _,rfl⟩
  (er id) ?_
 rintro i ⟨h1,h2⟩;repeat' (first|refine zs ?_|fail)
 refine bf rfl (λh=>?_) (λh=>?_)
 ·have hi:i+1<l.length:=by have:=h;rw [Aa] at this;omega
  have e0:∀ (j:Nat) (hj:j<l.length),j=i->l[j]'hj=l[i]'(by omega):=by rintro j hj rfl;rfl
  have hpx:=hp (l[((i:Int)+1-1).toNat]'(by omega)) (l[i+1]'hi);repeat' (first|refine zs ?_|(apply jd;exact rfl;exact rfl;exact rfl;exact rfl;apply hpx;exact rfl;(exact rfl);exact rfl;exact rfl;exact⟨_,rfl⟩;rintro _ rfl))
  refine bf rfl (λhb=>?_) (λhb=>?_)
  ·repeat' (first|refine zr ?_|fail)
   rw [e0 _ _ (by omega)] at hb;exact a7 rfl (by rw [h2,sk hi (by omega)])
  ·repeat' (first|refine zs ?_|fail)
   rw [e0 _ _ (by omega)] at hb;exact⟨i+1,⟨by omega,by rw [h2,ww hi (by omega)]⟩,er id,by omega⟩
 ·repeat' (first|refine zr ?_|fail)
  exact a7 rfl (by rw [h2,sj (by have:=h;rw [Aa] at this;omega)])
theorem within_fn (n a b:Int):Fn 246 [.d (.int .i64 n),.d (.int .i64 a),.d (.int .i64 b)] (λr=>r = .d (.bool (inR n a b))):=by
 refine fqE Tryz.func246 ?_;intro O w0 E0 β0;repeat' (first|refine zr ?_|(refine zm ?_ ?_<;>intro hg)|fail)
 all_goals exact a7 rfl (by unfold inR;first|(simp_all;done)|(simp_all;omega))
theorem wwithin_fn (n a b:Int):Fn 125 [.d (.int .i64 n),.d (.int .i64 a),.d (.int .i64 b)] (λr=>r = .d (.bool (inR n a b))):=by
 refine fqE Tryz.func125 ?_;intro O w0 E0 β0;repeat' (first|refine zr ?_|(refine zm ?_ ?_<;>intro hg)|fail)
 all_goals exact a7 rfl (by unfold inR;first|(simp_all;done)|(simp_all;omega))
theorem number_fn (n:Int):Fn 128 [.d (.int .i64 n)] (λr=>r = .d (.bool (numB n))):=by
 refine fqE Tryz.func128 ?_;intro O w0 E0 β0;repeat' (first|refine zr ?_|refine z21 ?_ (hc:=by apply wwithin_fn)|fail)
 exact a7 rfl rfl
theorem right_fn (i:UId):Fn 189 [o8 i] (λr=>r = .d (.bool (idB i))):=by
 refine fqE Tryz.func189 ?_;intro O w0 E0 β0;repeat' (first|refine zr ?_|refine z21 ?_ (hc:=by apply within_fn)|(refine zm ?_ ?_<;>intro hg)|fail)
 all_goals exact a7 rfl (by unfold idB;simp [*])
theorem wrong_fn (i:UId):Fn 188 [o8 i] (λr=>r = .d (.bool (!idB i))):=by
 refine fqE Tryz.func188 ?_;intro O w0 E0 β0;repeat' (first|refine zr ?_|refine z21 ?_ (hc:=by apply right_fn)|fail)
 exact a7 rfl rfl
theorem noNum_fn (n:Int):Fn 249 [elI n] (λr=>r = .d (.bool (!numB n))):=by
 refine fqE Tryz.func249 ?_;intro O w0 E0 β0;repeat' (first|refine zr ?_|refine z21 ?_ (hc:=by apply number_fn)|fail)
 exact a7 rfl rfl
theorem says_fn (f:Fct):Fn 195 [fi f] (λr=>r = .d (.bool (saysB f))):=by
 refine fqE Tryz.func195 ?_;intro O w0 E0 β0;have hc:=q9 (λn=>!numB n) f.args rfl λx _=>noNum_fn x
 repeat' (first|refine zr ?_|refine z21 ?_ (hc:=by apply within_fn)|refine z21 ?_ (hc:=by apply hc)|(refine zm ?_ ?_<;>intro hg)|fail)
 all_goals exact a7 rfl (by unfold saysB;rw [all_any];first|(simp_all;done)|(simp_all;omega)|(simp_all;intros;omega))
theorem noSays_fn (f:Fct):Fn 194 [fi f] (λr=>r = .d (.bool (!saysB f))):=by
 refine fqE Tryz.func194 ?_;intro O w0 E0 β0;repeat' (first|refine zr ?_|refine z21 ?_ (hc:=by apply says_fn)|fail)
 exact a7 rfl rfl
theorem same_beq {x y:UId} {b:Bool} (h:(decide (y.author=x.author) && (decide (y.number=x.number) && true))=b):UId.same x y=b:=by
 rw [<- h];unfold UId.same;rw [Bool.and_true];congr 1<;>(rw [Bool.eq_iff_iff];simp;exact eq_comm)
theorem indexId_fn (y:UId) (l:List (UId)):Fn 248 [.d (.slice 2 (l.map ck)),o8 y] (λr=>r = .d (.int .i64 (kr (λx=>UId.same x y) l))):=by
 refine fqE Tryz.func248 ?_;intro O w0 E0 β0;refine cp (t:=0) rfl λhb=>?_
 repeat' (first|refine zs ?_|fail)
 refine ag (ι:=Nat) (λi=>⟨1,[(0,.d (.slice 2 (l.map ck))),(3,.loc 0 0),(7,.d (.int .i64 l.length)),(8,.d (.int .i64 i))],[(0,.blk 79 [.d (.int .i64 y.author),.d (.int .i64 y.number)])]⟩)
  (λi=>i<=l.length/\∀ j (hj:j<l.length),j<i->UId.same l[j] y=false) (λi=>l.length-i) 0 ⟨Ak _,λj _ h=>absurd h (A9 j)⟩
  (ai id ⟨rfl,rfl,by simp;rfl,rfl,trivial⟩ ⟨rfl,trivial⟩ rfl rfl rfl rfl rfl rfl) ?_
 rintro i ⟨h1,h2⟩;repeat' (first|refine zs ?_|fail)
 refine bf rfl (λh=>?_) (λh=>?_)
 ·have hi:i<l.length:=by omega
  repeat' (first|refine zs ?_|fail)
  refine d7 rfl (λhb=>?_) (λhb=>?_)
  ·repeat' (first|refine zr ?_|fail)
   exact a6 rfl (jp (p:=λx=>UId.same x y) h2 hi (same_beq hb)).symm
  ·repeat' (first|refine zs ?_|fail)
   exact⟨i+1,⟨hi,gz (p:=λx=>UId.same x y) h2 hi (same_beq hb)⟩,er id,by omega⟩
 ·repeat' (first|refine zr ?_|fail)
  exact a6 rfl (ja λj hj=>h2 j hj (by omega)).symm
theorem containsId_fn (y:UId) (l:List UId):Fn 193 [.d (.slice 2 (l.map ck)),o8 y] (λr=>r = .d (.bool (l.any λx=>x.same y))):=by
 refine fqE Tryz.func193 ?_;intro O w0 E0 β0;repeat' (first|refine zr ?_|refine z21 ?_ (hc:=by apply indexId_fn)|fail)
 exact a7 rfl (ol _ l)
theorem checkU_fn (u:Upd):Fn 139 [gc u] (λr=>r = .d (.int .i64 (db u))):=by
 refine fqE Tryz.func139 ?_;intro O w0 E0 β0;have h1:=nj (λi=>!idB i) u.parents rfl λx _=>wrong_fn x
 have h2:=nj (λi=>!idB i) u.takes rfl λx _=>wrong_fn x
 have h3:=risesId_fn bw u.parents order_fn;have h4:=risesId_fn bw u.takes order_fn;have h5:=containsId_fn ⟨u.id.author,u.id.number-1⟩ u.parents;have h6:=containsFuncFct_fn (λf=>!saysB f) u.says rfl λx _=>noSays_fn x
 have h7:=risesFct_fn de u.says yq;have h8:=wrong_fn u.id;rw [<- Hg (b:=u.parents.any _),<- all_any] at h1;rw [<- Hg (b:=u.takes.any _),<- all_any] at h2;rw [<- Hg (b:=u.says.any _),<- all_any] at h6;unfold db;have hid:=λh=>(yu (i:=u.id) h).2.2.2
 have hid1:=λh=>(yu (i:=u.id) h).2.2.1
 generalize idB u.id=b0 at *;have hidN:b0=false∨(b0=true/\1<=u.id.number/\u.id.number<=200):=by
  cases b0 with
  | false=>exact .inl rfl
  | true=>exact .inr ⟨rfl,hid1 rfl,hid rfl⟩
 clear hid hid1;rcases hidN with rfl|⟨rfl,n1,n2⟩
 ·repeat' (first|refine zr ?_|(apply ki;exact rfl;exact rfl;exact rfl;exact rfl;apply h8;exact rfl;(exact rfl);exact rfl;rintro _ rfl))
  all_goals exact a6 rfl (by simp)
 generalize (u.parents.all λx=>idB x)=b1 at *;generalize (u.takes.all λx=>idB x)=b2 at *;generalize dg bw u.parents=b3 at *;generalize dg bw u.takes=b4 at *;generalize (u.parents.any λx=>x.same ⟨u.id.author,u.id.number-1⟩)=b5 at *;generalize (u.says.all λx=>saysB x)=b6 at *;generalize dg de u.says=b7 at *;repeat' (first|refine zr ?_|(apply ki;exact rfl;exact rfl;exact rfl;exact rfl;apply h8;exact rfl;(exact rfl);exact rfl;rintro _ rfl)|refine z21 ?_ (hc:=by apply h1)|refine z21 ?_ (hc:=by apply h2)|refine z21 ?_ (hc:=by apply h3)|refine z21 ?_ (hc:=by apply h4)|refine z21 ?_ (hc:=by apply h5)|refine z21 ?_ (hc:=by apply h6)|refine z21 ?_ (hc:=by apply h7)|(refine zm ?_ ?_<;>intro hg)|fail)
 all_goals
  refine a6 rfl ?_;clear h1 h2 h3 h4 h5 h6 h7 h8;first|(simp_all;done)|(simp_all;omega)|(simp_all;intros;omega)
end
section
open Go Go.RowKit
section
variable {Γ : Ctx} {k : Nat -> Prop} {L : Sl} {H : Hp} {K : cy} {ops : List Oper} {rest : List Oper} {a : Act} {w : World} {e : Env} {t t' ty : TypeId} {x y : Operand}
end
section
variable {Γ : Ctx} {k : Nat} {L : Sl} {H : Hp} {K : cy} {ops : List Oper} {rest : List Oper} {t t' ty : TypeId} {x y : Operand} {q : Bool}
theorem b8 (a:Nat):((a+1:Nat):Int)-1=(a:Int):=by omega
theorem kb {α:Type} {f:α->List D} {l:List α} {j o:Nat} {u v:α} {new:List D} (h:ig (f u) o new=f v):(l.map f).set j (ig (f u) o new)=(l.set j v).map f:=by rw [h,List.map_set]
theorem hv_drop {α:Type} {f:α->List D} {l:List α} {n:Int} {j N:Nat} (hn:n=(j:Int)):(((l.map f).take ((N:Int)).toNat).drop n.toNat)=((l.take N).drop j).map f:=by subst hn;simp
theorem oe {α:Type} {f:α->List D} {l:List α} {n:Int} {j:Nat} (hn:n=(j:Int)):(((l.map f).take n.toNat).drop (0:Int).toNat)=(l.take j).map f:=by subst hn;simp
theorem kh {te tb:TypeId} {pos:String} {af:Array Edge} {g:Option (Nat×Bool)} {i j es o:Nat} {xs ys:List (List D)} {s:SV} {ds new:List D} {H':Hp} (hx:ap L x = .prow i j es o) (hH:Hp.get H i=some (.row tb es xs)) (hds:xs[j]?=some ds)
  (hy:ap L y=s) (hd:dcells s=some new) (hys:xs.set j (ig ds o new)=ys) (hH':zk H i (.row tb es ys) some=some H') (hyo:dh y=true) (hkn:(aj Γ.τ te).sh.known=true) (hn:Aw new.length (aj Γ.τ te).cells=true) (hle:C0 (o+new.length) es=true)
  (hw:au ops L g=some true) (hk:DS false Γ ops rest K k L H'):DS false Γ ops (⟨none,.store te x y,ty,pos,af,g⟩::rest) K k L H:=by
 have hj:j<xs.length:=(List.getElem?_eq_some_iff.1 hds).1;have he:=(List.getElem?_eq_some_iff.1 hds).2;subst hys;rw [<- he] at hH';rw [l6] at hH';cases hH';exact z6 hw (op_storeP hx hH hj hy hyo hd hkn hn hle) hk
theorem pa {d es:Nat} {xs ys:List (List D)} {lo hi:Option Operand} {n m':Int} {pos:String} {af:Array Edge} {g:Option (Nat×Bool)} (hx:ap L x = .d (.slice es xs)) (ht:(aj Γ.τ t).sh = .slice t') (hc:(aj Γ.τ t').cells=es) (hkn:(aj Γ.τ t').sh.known=true)
  (hl:um (lo.map (ap L))=some n) (hh:jq xs.length (hi.map (ap L))=some m') (h0:0<=n/\n<=m'/\m'<=xs.length) (hys:(xs.take m'.toNat).drop n.toNat=ys) (hw:au ops L g=some true) (hd:Av d Γ.n=true)
  (hk:DS q Γ ops rest K k ((d,.d (.slice es ys))::L) H):DS q Γ ops (⟨some d,.slice t x lo hi none,ty,pos,af,g⟩::rest) K k L H:=by
 subst hys;exact je (ev_sliceD ht hc hkn hx hl hh h0.1 h0.2.1 h0.2.2) hw hd hk
theorem ds_mk (ys:List (List D)) {d n:Nat} {te:TypeId} {pos:String} {af:Array Edge} {g:Option (Nat×Bool)} {x y:Operand} {m':Int} {v0:Value} {x0:D} (hx:ap L x = .d (.int .i64 m')) (hy:ap L y = .d (.int .i64 m')) (hn:m'=(n:Int)) (ht:(aj Γ.τ t).sh = .slice te)
  (hkn:(aj Γ.τ te).sh.known=true) (hes:(aj Γ.τ te).cells=1) (hzero:(aj Γ.τ te).zero=[v0]) (hx0:cSV v0 = .d x0) (hzok:gk (aj Γ.τ te).zero=true) (hroom:(aj Γ.τ te).bytes*n<=281474976710656) (hmax:n<=maxLen) (hys:Ap n [x0]=ys)
  (hw:au ops L g=some true) (hd:Av d Γ.n=true) (hk:DS false Γ ops rest K (k+1) ((d,.row k)::L) ((k,.row te 1 ys)::H)):DS false Γ ops (⟨some d,.makeSlice t x y,ty,pos,af,g⟩::rest) K k L H:=by
 subst hys;exact z6 hw ((op_mk (gn k) ht hkn hes hzero hx0 hzok hx hy hn hroom hmax hd).cast (ff k)) hk
def sealSV (i es:Nat) (xs:List (List D)):SV->SV
 | .row j=>match Aw j i with|true=>.d (.slice es xs)|false=>.row j
 | s=>s
def sealL (i es:Nat) (xs:List (List D)):List SV->List SV
 | []=>[]
 | s::l=>sealSV i es xs s::sealL i es xs l
def scalB:SV->Bool
 | .d (.int _ _)=>true
 | .d (.bool _)=>true
 | .d (.str _)=>true
 | .tup []=>true
 | _=>false
theorem scal_rel {X Y:Nat->Prop} {e e':Env} {w w':World} {s:SV} {v:Value} (h:scalB s=true) (hr:Rel X e w s v):Rel Y e' w' s v:=by
 cases s with
 | d x =>
  cases x with
  | slice=>cases h
  | ptr=>cases h
  | _=>cases hr<;>constructor<;>assumption
 | tup ss =>
  cases ss with
  | nil=>obtain⟨vs,h1,h2⟩:=hr;cases vs with|nil=>exact⟨[],h1,trivial⟩|cons=>exact h2.elim
  | cons=>cases h
 | _=>cases h
theorem dl_callS {f:FuncId} {xs:List Operand} {ts:Array TypeId} {ty:TypeId} {pos:String} {af:Array Edge} {g:Option (Nat×Bool)} {d i es:Nat} {te:TypeId} {ds:List (List D)} {args:List SV} {R:SV->Prop} (hw:au ops L g=some true)
  (hH:Hp.get H i=some (.row te es ds)) (ha:sealL i es ds (nb L xs)=args) (hc:FnP Γ.dr Γ.P Γ.τ Γ.τok f args R) (hok:eb xs=true) (hlow:SV.lowL 0 args=true) (hd:Av d Γ.n=true) (hs:∀ r,R r->scalB r=true)
  (hk:∀ r,R r->DL Γ ops rest K k ((d,r)::L) H) :
  DL Γ ops (⟨some d,.call { callee:=.value (.func f),args:=xs.toArray,argTypes:=ts },ty,pos,af,g⟩::rest) K k L H:=by
 refine gp hw λe a w m=>?_
 obtain⟨m2,hX⟩:=m.del i;have key:∀ (ss:List SV) (vs:List Value),RelL (Γ.X e H) e w ss vs->RelL (Γ.X e (Hp.del H i)) e w (sealL i es ds ss) vs:=by
  intro ss;induction ss with
  | nil=>intro vs h;cases vs<;>exact h
  | cons s ss ih =>
   intro vs h;cases vs with
   | nil=>exact h.elim
   | cons v vs =>
    refine⟨?_,ih vs h.2⟩
    have hk:Rel (Γ.X e (Hp.del H i)) e w s v:=Rel.keep (Ah _) (λ_ _ _=>rfl) (λb _ h=>hX b h) _ _ h.1;unfold sealSV;split
    ·rename_i j;cases hb:Aw j i with
     | true =>
      have:=Nat.eq_of_beq_eq_true hb
      subst this;rw [show v=e.η j from h.1.2.1];exact qn m hH
     | false=>exact hk
    ·exact hk
 unfold Oper.wp;rw [j9 hc.1];rw [Oper.upon_enter];refine (hc.use (τ:=Γ.τ) (τok:=Γ.τok) (Γ:=Γ) m2 hlow _ (ha▸key _ _ (ij m xs hok))).mono ?_;rintro en w' ⟨r,v,hR,rfl,hb,hlr,hrel⟩;exact⟨k,_,H,e,(m.below hb).put (Ab hd) (scal_rel (hs r hR) hrel),hk r hR⟩
theorem ds_callS (i:Nat) {f:FuncId} {xs:List Operand} {ts:Array TypeId} {ty:TypeId} {pos:String} {af:Array Edge} {g:Option (Nat×Bool)} {d es:Nat} {te:TypeId} {ds:List (List D)} {args:List SV} {R:SV->Prop} (hc:FnP Γ.dr Γ.P Γ.τ Γ.τok f args R)
  (hH:Hp.get H i=some (.row te es ds)) (ha:sealL i es ds (nb L xs)=args) (hs:∀ r,R r->scalB r=true) (hw:au ops L g=some true) (hok:eb xs=true) (hlow:SV.lowL 0 args=true) (hd:Av d Γ.n=true)
  (hk:∀ r,R r->DS false Γ ops rest K k ((d,r)::L) H):DS false Γ ops (⟨some d,.call { callee:=.value (.func f),args:=xs.toArray,argTypes:=ts },ty,pos,af,g⟩::rest) K k L H :=
 dl_callS hw hH ha hc hok hlow hd hs hk
theorem fx (t j:Nat) {c:Code} {Q:gh} {es:Nat} {ss:List SV} {xs:List (List D)} (h:L.get t = .agg ss) (hj:ss[j]?=some (.d (.slice es xs))) (hk:xs.length<=9223372036854775807->DW Γ c Q k L H):DW Γ c Q k L H:=by
 intro e a w m;have hr:=m.slot t;rw [h] at hr;obtain⟨vs,_,h2⟩:=hr;obtain⟨v,_,h3⟩:=RelL.get _ _ h2 j _ hj;obtain⟨ao,cap,_,h4,h5,_⟩:=RepC.slice_inv h3;exact hk (by unfold maxLen at h5;omega) e a w m
theorem dw_stop (id:Nat) {c y:Code} {Q:gh} (h:DW Γ (.seq (.block id c) y) Q k L H):DW Γ (.seq (.block id c) y) Q k L H:=h
theorem ip (id:Nat) {ops:Array Oper} {b:Bool} {x z:Code} {Q:gh} (h:DW Γ (.seq (.seq (.region id ops b) x) z) Q k L H):DW Γ (.seq (.seq (.region id ops b) x) z) Q k L H:=h
theorem eo (id:Nat) {ops:Array Oper} {b:Bool} {x:Code} {Q:gh} (h:DW Γ (.seq (.region id ops b) x) Q k L H):DW Γ (.seq (.region id ops b) x) Q k L H:=h
theorem dw_cut {ι:Type} {c y:Code} {Q:gh} (I:ι->St) (pre:ι->Prop) (hx:DW Γ c (ef (λk' L' H'=>∃ i,pre i/\Ent Γ k' L' H' (I i).k (I i).L (I i).H) Q) k L H) (hy:∀ i,pre i->DW Γ y Q (I i).k (I i).L (I i).H):DW Γ (.seq c y) Q k L H:=by
 intro e a w m;refine wpIn_seq (wpIn_mono (hx e a w m) ?_);rintro ex a' w' (⟨k',L',H',e',m',hq⟩|hf)
 ·cases ex with
  | normal =>
   obtain⟨i,hp,he⟩:=hq;obtain⟨e2,m2⟩:=he e' a' w' m';exact hy i hp e2 a' w' m2
  | _=>exact .inl ⟨k',L',H',e',m',hq⟩
 ·obtain⟨v,k',L',H',e',rfl,r⟩:=hf;exact .inr ⟨v,k',L',H',e',rfl,r⟩
theorem mr {k2 k3:Nat} {L2 L3:Sl} {H2 H3:Hp} (h:Ent Γ k L H k2 L2 H2) (g:Ent Γ k2 L2 H2 k3 L3 H3):Ent Γ k L H k3 L3 H3:=λe a w m =>
 let ⟨e2,m2⟩:=h e a w m
 g e2 a w m2
end
end
section
open Go Go.RowKit
mutual
theorem SV.ren_low0 (ρ:Nat->Nat):∀ (s:SV),s.low 0=true->s.ren ρ=s
 | .junk,_=>rfl
 | .d _,_=>rfl
 | .nils,_=>rfl
 | .pd _,_=>rfl
 | .loc _ _,h=>by simp [SV.low,Av] at h
 | .row _,h=>by simp [SV.low,Av] at h
 | .mp _,h=>by simp [SV.low,Av] at h
 | .md _ _,_=>rfl
 | .prow _ _ _ _,h=>by simp [SV.low,Av] at h
 | .sl _ _ _ _,h=>by simp [SV.low,Av] at h
 | .rsl _ _ _ _,h=>by simp [SV.low,Av] at h
 | .fn f caps,h=>by simp only [SV.ren,SV.renL_low0 ρ caps h]
 | .agg ss,h=>by simp only [SV.ren,SV.renL_low0 ρ ss h]
 | .tup ss,h=>by simp only [SV.ren,SV.renL_low0 ρ ss h]
 | .val _,_=>rfl
theorem SV.renL_low0 (ρ:Nat->Nat):∀ (ss:List SV),SV.lowL 0 ss=true->SV.renL ρ ss=ss
 | [],_=>rfl
 | s::ss,h=>by
  simp only [SV.lowL,Ae] at h
  simp only [SV.renL,SV.ren_low0 ρ s h.1,SV.renL_low0 ρ ss h.2]
end
mutual
theorem SV.low_mono (k:Nat):∀ (s:SV),s.low 0=true->s.low k=true
 | .junk,_=>rfl
 | .d _,_=>rfl
 | .nils,_=>rfl
 | .pd _,_=>rfl
 | .loc _ _,h=>by simp [SV.low,Av] at h
 | .row _,h=>by simp [SV.low,Av] at h
 | .mp _,h=>by simp [SV.low,Av] at h
 | .md _ _,_=>rfl
 | .prow _ _ _ _,h=>by simp [SV.low,Av] at h
 | .sl _ _ _ _,h=>by simp [SV.low,Av] at h
 | .rsl _ _ _ _,h=>by simp [SV.low,Av] at h
 | .fn f caps,h=>SV.lowL_mono k caps h
 | .agg ss,h=>SV.lowL_mono k ss h
 | .tup ss,h=>SV.lowL_mono k ss h
 | .val _,_=>rfl
theorem SV.lowL_mono (k:Nat):∀ (ss:List SV),SV.lowL 0 ss=true->SV.lowL k ss=true
 | [],_=>rfl
 | s::ss,h=>by
  simp only [SV.lowL,Ae] at h ⊢
  exact⟨SV.low_mono k s h.1,SV.lowL_mono k ss h.2⟩
end
theorem lowL_junk {k:Nat}:∀ (n:Nat),SV.lowL k (Ap n .junk)=true
 | 0=>rfl
 | n+1=>by
  rw [Fe]
  simp only [SV.lowL,Ae]
  exact⟨rfl,lowL_junk n⟩
section
variable {P : Program} (w : World)
theorem qm (t ty e:TypeId) (i:TypeInfo) (ht:P.underlying t=some (.slice e)) (hi:P.info? e=some i)
  (g o sLen sCap:Nat) (tb:TypeId) (cur:Array Value) (hg:w.heap[g]?=some (.cells cur tb (0,0)))
  (a:Addr) (m c:Nat) (news:List Value) (hl:news.length=m*i.size) (hnews:∀ j u,news[j]?=some u->w.cell? (a.add j)=some u) (h1:∀ u∈news,u.oneCell'=true)
  (hroom:sLen+m<=sCap) (hfit:o+sLen*i.size+news.length<=cur.size) :
  (Builtin.append_ #[t,t] ty #[.slice (some ⟨g,o,none⟩) sLen sCap,.slice (some a) m c]).run P w =
   .ok (.slice (some ⟨g,o,none⟩) (sLen+m) sCap) (w.setRow g (cur.toList.take (o+sLen*i.size)++news++cur.toList.drop (o+sLen*i.size+news.length)).toArray):=by
 have hf:=run_firstCells_some (P:=P) w i.size m a m c news hl hnews;have hst:=run_storeCells_at P g (o+sLen*i.size) tb news 0 cur w hg (by simpa using hfit) h1;simp only [Nat.add_zero] at hst;simp [Builtin.append_,run_underlying ht,sizeOf,typeInfo,hi,Builtin.lenOf,hroom,hf,Addr.add_lit,hst]
end
theorem k7 {z:Array Value} {n:Nat} {v:Value} (h:v∈(Builtin.zeroCells z n).toList):v∈z.toList:=by
 unfold Builtin.zeroCells at h;simp only [Array.toList_map,Array.toList_range,List.mem_map,List.mem_range] at h;obtain⟨i,hi,rfl⟩:=h;have hpos:0<z.size:=by
  rcases Nat.eq_zero_or_pos z.size with h0|h0
  ·rw [h0,Nat.mul_zero] at hi;omega
  ·exact h0
 have:=Fj i hpos
 simp [this]
theorem junk_rel {X e w}:∀ (n:Nat) (vs:List Value),vs.length=n->RelL X e w (Ap n .junk) vs
 | 0,[],_=>trivial
 | n+1,[],h=>by simp at h
 | 0,_::_,h=>by simp at h
 | n+1,v::vs,h=>⟨trivial,junk_rel n vs (by simpa using h)⟩
section
variable {Γ : Ctx} {k : Nat} {L : Sl} {H : Hp} {K : cy} {ops : List Oper} {rest : List Oper} {t t' ty : TypeId} {x y : Operand}
theorem ds_bs_sl {d te es len:Nat} {pos:String} {af:Array Edge} {g:Option (Nat×Bool)} {ps:List (Nat×Operand)} {cs':List SV} (ht:Γ.sh t = .slice te) (hkn:(Γ.sh te).known=true) (hes:Γ.cells te=es) (hpos:Av 0 es=true) (hz:gk (aj Γ.τ te).zero=true) (hzl:Aw (aj Γ.τ te).zero.length (Γ.cells te)=true) (hok:na ps=true)
  (hlen:C0 (len*es) 16777216=true) (hf:qx (λi=>some (i*es,es)) (xu (ov Γ.τ te) (len*es)) (m9 L ps)=some cs') (hw:au ops L g=some true) (hd:Av d Γ.n=true)
  (hk:DS false Γ ops rest K (k+1) ((d,.sl k 0 len len)::L) ((k,.blk te cs')::H))  :DS false Γ ops (⟨some d,.buildSlice t len ps.toArray,ty,pos,af,g⟩::rest) K k L H:=by
 refine gp hw λe a w m=>?_
 obtain⟨vs',f2,f3,hrun⟩:=ql (ty:=ty) ht hkn hes hpos hz hzl hok hlen hf m;unfold Oper.wp;rw [hrun];have m2:=(m.alloc (gn k) te f2 f3).cast (ff k);rw [Array.toArray_toList] at m2;have hlm:len<=maxLen:=by
  have h1:=Ab hlen;have h2:=Ab hpos;have:len<=len*es:=Nat.le_mul_of_pos_right _ h2
  unfold maxLen;omega
 refine⟨_,_,_,_,m2.put (s:=.sl k 0 len len) (Ab hd) ⟨.inr rfl,Ah _,hlm,0,?_,λ_=>rfl⟩,hk⟩
 show _=Value.slice (some ⟨(e.bind k w.heap.size).β k,0,none⟩) len len;rw [show (e.bind k w.heap.size).β k=w.heap.size from if_pos rfl]
end
end
section
open Go Go.RowKit
section
variable {Γ : Ctx} {k : Nat} {L : Sl} {H H' : Hp} {Q : gh} {c : Code}
theorem yy {i es n:Nat} {te:TypeId} {xs:List (List D)} (t:Nat) (hL:L.get t = .rsl i es 0 n) (hH:Hp.get H i=some (.row te es xs)) (hn:n<=xs.length) (hD:zn H i some=some H') :
  Ent Γ k L H (k+1) ((t,.row k)::L) ((k,.row te es (xs.take n))::H'):=by
 rw [ni] at hD;cases hD;intro e a w m;have hs:=m.slot t;rw [hL] at hs;obtain⟨hd,hone,hcase⟩:=hs;have hze:¬ e.dom k:=λh=>gn k ((m.top k).1 h)
 obtain⟨vs,ho,hes,hone2,hrep⟩:=(m.heap _ (Hp.mem_of hH)).2;generalize hv:a.tmps.getD t undef=v at hone hcase;have hηk:(e.bindRow k v).η k=v:=if_pos rfl;have hlen:(xs.take n).length=n:=by rw [Aq];omega
 have hown:w.ownsRow 0 te es v n (vs.take (n*es))/\v.ownBlock=(e.η i).ownBlock:=by
  have hvl:(vs.take (n*es)).length=n*es:=by rw [Aq,ho.1];exact Eo (Be _ hn)
  rcases hcase with ⟨hη,rfl,_,rfl⟩|⟨g,n0,cap,o,hη,_,hmx,hnc,rfl,hoo⟩
  ·exact⟨⟨hvl,.inl ⟨rfl,rfl⟩⟩,by rw [hη]⟩
  ·have h0:=hoo (.inr rfl);rw [Nat.zero_mul] at h0;subst h0;rcases ho.2 with ⟨hη2,_⟩|⟨g',cap',cur,hη2,hb,hh,h1,h2,h3,h4⟩
   ·rw [hη] at hη2;cases hη2
   ·rw [hη] at hη2;cases hη2;refine⟨⟨hvl,.inr ⟨g,cap,cur,by simp,hb,hh,by omega,h2,h3,?_⟩⟩,by rw [hη];rfl⟩
    rw [<- h4,List.take_take,Eo (Be _ hn)]
 have m2:=m.trade (hb:=.row te es (xs.take n)) hH (gn k) (e':=e.bindRow k v) (w':=w) (λi=>or_congr (m.top i) Iff.rfl) (e.bindRow_ext _ _ hze) (Ah _) rfl rfl rfl (λ_=>Ah _)
  (λ_ _ _=>rfl) (λc hc=>by simp only [HB.owned,hηk] at hc;exact .inl (by simp only [HB.owned];rw [<- hown.2];exact hc)) (λhX=>by
   refine⟨vs.take (n*es),by rw [hηk,hlen];exact hown.1,λj hj=>?_,λu hu=>hone2 u (Bq hu),λj hj q hq=>?_⟩
   ·rw [Dp];exact hes j _
   ·have hj':j<n:=by omega
    have hx:(xs.take n)[j]=xs[j]'(by omega):=Dp;have hq':q<(xs[j]'(by omega)).length:=by rw [<- hx];exact hq
    obtain⟨u,p1,p2⟩:=hrep j (by omega) q hq';have hqe:q<es:=by rw [<- hes j (by omega)];exact hq'
    refine⟨u,?_,?_⟩
    ·rw [Bi,if_pos,p1];have:(j+1)*es<=n*es:=Be _ hj'
     rw [Bo,Nat.one_mul] at this;omega
    ·have p3:RepC (Γ.X e H) w u ((xs.take n)[j][q]):=by simpa [hx] using p2
     exact RepC.keep (Ah _) (λ_ _ _=>rfl) hX p3)
 have m3:=m2.cast (ff k);refine⟨_,⟨m3.toHeap,m3.defers,m3.len,λt'=>?_⟩⟩
 rw [Sl.get_cons];split
 ·rename_i ht;subst ht;rw [hv];exact⟨.inr rfl,hηk.symm,hone⟩
 ·exact m3.slot t'
end
section
variable {Γ : Ctx} {kk : Nat -> Prop} {L : Sl} {H : Hp} {a : Act} {w : World} {e : Env}
theorem ug {α:Type} (xs ys:List α) (j p:Nat) (h:j+ys.length<=xs.length):(xs.take j++ys++xs.drop (j+ys.length))[p]?=if p<j then xs[p]? else if p<j+ys.length then ys[p-j]? else xs[p]?:=by
 have h1:(xs.take j).length=j:=by rw [Aq];omega
 by_cases hp:p<j
 ·rw [if_pos hp,Cf,Bm (by omega),Bi,if_pos hp]
 ·rw [if_neg hp];by_cases hq:p<j+ys.length
  ·rw [if_pos hq,Cf,A4 (by omega),h1,Bm (by omega)]
  ·rw [if_neg hq,A4 (by rw [Af];omega),Af,h1,List.getElem?_drop];congr 1;omega
theorem row_write (m:Models Γ kk L H e a w) {i es j g0 n0 cap:Nat} {tb:TypeId} {xs ys:List (List D)} {N:List Value} {cur:Array Value} (hH:Hp.get H i=some (.row tb es xs)) (hj:j+ys.length<=xs.length)
  (hN:N.length=ys.length*es) (hyl:∀ p (hp:p<ys.length),(ys[p]'hp).length=es) (h1:∀ v∈N,v.oneCell'=true) (hr:∀ p (hp:p<ys.length) q (hq:q<(ys[p]'hp).length),∃ v,N[p*es+q]?=some v/\RepC (Γ.X e H) w v ((ys[p]'hp)[q]'hq))
  (hη:e.η i = .slice (some ⟨g0,0,none⟩) n0 cap) (hg:w.heap[g0]?=some (.cells cur tb (0,0))) :
  j*es+N.length<=cur.size/\Models Γ kk L (Hp.set H i (.row tb es (xs.take j++ys++xs.drop (j+ys.length)))) e a (w.setRow g0 (cur.toList.take (j*es)++N++cur.toList.drop (j*es+N.length)).toArray):=by
 have hmem:=Hp.mem_of hH;obtain⟨vs,ho,hes,hone,hrep⟩:=(m.heap _ hmem).2;rcases ho.2 with ⟨h2,_⟩|⟨g',cap',cur',h2,hb0,hg',hnc,hcm,hcs,htake⟩
 ·rw [hη] at h2;cases h2
 rw [hη] at h2;cases h2;rw [hg] at hg';cases hg';have hlen:vs.length=xs.length*es:=ho.1;have hjr:j*es+N.length<=xs.length*es:=by rw [hN,<- Bo];exact Be _ hj
 have hcl:xs.length*es<=cur.size:=by rw [hcs];exact Be _ hnc
 have hown:∀ zs,HB.owned e (i,.row tb es zs)=some g0:=λzs=>by simp [HB.owned,hη,Value.ownBlock]
 have hxl:(xs.take j++ys++xs.drop (j+ys.length)).length=xs.length:=by simp only [Af,Aq,A7];omega
 refine⟨by omega,m.turn (b':=.row tb es (xs.take j++ys++xs.drop (j+ys.length))) hH ?_ rfl rfl rfl (λ_=>Ah _) (λc _ hc=>setRow_other w _ c _ (λh=>hc (by rw [hown,h]))) (by rw [hown,hown]) ?_⟩
 ·simp [World.setRow]
 ·have hgo:(w.setRow g0 (cur.toList.take (j*es)++N++cur.toList.drop (j*es+N.length)).toArray).heap[g0]?=some (.cells (cur.toList.take (j*es)++N++cur.toList.drop (j*es+N.length)).toArray tb (0,0)):=setRow_heap w g0 cur _ tb (0,0) hg;have hkeep:∀ b,b<w.heap.size->¬ Γ.X e H b->(w.setRow g0 (cur.toList.take (j*es)++N++cur.toList.drop (j*es+N.length)).toArray).heap[b]?=w.heap[b]?:=λb _ hb=>setRow_other w _ b _ (λh=>hb (.inr (List.mem_filterMap.2 ⟨_,hmem,by rw [hown,h]⟩)))
  refine⟨vs.take (j*es)++N++vs.drop (j*es+N.length),⟨?_,.inr ⟨g0,cap,_,?_,hb0,hgo,?_,hcm,?_,?_⟩⟩,λp hp=>?_,λv hv=>?_,λp hp q hq=>?_⟩
  ·rw [hxl];simp only [Af,Aq,A7];omega
  ·rw [hxl];exact hη
  ·rw [hxl];exact hnc
  ·rw [<- hcs];simp only [List.size_toArray,Af,Aq,A7,A2];omega
  ·rw [hxl];apply Ci;intro p;rw [Bi];by_cases hp':p<xs.length*es
   ·have hcv:cur.toList[p]?=vs[p]?:=by rw [<- htake,Bi,if_pos hp']
    rw [if_pos hp',ug _ _ _ _ (by have:=A2 (xs:=cur);omega),ug _ _ _ _ (by omega),hcv]
   ·rw [if_neg hp',A8 (by
     have:vs.length<=p:=by omega
     have h9:(vs.take (j*es)++N++vs.drop (j*es+N.length)).length=vs.length:=by simp only [Af,Aq,A7];omega
     omega)]
  ·have hgt:=ug xs ys j p hj;rw [Ad hp] at hgt;split at hgt
   ·obtain⟨h3,h4⟩:=List.getElem?_eq_some_iff.1 hgt.symm;rw [<- h4];exact hes p h3
   ·split at hgt
    ·obtain⟨h3,h4⟩:=List.getElem?_eq_some_iff.1 hgt.symm;rw [<- h4];exact hyl _ h3
    ·obtain⟨h3,h4⟩:=List.getElem?_eq_some_iff.1 hgt.symm;rw [<- h4];exact hes p h3
  ·simp only [List.mem_append] at hv;rcases hv with (hv|hv)|hv
   ·exact hone v (Bq hv)
   ·exact h1 v hv
   ·exact hone v (List.mem_of_mem_drop hv)
  ·have hgt:=ug xs ys j p hj;rw [Ad hp] at hgt;have hpx:p<xs.length:=by omega
   generalize hz:(xs.take j++ys++xs.drop (j+ys.length))[p]=z at hgt hq;have key:∀ {v:Value} {x:D},RepC (Γ.X e H) w v x->RepC (Γ.X e H) (w.setRow g0 (cur.toList.take (j*es)++N++cur.toList.drop (j*es+N.length)).toArray) v x:=λh=>RepC.keep (by simp [World.setRow]) hkeep (λ_ _ h=>h) h
   have hle:∀ c,p<c->q<es->p*es+q<c*es:=λc hc hqe=>by
    have:(p+1)*es<=c*es:=Be _ hc
    rw [Bo] at this;omega
   split at hgt
   ·rename_i hpj;obtain⟨h3,h4⟩:=List.getElem?_eq_some_iff.1 hgt.symm;subst h4;obtain⟨v,p1,p2⟩:=hrep p h3 q hq;have hqe:q<es:=by rw [<- hes p h3];exact hq
    exact⟨v,by rw [ug _ _ _ _ (by omega),if_pos (hle j hpj hqe)];exact p1,key p2⟩
   ·rename_i hpj;split at hgt
    ·rename_i hpy;obtain⟨h3,h4⟩:=List.getElem?_eq_some_iff.1 hgt.symm;subst h4;obtain⟨v,p1,p2⟩:=hr (p-j) h3 q hq;have hqe:q<es:=by rw [<- hyl (p-j) h3];exact hq
     have e1:p*es=j*es+(p-j)*es:=by rw [<- Bo];congr 1;omega
     have e2:(p-j)*es+q<N.length:=by
      rw [hN];have:(p-j+1)*es<=ys.length*es:=Be _ (by omega)
      rw [Bo] at this;omega
     exact⟨v,by rw [ug _ _ _ _ (by omega),if_neg (by omega),if_pos (by omega),show p*es+q-j*es=(p-j)*es+q by omega];exact p1,key p2⟩
    ·rename_i hpy;obtain⟨h3,h4⟩:=List.getElem?_eq_some_iff.1 hgt.symm;subst h4;obtain⟨v,p1,p2⟩:=hrep p h3 q hq;have e1:(j+ys.length)*es<=p*es:=Be _ (by omega);rw [Bo] at e1;exact⟨v,by rw [ug _ _ _ _ (by omega),if_neg (by omega),if_neg (by omega)];exact p1,key p2⟩
end
theorem om {α:Type} (z:List α):∀ (n i j:Nat),i<n->j<z.length->(Ap n z).flatten[i*z.length+j]?=z[j]?
 | 0,_,_,h,_=>by omega
 | n+1,0,j,_,hj=>by rw [Fe,D4,Nat.zero_mul,Nat.zero_add,Bm hj]
 | n+1,i+1,j,hi,hj=>by
  have h1:(i+1)*z.length+j=z.length+(i*z.length+j):=by rw [Bo];omega
  rw [Fe,D4,h1,A4 (by omega),Nat.add_sub_cancel_left,om z n i j (by omega) hj]
def zeroIs:List Value->List D->Prop
 | [],[]=>True
 | v::vs,d::ds=>(cSV v = .d d∨(cSV v = .nils/\∃ es,d = .slice es []))/\zeroIs vs ds
 | _,_=>False
theorem ri {X:Nat->Prop} {e:Env} {w:World}:∀ {vs:List Value} {ds:List D},zeroIs vs ds->RelL X e w (vs.map cSV) vs->vs.length=ds.length/\∀ q (hq:q<ds.length),∃ v,vs[q]?=some v/\RepC X w v ds[q]
 | [],[],_,_=>⟨rfl,λq hq=>by simp at hq⟩
 | [],_::_,h,_=>h.elim
 | _::_,[],h,_=>h.elim
 | v::vs,d::ds,⟨h1,h2⟩,⟨g1,g2⟩=>by
  obtain⟨i1,i2⟩:=ri h2 g2
  refine⟨by simp [i1],λq hq=>?_⟩
  cases q with
  | zero =>
   refine⟨v,rfl,?_⟩
   rcases h1 with h1|⟨h1,es,h3⟩
   ·rw [h1] at g1;exact g1
   ·rw [h1] at g1
    have g1:v = .slice none 0 0:=g1
    subst g1
    show RepC X w _ d
    rw [h3];exact .nil
  | succ q =>
   obtain⟨u,u1,u2⟩:=i2 q (by simpa using hq)
   exact⟨u,by simpa using u1,by simpa using u2⟩
theorem qe (z:Array Value) (n:Nat) (hz:0<z.size):(Builtin.zeroCells z n).toList=(List.replicate n z.toList).flatten:=by
 apply Ci;intro p;have hfl:((Ap n z.toList)).flatten.length=n*z.size:=by simp
 by_cases hp:p<n*z.size
 ·have h1:p / z.size<n:=Nat.div_lt_of_lt_mul (by rw [Nat.mul_comm];exact hp);have h2:=om z.toList n (p / z.size) (p % z.size) h1 (by rw [A2];exact Fj _ hz);rw [A2,Nat.div_add_mod'] at h2;rw [h2];simp [Builtin.zeroCells,hp,getElem!_pos,Fj _ hz]
 ·rw [A8 (by simp [Builtin.zeroCells];omega),A8 (by omega)]
section
variable {Γ : Ctx} {k : Nat} {L : Sl} {H H' : Hp} {K : cy} {ops : List Oper} {rest : List Oper} {t : TypeId}
theorem ds_clear (zs:List D) {tb te ty:TypeId} {pos:String} {af:Array Edge} {g:Option (Nat×Bool)} {i es j n:Nat} {xs:List (List D)} {x:Operand} (hx:ap L x = .rsl i es j n) (hH:Hp.get H i=some (.row tb es xs)) (ht:(aj Γ.τ t).sh = .slice te) (hkn:(aj Γ.τ te).sh.known=true)
  (hz:zeroIs (aj Γ.τ te).zero zs) (hzok:gk (aj Γ.τ te).zero=true) (hzl:(aj Γ.τ te).zero.length=es) (he:0<es) (hpos:0<n) (hjn:j+n<=xs.length) (hw:au ops L g=some true)
  (hS:zk H i (.row tb es (xs.take j++Ap n zs++xs.drop (j+n))) some=some H') (hk:DS false Γ ops rest K k L H') :
  DS false Γ ops (⟨none,.call { callee:=.builtin .clear,args:=#[x],argTypes:=#[t] },ty,pos,af,g⟩::rest) K k L H:=by
 rw [l6] at hS;cases hS;refine gp hw λe a w m=>?_
 obtain⟨inf,z,hi,hzz,hs,_,hzc⟩:=Ctx.info (Sh.known_ne hkn);obtain⟨_,_,hcs⟩:=evT m hx (ks · _ _ _ _);have hzsz:z.cells.size=es:=by rw [<- A2,hzc,hzl]
 rcases hcs with ⟨_,_,_,rfl⟩|⟨g0,n0,cap,o,hη,hkc,hmx,hnc,hv,ho⟩
 ·omega
 have:=ho (.inl (by omega))
 subst this;obtain⟨vs,hown,hes',_,_⟩:=(m.heap _ (Hp.mem_of hH)).2;rcases hown.2 with ⟨h2,_⟩|⟨g',cap',cur,h2,_,hg,_,_,hcsz,_⟩
 ·rw [hη] at h2;cases h2
 rw [hη] at h2;cases h2;have hzr:=f7 (X:=Γ.X e H) (e:=e) (w:=w) _ hzok;obtain⟨zl,zr⟩:=ri hz hzr.1;have hN:=qe z.cells n (by omega);have hNl:(Builtin.zeroCells z.cells n).toList.length=n*es:=by simp [Builtin.zeroCells,hzsz]
 have hyl:(Ap n zs).length=n:=Cb;have hone:∀ v∈(Builtin.zeroCells z.cells n).toList,v.oneCell'=true:=λv hv=>hzr.2 v (by rw [<- hzc];exact k7 hv)
 obtain⟨hfit,m2⟩:=row_write m hH (j:=j) (ys:=Ap n zs) (N:=(Builtin.zeroCells z.cells n).toList) (by rw [hyl];exact hjn) (by rw [hNl,hyl]) (λp hp=>by rw [Eb,<- zl,hzl]) hone (λp hp q hq=>by
  have hq':q<zs.length:=by simpa using hq
  obtain⟨v,q1,q2⟩:=zr q hq';refine⟨v,?_,by simpa using q2⟩
  have hqe:q<es:=by rw [<- hzl,zl];exact hq'
  rw [hN,<- hzsz,<- A2,om _ _ _ _ (by simpa using hp) (by rw [A2,hzsz];exact hqe),hzc];exact q1) hη hg
 rw [hyl] at m2;have hst:=run_storeCells_at Γ.P g0 (j*es) tb (Builtin.zeroCells z.cells n).toList 0 cur w hg (by simpa using hfit) hone;have hrun:(execOp a.eval ⟨none,.call { callee:=.builtin .clear,args:=#[x],argTypes:=#[t] },ty,pos,af,g⟩).run Γ.P w = .ok (.value (.tuple #[])) (w.setRow g0 (cur.toList.take (j*es)++(Builtin.zeroCells z.cells n).toList++cur.toList.drop (j*es+(Builtin.zeroCells z.cells n).toList.length)).toArray):=by
  have hzv:(zeroValue te).run Γ.P w = .ok z w:=by
   simp [zeroValue,typeInfo,hi,hzz]
  obtain⟨n',rfl⟩:∃ n',n=n'+1:=⟨n-1,by omega⟩;simp only [Nat.add_zero] at hst;simp [execOp,resolve,invoke,builtin,hv,Builtin.clear_,run_underlying (Ctx.slice ht),hzv,hst]
 unfold Oper.wp;rw [hrun];exact⟨k,L,_,e,m2,hk⟩
end
theorem run_append_make {P:Program} (w:World) (t ti ty e:TypeId) (i:TypeInfo) (z:Value) (ht:P.underlying t=some (.slice e)) (hti:P.underlying ti=some (.int .i64)) (hi:P.info? e=some i) (hz:i.zero=some z)
  (n:Nat) (h0:0<n) (h63:(n:Int)<=9223372036854775807) (h48:n*i.bytes<=281474976710656) (hs:i.size≠0) :
  (Builtin.append_ #[t,ti] ty #[.slice none 0 0,.int .i64 n]).run P w =
   .ok (.slice (some ⟨w.heap.size,0,none⟩) n (grownCap w n 0 e)) (w.drew.alloc (.cells (Builtin.zeroCells z.cells n++Builtin.zeroCells z.cells (grownCap w n 0 e-n)) e)):=by
 have hn:n≠0:=by omega
 have h63':¬ (9223372036854775807<(n:Int)):=by omega
 have h48':¬ (281474976710656<Builtin.nextslicecap n 0*i.bytes):=by rw [nextslicecap_zero h0];omega
 have hw:IntKind.i64.wrap (n:Int)=n:=by simp [IntKind.wrap,IntKind.bits,IntKind.signed];omega
 have hl:¬ ((n:Int)<0):=by omega
 have hb:¬ (281474976710656<(n:Int)*(i.bytes:Int)):=by
  have:((n*i.bytes:Nat):Int)<=281474976710656:=by omega
  rw [Int.natCast_mul] at this;omega
 simp [Builtin.append_,asInt,asIntOf,run_underlying ht,run_underlying hti,sizeOf,typeInfo,zeroValue,hi,hz,hw,hl,hb,hn,h63',h48',Question.forced,run_firstCells_none,newRow,grownCap];intro h;exact absurd h (Nat.mul_ne_zero hn hs)
section
variable {Γ : Ctx} {k : Nat} {L : Sl} {H : Hp} {K : cy} {ops : List Oper} {rest : List Oper} {t : TypeId}
theorem evNils {kk:Nat->Prop} {a:Act} {w:World} {e:Env} (m:Models Γ kk L H e a w) {x:Operand} (hx:ap L x = .nils):a.eval x = .slice none 0 0:=by
 have hok:opOk x:=by
  cases x with
  | const v=>simp only [ap] at hx;unfold cSV at hx;split at hx<;>simp_all [opOk,cOk]
  | _=>trivial
 have:=m.op x hok
 rw [hx] at this;exact this
theorem ds_apmk (zs:List D) {d n es:Nat} {te ti ty:TypeId} {pos:String} {af:Array Edge} {g:Option (Nat×Bool)} {x y:Operand} {m':Int} (hx:ap L x = .nils) (hy:ap L y = .d (.int .i64 m')) (hn:m'=(n:Int)) (ht:(aj Γ.τ t).sh = .slice te) (hti:(aj Γ.τ ti).sh = .int .i64)
  (hkn:(aj Γ.τ te).sh.known=true) (hes:(aj Γ.τ te).cells=es) (hz:zeroIs (aj Γ.τ te).zero zs) (hzok:gk (aj Γ.τ te).zero=true) (hzl:(aj Γ.τ te).zero.length=es) (he:0<es) (h0:0<n) (hroom:n*(aj Γ.τ te).bytes<=281474976710656) (h63:n<=maxLen)
  (hw:au ops L g=some true) (hd:Av d Γ.n=true) (hk:DS false Γ ops rest K (k+1) ((d,.row k)::L) ((k,.row te es (Ap n zs))::H)) :
  DS false Γ ops (⟨some d,.call { callee:=.builtin .append,args:=#[x,y],argTypes:=#[t,ti] },ty,pos,af,g⟩::rest) K k L H:=by
 subst hn;refine gp hw λe a w m=>?_
 obtain⟨inf,z,hi,hzz,hs,hb,hzc⟩:=Ctx.info (Sh.known_ne hkn);have hzsz:z.cells.size=es:=by rw [<- A2,hzc,hzl]
 have hti':Γ.P.underlying ti=some (.int .i64):=by
  have hti2:Γ.sh ti = .int .i64:=hti;obtain⟨u,inf,z,h1,_,_,h4,_⟩:=ie (Γ.ti (t:=ti) (by rw [hti2];intro h;cases h));rw [h1];have h5:m5 Γ.P u = .int .i64:=h4▸hti2;cases u<;>simp [m5] at h5 ⊢
  exact h5
 have hrun:=run_append_make (P:=Γ.P) w t ti ty te inf z (Ctx.slice ht) hti' hi hzz n h0 (by unfold maxLen at h63;omega) (by rw [hb];exact hroom) (by rw [hs];have:Γ.cells te=es:=hes;omega);have hge:=grownCap_ge w n 0 te;have hcm:=grownCap_le_maxLen w n 0 te h63;generalize grownCap w n 0 te=c at hrun hge hcm;have hop:(execOp a.eval ⟨some d,.call { callee:=.builtin .append,args:=#[x,y],argTypes:=#[t,ti] },ty,pos,af,g⟩).run Γ.P w = .ok (.value (.slice (some ⟨w.heap.size,0,none⟩) n c)) (w.drew.alloc (.cells (Builtin.zeroCells z.cells n++Builtin.zeroCells z.cells (c-n)) te)):=by
  simp only [execOp,resolve,invoke,builtin,Sem.run_bind,Sem.run_pure,Result.andThen_ok,List.map_toArray,List.map_cons,List.map_nil,evNils m hx,evI m hy,hrun]
 unfold Oper.wp;rw [hop];have m1:Models Γ (lo k) L H e a w.drew:=m.below ((Beld.refl _ _ _).drew);have hze:¬ e.dom k:=λh=>gn k ((m.top k).1 h)
 have hη:(e.bindRow k (.slice (some ⟨w.heap.size,0,none⟩) n c)).η k = .slice (some ⟨w.heap.size,0,none⟩) n c:=if_pos rfl;have hNl:(Builtin.zeroCells z.cells n).toList.length=n*es:=by simp [Builtin.zeroCells,hzsz]
 have hfl:=qe z.cells n (by omega);have m2:=m1.new (gn k) (hb:=.row te es (Ap n zs)) (e':=e.bindRow k (.slice (some ⟨w.heap.size,0,none⟩) n c)) (w':=w.drew.alloc (.cells (Builtin.zeroCells z.cells n++Builtin.zeroCells z.cells (c-n)) te)) (λi=>or_congr (m.top i) Iff.rfl) (e.bindRow_ext _ _ hze) (em Γ.dr _ _)
  (λb hb=>by simp only [HB.owned,hη,Value.ownBlock,Option.some.injEq] at hb;subst hb;exact Ah _) (λhX=>by
   have hzr:=f7 (X:=Γ.X (e.bindRow k (.slice (some ⟨w.heap.size,0,none⟩) n c)) ((k,.row te es (Ap n zs))::H)) (e:=e) (w:=w.drew.alloc (.cells (Builtin.zeroCells z.cells n++Builtin.zeroCells z.cells (c-n)) te)) _ hzok;obtain⟨zl,zr⟩:=ri hz hzr.1;refine⟨(Builtin.zeroCells z.cells n).toList,⟨by rw [hNl,Cb],.inr ⟨w.heap.size,c,_,by rw [hη,Cb],Ak _,heap_alloc_new w.drew _,by rw [Cb];exact hge,hcm,?_,?_⟩⟩,λp hp=>by rw [Eb,<- zl,hzl],λv hv=>hzr.2 v (by rw [<- hzc];exact k7 hv),λp hp q hq=>?_⟩
   ·simp [Builtin.zeroCells,hzsz,<- Bo];congr 1;omega
   ·rw [Cb,Array.toList_append,List.take_append_of_le_length (by rw [hNl];exact Ah _),List.take_of_length_le (by rw [hNl];exact Ah _)]
   ·have hq':q<zs.length:=by simpa using hq
    obtain⟨v,q1,q2⟩:=zr q hq';refine⟨v,?_,by simpa using q2⟩
    have hqe:q<es:=by rw [<- hzl,zl];exact hq'
    rw [hfl,<- hzsz,<- A2,om _ _ _ _ (by simpa using hp) (by rw [A2,hzsz];exact hqe),hzc];exact q1)
 have m3:=m2.cast (ff k);exact⟨k+1,_,_,_,m3.put (s:=.row k) (v:=.slice (some ⟨w.heap.size,0,none⟩) n c) (Ab hd) ⟨.inr rfl,hη.symm,rfl⟩,hk⟩
theorem ek {kk:Nat->Prop} {te ty:TypeId} {x:Operand} (ht:Γ.sh t = .slice te) (hx:ap L x = .nils):Ev Γ kk L H (.call { callee:=.builtin .cap,args:=#[x],argTypes:=#[t] }) ty (.d (.int .i64 0)):=by
 intro e a w m;have hv:=evNils m hx;refine⟨.int .i64 0,λ_ _ _ _ w' _=>?_,.int (by decide)⟩
 simp [execOp,resolve,invoke,builtin,hv,Builtin.cap_,goInt,run_underlying (Ctx.slice ht)]
end
theorem px {α:Type} {ls:List (List α)} {i:Nat} (hi:i<ls.length):((ls.take (i+1)).map Bv).sum=((ls.take i).map Bv).sum+ls[i].length:=by
 rw [List.take_succ_eq_append_getElem hi,Ar,E9];rfl
theorem yi {α:Type} (ls:List (List α)) (i:Nat):((ls.take i).map Bv).sum<=(ls.map Bv).sum:=by
 have h:(ls.map Bv).sum=((ls.take i).map Bv).sum+((ls.drop i).map Bv).sum:=by rw [<- E9,<- Ar,List.take_append_drop]
 omega
end
end Go.Proofs.YtapciiffpnociadGreat
