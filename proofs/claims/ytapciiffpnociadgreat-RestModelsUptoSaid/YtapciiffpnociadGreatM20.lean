/- Several texts in one: StrF StrR StrI MoS MoT GxPtr RuGp RuZ. Condition: none. -/
import Derived.Test.YtapciiffpnociadGreatM19
import Derived.Test.YtapciiffpnociadGreatM18
import Derived.Test.YtapciiffpnociadGreatM16
import Derived.Test.YtapciiffpnociadGreatM12
import Derived.Test.YtapciiffpnociadGreatM17
import Derived.Test.YtapciiffpnociadGreatM10
set_option linter.all false
set_option maxHeartbeats 8000000
open Array renaming length_toList→A4
open Classical renaming byContradiction→A1
open List renaming getD→A9,getElem?_eq_getElem→Ab,getElem?_take→Br,getElem_map→C5,getElem_mem→Ag,length_append→Ap,length_cons→Bn,length_map→Aa,length_nil→Di,length_singleton→Bh,length_take→Au,map_append→Av,map_cons→A7,map_nil→Dh,map_toArray→Ee,mem_append→Bq,mem_append_left→A0,mem_append_right→B7,mem_cons_of_mem→Ah,mem_cons_self→Ae,mem_of_mem_drop→Bv,mem_of_mem_take→B1,mem_singleton→A5,replicate→An,take_append_of_le_length→Cc,take_of_length_le→Ak,take_succ_eq_append_getElem→Am
open Nat renaming blt→As,eq_of_beq_eq_true→Aj,le_of_ble_eq_true→Ac,le_refl→Af,lt_one_iff→Hu,mul_le_mul_right→Bc,mul_one→Dq,not_lt_zero→A6,zero_add→Da,zero_le→Ai
open Option renaming getD_some→C4
namespace Go.Proofs.YtapciiffpnociadGreat
section
open Go Go.RowKit
variable [Bnds]
attribute [local irreducible] DW DS DL DQ Ev FnOk FnP dp bh DWr
theorem predsOk_of {p:Prg} (h:PrgOk p):predsOk p.arity.length p.rules:=λr hr=>⟨(h.each r hr).pred,λx hx hh=>((h.each r hr).lits x hx).pred hh⟩
def levE (p:Prg):Int:=if dw dx p≠0 then dw dx p else if q8 p then 0 else 4
def levL (p:Prg):List Int:=if dw dx p=0/\q8 p=true then d8 p else []
theorem levels_fn (p:Prg):Fn 54 [db p] (λres=>res = .tup [.d (.slice 1 ((levL p).map ah)),.d (.int .i64 (levE p))]):=by
 refine fqE Tryz.func54 ?_;intro O w0 E0 β0;have hc:=scheck_fn p;unfold levE levL;by_cases h0:dw dx p=0
 ·have hok:=o5 h0;have hr:=sraw_fn p hok.preds hok.rules (predsOk_of hok);rw [levels_same p hok] at hr;rw [h0] at hc ⊢;cases hd:q8 p with
  | true =>
   rw [hd,if_pos rfl] at hr;unfold rawSV at hr;dsimp only at hr;repeat' (first|refine zr ?_|refine z21 ?_ (hc:=by apply hc)|refine z21 ?_ (hc:=by apply hr)|fail)
   exact sg rfl ⟨by simp,by simp⟩
  | false =>
   rw [hd,if_neg (by simp)] at hr;unfold rawSV at hr;dsimp only at hr;repeat' (first|refine zs ?_|refine z21 ?_ (hc:=by apply hc)|refine z21 ?_ (hc:=by apply hr)|fail)
   refine dw_nild 2 1 rfl ?_;repeat' (first|refine zr ?_|fail)
   exact sg rfl ⟨by simp,by simp⟩
 ·have hn:decide (dw dx p≠0)=true:=decide_eq_true h0;generalize dw dx p=q at hc h0 hn ⊢;repeat' (first|refine zs ?_|refine z21 ?_ (hc:=by apply hc)|(refine zm ?_ ?_<;>intro hg)|fail)
  ·refine dw_nild 2 1 rfl ?_;repeat' (first|refine zr ?_|fail)
   exact sg rfl ⟨by simp [h0],by simp [h0]⟩
  ·exact absurd h0 hg
def kv (p:Prg) (pred:Int):Int:=if dw dx p≠0 then dw dx p else if 0<=pred/\pred<p.arity.length then 0 else 5
theorem sready_fn (p:Prg) (pred:Int):Fn 65 [db p,.d (.int .i64 pred)] (λres=>res = .d (.int .i64 (kv p pred))):=by
 refine fqE Tryz.func65 ?_;intro O w0 E0 β0;have hc:=scheck_fn p;have la:(p.arity.map ah).length=p.arity.length:=Aa _;unfold kv;generalize dw dx p=q at hc ⊢;repeat' (first|refine zr ?_|refine z21 ?_ (hc:=by apply hc)|(refine zm ?_ ?_<;>intro hg)|fail)
 all_goals first
  | exact br rfl (by rw [if_pos hg])
  | exact br rfl (by rw [if_neg (by assumption),if_pos (by omega)])
  | exact br rfl (by rw [if_neg (by assumption),if_neg (by omega)])
theorem readyE_ok {p:Prg} {pred:Int} (h:kv p pred=0):dw dx p=0/\0<=pred/\pred<p.arity.length:=by
 unfold kv at h;split at h
 ·rename_i h1;exact absurd h h1
 ·rename_i h1;split at h
  ·rename_i h2;exact⟨A1 λh3=>h1 h3,h2⟩
  ·cases h
theorem pneeds_fn (p:Prg) (pred:Int):Fn 55 [db p,.d (.int .i64 pred)] (λres=>res = .tup [.d (.slice 1 ((if kv p pred=0 then ud p pred else []).map bz)),.d (.int .i64 (kv p pred))]):=by
 refine fqE Tryz.func55 ?_;intro O w0 E0 β0;have hc:=sready_fn p pred;by_cases h0:kv p pred=0
 ·obtain⟨h1,h2⟩:=readyE_ok h0;have hok:=o5 h1;have hr:=needs_fn p pred hok.preds hok.rules (predsOk_of hok) h2;rw [h0] at hc ⊢;repeat' (first|refine zr ?_|refine z21 ?_ (hc:=by apply hc)|refine z21 ?_ (hc:=by apply hr)|fail)
  exact sg rfl ⟨by simp,rfl⟩
 ·generalize kv p pred=q at hc h0 ⊢;repeat' (first|refine zs ?_|refine z21 ?_ (hc:=by apply hc)|(refine zm ?_ ?_<;>intro hg)|fail)
  ·refine dw_nild 4 1 rfl ?_;repeat' (first|refine zr ?_|fail)
   exact sg rfl ⟨by simp [h0],rfl⟩
  ·exact absurd h0 hg
def encLtlO (l:Ltl):List D:=[.int .i64 l.kind,.int .i64 l.op,.int .i64 l.pred,.own Bnds.B (.slice 2 (l.terms.map aw))]
theorem owns_ltl (l:Ltl):OwnsL (encLtlO l) (ay l):=⟨.inr ⟨rfl,rfl⟩,.inr ⟨rfl,rfl⟩,.inr ⟨rfl,rfl⟩,.inl rfl,trivial⟩
def encRulO (r:Rul):List D:=[.int .i64 r.pred,.own Bnds.B (.slice 2 (r.terms.map aw)),.int .i64 r.fold,.own Bnds.B (.slice 4 (r.body.map ay)),.int .i64 r.vars]
theorem owns_rul (r:Rul):OwnsL (encRulO r) (a6 r):=⟨.inr ⟨rfl,rfl⟩,.inl rfl,.inr ⟨rfl,rfl⟩,.inl rfl,.inr ⟨rfl,rfl⟩,trivial⟩
abbrev elRulO (r:Rul):SV:=.agg [.d (.int .i64 r.pred),.d (.own Bnds.B (.slice 2 (r.terms.map aw))),.d (.int .i64 r.fold),.d (.own Bnds.B (.slice 4 (r.body.map ay))),.d (.int .i64 r.vars)]
abbrev elPrgO (p:Prg):SV:=.agg [.d (.own Bnds.B (.slice 1 (p.arity.map ah))),.d (.own Bnds.B (.slice 1 (p.names.map dl))),.d (.own Bnds.B (.slice 5 (p.rules.map a6)))]
theorem sownO_fn (r:Rul) (h1:r.terms.length<=8796093022208) (h2:r.body.length<=1000000) (h3:∀ x∈r.body,x.terms.length<=8796093022208):Fn 69 [k8 r] (λres=>res=elRulO r):=by
 refine fqE Tryz.func69 ?_;intro O w0 E0 β0;have ht:=cloneTO_fn r.terms h1;have lb:(r.body.map ay).length=r.body.length:=Aa _;repeat' (first|refine zs ?_|refine z21 ?_ (hc:=by apply ht)|fail)
 refine au (ib 2 3 68 4 rfl rfl rfl) ?_;refine ak (ι:=Nat×List Ltl) (λx=>⟨4,[(1,.loc 0 0),(2,.loc 1 0),(3,.loc 2 0),(14,.d (.slice 4 (r.body.map ay))),(15,.d (.int .i64 (r.body.map ay).length)),(16,.d (.int .i64 x.1))],
   [(0,nu r),(1,.blk 64 [.d (.int .i64 0),.nils,.d (.int .i64 0),.nils,.d (.int .i64 0)]),(2,.blk 64 [.d (.int .i64 r.pred),.d (.own Bnds.B (.slice 2 (r.terms.map aw))),.d (.int .i64 r.fold),.row 3,.d (.int .i64 r.vars)]),(3,.row 68 4 (x.2.map encLtlO))]⟩)
  (λx=>x.1<=r.body.length/\x.2=r.body.take x.1) (λx=>r.body.length-x.1) (0,[]) ⟨Ai _,rfl⟩ (er id) ?_
 rintro⟨i,o⟩ ⟨g1,g2⟩;dsimp only at g1 g2 ⊢;have lo:(o.map encLtlO).length=o.length:=Aa _;have hol:o.length=i:=by rw [g2,Au];omega
 by_cases hi:i<r.body.length
 ·have hx:=h3 _ (Ag hi);have hstep:o++[r.body[i]]=r.body.take (i+1):=by rw [g2,Am hi]
  have hc:=cloneTO_fn _ hx;repeat' (first|refine zr ?_|refine z21 ?_ (hc:=by apply hc)|(refine zm ?_ ?_<;>intro hg)|(exfalso;omega))
  exact⟨(i+1,o++[r.body[i]]),⟨by dsimp only;omega,hstep⟩,ag (λj=>match j with|3=>6|j=>j) ⟨rfl,rfl,rfl,rfl,rfl,rfl,trivial⟩ ⟨rfl,rfl,rfl,by rw [Av];rfl,trivial⟩ rfl rfl rfl rfl rfl rfl,by show r.body.length-(i+1)<r.body.length-i;omega⟩
 ·have ho:o=r.body:=by rw [g2,Ak (by omega)]
  repeat' (first|refine zs ?_|(refine zm ?_ ?_<;>intro hg)|(exfalso;omega))
  refine au (r6 (xs:=o.map ay) 1 3 3 (e6 owns_ltl _) rfl rfl rfl rfl rfl) ?_;repeat' (apply dv)
  exact⟨.inl rfl,_,rfl,rfl,by rw [ho];rfl⟩
def focusL (need:List Bool) (l:List Rul):List Rul:=l.filter λr=>need.getD r.pred.toNat false
def xt (p:Prg) (pred:Int):Prg:=if kv p pred=0 then ⟨p.arity,p.names,focusL (ud p pred) p.rules⟩ else ⟨[],[],[]⟩
theorem focusO_fn (p:Prg) (pred:Int):Fn 23 [db p,.d (.int .i64 pred)] (λres=>res = .tup [elPrgO (xt p pred),.d (.int .i64 (kv p pred))]):=by
 refine fqE Tryz.func23 ?_;intro O w0 E0 β0;have hc:=sready_fn p pred;unfold xt;by_cases h0:kv p pred=0
 ·obtain⟨g1,g2⟩:=readyE_ok h0;have hok:=o5 g1;have hr:=needs_fn p pred hok.preds hok.rules (predsOk_of hok) g2;have la:(p.arity.map ah).length=p.arity.length:=Aa _;have lr:(p.rules.map a6).length=p.rules.length:=Aa _;have hca:=uz p.arity (by have:=hok.preds;omega);have hcn:=cloneSO_fn p.names (by have:=hok.preds;have:=hok.names;omega);rw [if_pos h0];rw [h0] at hc ⊢;have hlen:=hok.rules;repeat' (first|refine zs ?_|refine z21 ?_ (hc:=by apply hc)|refine z21 ?_ (hc:=by apply hr)|refine z22 ?_ (hc:=by apply hca)|refine z22 ?_ (hc:=by apply hcn)|fail)
  refine au (ib 9 2 64 5 rfl rfl rfl) ?_;have hnl:=needsL_len p pred;generalize ud p pred=need at hr hnl ⊢;have ln:(need.map bz).length=need.length:=Aa _;refine ak (ι:=Nat×List Rul) (λx=>⟨4,[(2,.loc 0 0),(4,.loc 1 0),(7,.d (.slice 1 (need.map bz))),(8,.loc 2 0),(29,.d (.slice 5 (p.rules.map a6))),(30,.d (.int .i64 (p.rules.map a6).length)),(31,.d (.int .i64 x.1))],
    [(0,prgBk p),(1,.blk 26 [.nils,.nils,.nils]),(2,.blk 26 [.d (.own Bnds.B (.slice 1 (p.arity.map ah))),.d (.own Bnds.B (.slice 1 (p.names.map dl))),.row 3]),(3,.row 64 5 (x.2.map encRulO))]⟩)
   (λx=>x.1<=p.rules.length/\x.2=focusL need (p.rules.take x.1)) (λx=>p.rules.length-x.1) (0,[]) ⟨Ai _,rfl⟩ (er (λj=>match j with|2=>9|3=>11|j=>j)) ?_
  clear hc hr hca hcn;rintro⟨i,o⟩ ⟨f1,f2⟩;dsimp only at f1 f2 ⊢;have lo:(o.map encRulO).length=o.length:=Aa _;have hol:o.length<=i:=by rw [f2];unfold focusL;have:=List.length_filter_le (λr:Rul=>need.getD r.pred.toNat false) (p.rules.take i);rw [Au] at this;omega
  by_cases hi:i<p.rules.length
  ·have hm:=Ag hi;have hrk:=hok.each _ hm;have hp1:=hrk.pred;have hbl:=hrk.body;have hts:=rule_terms g1 _ hm;have hw:=sownO_fn p.rules[i] (by omega) (by omega) (λx hx=>Nat.le_trans (hts.2 x hx) (by decide));have hgd:need.getD p.rules[i].pred.toNat false=need[p.rules[i].pred.toNat]'(by omega):=by rw [A9,Ab (by omega)];rfl
   have hstep:focusL need (p.rules.take (i+1))=o++(if need[p.rules[i].pred.toNat]'(by omega) then [p.rules[i]] else []):=by
    rw [Am hi,f2];unfold focusL;rw [List.filter_append];congr 1;simp only [List.filter_cons,List.filter_nil,hgd]
   cases hb:need[p.rules[i].pred.toNat]'(by omega) with
   | true =>
    rw [hb,if_pos rfl] at hstep;repeat' (first|refine zr ?_|refine z22 ?_ (hc:=by apply hw)|(refine zm ?_ ?_<;>intro hg)|(exfalso;omega))
    all_goals first
     | (exfalso;rw [hb] at hg;cases hg;done)
     | exact⟨(i+1,o++[p.rules[i]]),⟨by dsimp only;omega,hstep.symm⟩,ag (λj=>match j with|3=>10|j=>j) ⟨rfl,rfl,rfl,rfl,rfl,rfl,rfl,trivial⟩ ⟨rfl,rfl,rfl,by rw [Av];rfl,trivial⟩ rfl rfl rfl rfl rfl rfl,by show p.rules.length-(i+1)<p.rules.length-i;omega⟩
   | false =>
    rw [hb,if_neg (by simp),List.append_nil] at hstep;repeat' (first|refine zr ?_|refine z22 ?_ (hc:=by apply hw)|(refine zm ?_ ?_<;>intro hg)|(exfalso;omega))
    all_goals first
     | (exfalso;rw [hb] at hg;cases hg;done)
     | exact⟨(i+1,o),⟨by dsimp only;omega,hstep.symm⟩,er id,by show p.rules.length-(i+1)<p.rules.length-i;omega⟩
  ·rw [Ak (by omega)] at f2;repeat' (first|refine zs ?_|(refine zm ?_ ?_<;>intro hg)|(exfalso;omega))
   refine au (r6 (xs:=o.map a6) 1 2 3 (e6 owns_rul _) rfl rfl rfl rfl rfl) ?_;repeat' (apply dv)
   exact⟨.inl rfl,_,rfl,rfl,by rw [f2];rfl⟩
 ·rw [if_neg h0];generalize kv p pred=q at hc h0 ⊢;repeat' (first|refine zs ?_|refine z21 ?_ (hc:=by apply hc)|(refine zm ?_ ?_<;>intro hg)|fail)
  ·refine au (oc (ef 1 0 1 rfl rfl rfl) (oc (ef 1 1 1 rfl rfl rfl) (ef 1 2 5 rfl rfl rfl))) ?_;repeat' (first|refine zr ?_|fail)
   exact⟨.inl rfl,_,rfl,rfl,rfl⟩
  ·exact absurd h0 hg
theorem focus_fn (p:Prg) (pred:Int):Fn 23 [db p,.d (.int .i64 pred)] (λres=>res = .tup [db (xt p pred),.d (.int .i64 (kv p pred))]):=(focusO_fn p pred).unown
variable [Bnds]
theorem xm (l:List Rul):∀ (n:Nat) (lv:List Int),nf l (n+1) lv=km l (nf l n lv)
 | 0,_=>rfl
 | n+1,lv=>by
  rw [nf,xm l n (km l lv)]
  rfl
def RdL (lv0 lv:List Int) (rose:Bool) (B:Int):Prop:=leL lv0 lv/\(rose=false->lv=lv0)/\(rose=true->lv≠lv0)/\∀ v∈lv,0<=v/\v<=B
theorem RdL.refl {lv:List Int} {B:Int} (h:∀ v∈lv,0<=v/\v<=B):RdL lv lv false B:=⟨leL.refl _,λ_=>rfl,(λh=>nomatch h),h⟩
theorem RdL.more {lv0 lv:List Int} {rose:Bool} {B C:Int} (h:RdL lv0 lv rose B) (hc:B<=C):RdL lv0 lv rose C:=⟨h.1,h.2.1,h.2.2.1,λv hv=>⟨(h.2.2.2 v hv).1,Int.le_trans (h.2.2.2 v hv).2 hc⟩⟩
theorem RdL.set {lv0 lv:List Int} {rose:Bool} {B v:Int} {i:Nat} (h:RdL lv0 lv rose B) (hi:i<lv.length) (hv:lv[i]<v) (hb:v<=B+1):RdL lv0 (lv.set i v) true (B+1):=by
 obtain⟨h1,h2,h3,h4⟩:=h;have hg:lv.getD i 0=lv[i]:=by rw [A9,Ab hi];rfl
 refine⟨⟨by rw [List.length_set];exact h1.1,λj=>?_⟩,(λh=>nomatch h),λ_ he=>?_,λu hu=>?_⟩
 ·have h5:=h1.2 j;rw [wo _ _ _ hi];split
  ·rename_i hij;subst hij;omega
  ·exact h5
 ·have h5:=h1.2 i;rw [<- he,wo _ _ _ hi,if_pos rfl] at h5;omega
 ·rcases List.mem_or_eq_of_mem_set hu with h|h
  ·have:=h4 u h;omega
  ·have:=h4 _ (Ag hi);omega
theorem lvLit_if {f pr:Int} {lv:List Int} {x:Ltl} (hk:¬ 2<x.kind) (h1:x.pred.toNat<lv.length) (h2:pr.toNat<lv.length):lvLit f pr lv x=if lv[pr.toNat]<lv[x.pred.toNat]+ks f x then lv.set pr.toNat (lv[x.pred.toNat]+ks f x) else lv:=by
 simp only [lvLit,A9,Ab h1,Ab h2,C4,if_neg hk]
variable [Bnds]
abbrev one (n:Nat) (pred:Int):List Bool:=(An n false).set pred.toNat true
structure Nst (a b:List Bool×List Int):Prop where
 up:leB a.1 b.1
 keep:∀ v∈a.2,v∈b.2
 new:∀ i:Int,0<=i->b.1.getD i.toNat false=true->a.1.getD i.toNat false=true∨i∈b.2
theorem Nst.refl (a:List Bool×List Int):Nst a a:=⟨leB.refl _,λ_ h=>h,λ_ _ h=>.inl h⟩
theorem Nst.trans {a b c:List Bool×List Int} (h:Nst a b) (g:Nst b c):Nst a c :=
 ⟨h.up.trans g.up,λv hv=>g.keep v (h.keep v hv),λi hi hc=>(g.new i hi hc).elim (λhb=>(h.new i hi hb).imp id (g.keep i)) .inr⟩
variable [Bnds]
variable [Bnds]
structure Stp where
 fact:Fct
 rule:Int
 vars:List Int
def kW (r:Rul):Nat:=if r.fold=0 then r.terms.length else r.terms.length-1
def isW (r:Rul) (f:Fct) (w:List Int):Bool:=decide ((aW r w).take (kW r)=f.args.take (kW r))
def vu (r:Rul) (f:Fct) (ways:List (List Int)):List Int:=ways.getD (ways.findIdx (isW r f)) []
def mb (r:Rul) (n:Int) (ways:List (List Int)):List Fct->List Fct->List Stp->Bool×List Fct×List Stp
 | [],S,hw=>(true,S,hw)
 | f::l,S,hw=>if hasF S f then mb r n ways l S hw else if S.length=60 then (false,S,hw)
  else mb r n ways l (av (S++[f])) (hw++[⟨f,n,vu r f ways⟩])
theorem aW_len (r:Rul) (w:List Int):(aW r w).length=r.terms.length:=Aa _
theorem kW_le (r:Rul):kW r<=r.terms.length:=by unfold kW;split<;>omega
theorem head_way {r:Rul} {ways:List (List Int)} {f:Fct} (h:f∈ep r ways) (hf:r.fold≠0->0<r.terms.length):f.args.length=r.terms.length/\∃ w∈ways,isW r f w=true:=by
 rw [mr] at h;obtain⟨w,hw,h⟩:=List.mem_filterMap.1 h;unfold headD at h;split at h
 ·rename_i h0;simp only [Option.some.injEq] at h;subst h;exact⟨aW_len r w,w,hw,decide_eq_true rfl⟩
 ·rename_i h0;split at h
  ·simp only [Option.some.injEq] at h;subst h;have hl:=hf h0;have h1:(pW r w).1=(aW r w).take (r.terms.length-1):=rfl;have h2:(pW r w).1.length=r.terms.length-1:=by rw [h1,Au,aW_len];omega
   refine⟨?_,w,hw,decide_eq_true ?_⟩
   ·rw [Ap,h2,Bh];omega
   ·unfold kW;rw [if_neg h0,<- h1];show _=List.take _ _;rw [Cc (by rw [h2];exact Af _),Ak (by rw [h2];exact Af _)]
  ·cases h
theorem wayOf_mem {r:Rul} {f:Fct} {ways:List (List Int)} (h:∃ w∈ways,isW r f w=true):vu r f ways∈ways/\isW r f (vu r f ways)=true:=by
 obtain⟨w,hw,h⟩:=h;have hlt:=List.findIdx_lt_length_of_exists (xs:=ways) (p:=isW r f) ⟨w,hw,h⟩;unfold vu;rw [List.getD_eq_getElem?_getD,Ab hlt];exact⟨Ag hlt,List.findIdx_getElem (w:=hlt)⟩
structure StpOk (p:Prg) (lv:List Int) (n:Int) (given:List Fct) (hw:List Stp) (T:List Fct) (i:Nat) (h:Stp):Prop where
 lo:0<=h.rule
 hi:h.rule.toNat<p.rules.length
 level:lv.getD (p.rules[h.rule.toNat]'hi).pred.toNat 0<n
 way:h.vars∈dg T (p.rules[h.rule.toNat]'hi)
 head:h.fact∈hdW T (p.rules[h.rule.toNat]'hi)
 is:isW (p.rules[h.rule.toNat]'hi) h.fact h.vars=true
 ahead:(p.rules[h.rule.toNat]'hi).fold=0->∀ l∈(p.rules[h.rule.toNat]'hi).body,l.kind=1->(⟨l.pred,l.terms.map (vA h.vars)⟩:Fct)∈given∨∃ g∈hw.take i,g.fact=⟨l.pred,l.terms.map (vA h.vars)⟩
structure HwOk (given S:List Fct) (hw:List Stp):Prop where
 all:∀ x,x∈S↔x∈given∨∃ h∈hw,h.fact=x
 nodup:(hw.map (·.fact)).Nodup
 new:∀ h∈hw,h.fact ∉ given
def HwM (p:Prg) (lv:List Int) (n:Int) (given:List Fct) (hw:List Stp) (T:List Fct):Prop:=∀ i h,hw[i]?=some h->StpOk p lv n given hw T i h
theorem HwM.more {p:Prg} {lv:List Int} {n:Int} {given:List Fct} {hw:List Stp} {T:List Fct} (h:HwM p lv n given hw T) {s:Stp} (hs:StpOk p lv n given hw T hw.length s):HwM p lv n given (hw++[s]) T:=by
 have key:∀ i,i<=hw.length->(hw++[s]).take i=hw.take i:=λi hi=>Cc hi
 intro i g hg;by_cases hi:i<hw.length
 ·rw [List.getElem?_append_left hi] at hg;have h1:=h i g hg;exact⟨h1.lo,h1.hi,h1.level,h1.way,h1.head,h1.is,λh0 l hl hk=>by rw [key i (by omega)];exact h1.ahead h0 l hl hk⟩
 ·rw [List.getElem?_append_right (by omega)] at hg;have hi0:i-hw.length=0:=by
   apply A1;intro hn;rw [List.getElem?_eq_none (by rw [Bh];omega)] at hg;cases hg
  have hi1:i=hw.length:=by omega
  rw [hi0] at hg;simp only [List.getElem?_cons_zero,Option.some.injEq] at hg;subst hg;subst hi1;exact⟨hs.lo,hs.hi,hs.level,hs.way,hs.head,hs.is,λh0 l hl hk=>by rw [key _ (Af _)];have:=hs.ahead h0 l hl hk;exact this⟩
theorem HwOk.more {given S:List Fct} {hw:List Stp} (h:HwOk given S hw) {s:Stp} (hs:s.fact ∉ S):HwOk given (av (S++[s.fact])) (hw++[s]):=by
 have hn:s.fact ∉ given/\∀ g∈hw,g.fact≠s.fact:=⟨λhc=>hs ((h.all _).2 (.inl hc)),λg hg he=>hs ((h.all _).2 (.inr ⟨g,hg,he⟩))⟩
 refine⟨λx=>?_,?_,λg hg=>?_⟩
 ·rw [(a8 _).2,Bq,A5,h.all];constructor
  ·rintro ((h1|⟨g,h1,h2⟩)|h1)
   ·exact .inl h1
   ·exact .inr ⟨g,A0 _ h1,h2⟩
   ·exact .inr ⟨s,B7 _ (List.mem_singleton.2 rfl),h1.symm⟩
  ·rintro (h1|⟨g,h1,h2⟩)
   ·exact .inl (.inl h1)
   ·rcases List.mem_append.1 h1 with h1|h1
    ·exact .inl (.inr ⟨g,h1,h2⟩)
    ·rw [A5] at h1;subst h1;exact .inr h2.symm
 ·rw [Av];refine List.nodup_append.2 ⟨h.nodup,by simp,λx hx y hy he=>?_⟩;rw [List.map_singleton,A5] at hy;obtain⟨g,hg,rfl⟩:=List.mem_map.1 hx;exact hn.2 g hg (he.trans hy)
 ·rcases List.mem_append.1 hg with hg|hg
  ·exact h.new g hg
  ·rw [A5] at hg;subst hg;exact hn.1
structure BldOk (p:Prg) (lv:List Int) (n:Nat) (given m0 S:List Fct) (hw:List Stp):Prop where
 inv:InvM (lvV p lv n m0) m0 S
 hwk:HwOk given S hw
 stp:∀ T,Good (lvV p lv n m0) m0 T->HwM p lv (n+1) given hw T
theorem take_spec {p:Prg} (hp:PrgR p) {lv:List Int} (hl:LvFit p lv) {n:Nat} {given m0:List Fct} {i:Nat} (hi:i<p.rules.length) (hlv:lv.getD (p.rules[i]).pred.toNat 0=n) {S0:List Fct} {hw0:List Stp} (h0:BldOk p lv n given m0 S0 hw0) (hm:manyW S0 p.rules[i]=true) :
  ∀ (heads S:List Fct) (hw:List Stp),(∀ f∈heads,f∈hdW S0 p.rules[i])->BldOk p lv n given m0 S hw->(∀ x∈S0,x∈S)->(∀ g∈hw0,g∈hw)->S0.length<=S.length ->
   ((mb p.rules[i] i (dg S0 p.rules[i]) heads S hw).1=true->BldOk p lv n given m0 (mb p.rules[i] i (dg S0 p.rules[i]) heads S hw).2.1 (mb p.rules[i] i (dg S0 p.rules[i]) heads S hw).2.2 /\
    (∀ x∈S,x∈(mb p.rules[i] i (dg S0 p.rules[i]) heads S hw).2.1)/\(∀ x∈heads,x∈(mb p.rules[i] i (dg S0 p.rules[i]) heads S hw).2.1)/\S.length<=(mb p.rules[i] i (dg S0 p.rules[i]) heads S hw).2.1.length) /\
   ((mb p.rules[i] i (dg S0 p.rules[i]) heads S hw).1=false->¬ ∃ M,Fit (lvV p lv n m0) m0 M)
 | [],S,hw,_,h,_,_,_=>⟨λ_=>⟨h,λ_ h=>h,λ_ h=>by simp at h,Af _⟩,λhf=>by simp [mb] at hf⟩
 | f::l,S,hw,hh,h,hs,hsh,hlen=>by
  have hV:=lvV_ok hp hl n m0;have hrs:p.rules[i]∈(lvV p lv n m0).rs:=List.mem_filter.2 ⟨Ag hi,decide_eq_true hlv⟩;have hf0:=hh f (Ae ..);have hl':=λg hg=>hh g (Ah _ hg)
  unfold mb;by_cases hin:hasF S f=true
  ·rw [if_pos hin];obtain⟨a,b⟩:=take_spec hp hl hi hlv h0 hm l S hw hl' h hs hsh hlen;refine⟨λht=>?_,b⟩
   obtain⟨a1,a2,a3,a4⟩:=a ht;refine⟨a1,a2,λx hx=>?_,a4⟩
   rcases List.mem_cons.1 hx with rfl|hx
   ·exact a2 x (hasF_iff.1 hin)
   ·exact a3 x hx
  ·rw [if_neg hin];have hnin:f ∉ S:=λhc=>hin (hasF_iff.2 hc)
   by_cases h60:S.length=60
   ·rw [if_pos h60];refine⟨λht=>by simp at ht,λ_=>no_room hV h.inv (H:=[f]) (λx hx=>?_) (by simp) (λx hx=>?_) (by rw [h60];simp)⟩
    ·rw [A5] at hx;subst hx;exact⟨_,hrs,S0,h0.inv,hf0⟩
    ·rw [A5] at hx;subst hx;exact hnin
   ·rw [if_neg h60];obtain⟨w1,w2⟩:=a8 (S++[f]);have hle:=fu (S++[f]);rw [Ap,Bh] at hle;have hSl:=h.inv.len;have hinv:InvM (lvV p lv n m0) m0 (av (S++[f])):=inv_put hV h.inv (λx hx=>by
     rw [A5] at hx;subst hx;exact⟨_,hrs,S0,h0.inv,hf0⟩) (by omega)
    have hgrow:S.length+1<=(av (S++[f])).length:=by
     have:=mj (a:=f::S) (b:=av (S++[f])) (List.nodup_cons.2 ⟨hnin,h.inv.strict.nodup⟩) λx hx=>by
      rw [w2,Bq,A5];rcases List.mem_cons.1 hx with h|h
      ·exact .inr h
      ·exact .inl h
     rw [Bn] at this;exact this
    have hr:=hp.rul _ (Ag hi);obtain⟨wm,wi⟩:=wayOf_mem (head_way (((a8 _).2 f).1 hf0) λhf=>(hr.folded hf).1).2;have hb:BldOk p lv n given m0 (av (S++[f])) (hw++[⟨f,i,vu p.rules[i] f (dg S0 p.rules[i])⟩]):=by
     refine⟨hinv,h.hwk.more (s:=⟨f,i,vu p.rules[i] f (dg S0 p.rules[i])⟩) hnin,λT hT=>(h.stp T hT).more ?_⟩
     have hsub:=h0.inv.least T hT;have hk:∀ l∈(p.rules[i]).body,l.kind<=2->ks (p.rules[i]).fold l=1->∀ x:Fct,x.pred=l.pred->(x∈S0↔x∈T):=by
      intro l hlb hk2 hlift x hx;have:=hl.fit _ (Ag hi) l hlb hk2
      have hlt:lv.getD x.pred.toNat 0<(n:Int):=by rw [hx];omega
      exact (h0.inv.a.2 x hlt).trans (hT.a.2 x hlt).symm
     obtain⟨_,g2,g3⟩:=ways_grow hr hp.ar h0.inv.a.1 hT.a.1 h0.inv.strict.nodup hT.strict.nodup hsub hk (hT.few _ hrs);have hnat:((i:Int)).toNat=i:=Int.toNat_natCast i;refine⟨Int.natCast_nonneg i,by rw [hnat];exact hi,?_,?_,?_,?_,?_⟩
     ·simp only [hnat];omega
     ·simp only [hnat];exact g2 _ wm
     ·simp only [hnat];exact heads_grow g2 g3 f hf0
     ·simp only [hnat];exact wi
     ·simp only [hnat];intro hfold l hlb hk1;have hraw:=raw_sub wm;have sS:=oq hr hp.ar h0.inv.a.1;obtain⟨_,_,p3⟩:=jq h0.inv.strict.nodup sS.ok.lit sS.bd;have hh:=((p3 _).1 hraw).2 l hlb;unfold holdE at hh;rw [if_pos hk1] at hh;have hmem:=hasF_iff.1 hh;rcases (h0.hwk.all _).1 hmem with hg|⟨g,hg,he⟩
      ·exact .inl hg
      ·exact .inr ⟨g,by rw [Ak (Af _)];exact hsh g hg,he⟩
    obtain⟨a,b⟩:=take_spec hp hl hi hlv h0 hm l _ _ hl' hb (λx hx=>(w2 x).2 (A0 _ (hs x hx))) (λg hg=>A0 _ (hsh g hg)) (by omega);refine⟨λht=>?_,b⟩
    obtain⟨a1,a2,a3,a4⟩:=a ht;refine⟨a1,λx hx=>a2 x ((w2 x).2 (A0 _ hx)),λx hx=>?_,by omega⟩
    rcases List.mem_cons.1 hx with rfl|hx
    ·exact a2 x ((w2 x).2 (B7 _ (List.mem_singleton.2 rfl)))
    ·exact a3 x hx
end
section
open Go Go.RowKit
variable [Bnds]
def CellOk (S:Nat->Prop) (H:Hp) (s:SV) (d:D):Prop:=s = .d d∨(∃ i te es xs,s = .row i/\S i/\Hp.get H i=some (.row te es xs)/\d = .slice es xs)∨(s = .nils/\∃ es,d = .slice es [])
def BlkOk (S:Nat->Prop) (H:Hp) (id:Nat) (ds:List D):Prop:=S id/\∃ ty cs,Hp.get H id=some (.blk ty cs)/\∀ j (h:j<ds.length),∃ s,cs[j]?=some s/\CellOk S H s ds[j]
theorem mem_eq:∀ {H:Hp},(H.map (·.1)).Nodup->∀ {p q:Nat×HB},p∈H->q∈H->p.1=q.1->p=q
 | [],_,_,_,h,_,_=>by simp at h
 | x::H,hn,p,q,hp,hq,he=>by
  obtain⟨h1,h2⟩:=List.nodup_cons.1 hn
  rcases List.mem_cons.1 hp with rfl|hp'
  ·rcases List.mem_cons.1 hq with rfl|hq'
   ·rfl
   ·exact absurd (List.mem_map.2 ⟨q,hq',he.symm⟩) h1
  ·rcases List.mem_cons.1 hq with rfl|hq'
   ·exact absurd (List.mem_map.2 ⟨p,hp',he⟩) h1
   ·exact mem_eq h2 hp' hq' he
theorem Hp.mem_del {i:Nat}:∀ {H:Hp} {p:Nat×HB},p∈H->p.1≠i->p∈Hp.del H i
 | [],_,h,_=>by simp at h
 | (d,s)::H,p,hp,hne=>by
  simp only [Hp.del]
  cases hb:Nat.beq d i with
  | true =>
   have:=Aj hb
   rcases List.mem_cons.1 hp with rfl|hp'
   ·exact absurd this hne
   ·exact hp'
  | false =>
   rcases List.mem_cons.1 hp with rfl|hp'
   ·exact Ae ..
   ·exact Ah _ (Hp.mem_del hp' hne)
section
variable {Γ : Ctx} {k : Nat} {L : Sl} {H : Hp} {a : Act} {w : World} {e : Env} {S : Nat -> Prop} {X' : Nat -> Prop}
theorem cell_rep (m:Models Γ k L H e a w) (h1:∀ b,X' b->Γ.X e H b) (h2:∀ p∈H,S p.1->∀ b,HB.owned e p=some b->¬ X' b) {s:SV} {d:D} (h:CellOk S H s d) {v:Value} (hr:Rel (Γ.X e H) e w s v):RepC X' w v d:=by
 rcases h with rfl|⟨i,te,es,xs,rfl,hS,hH,rfl⟩|⟨rfl,es,rfl⟩
 ·exact RepC.keep (Af _) (λ_ _ _=>rfl) (λb _ h=>h1 b h) hr
 ·rw [hr.2.1];refine RepC.keep (Af _) (λ_ _ _=>rfl) (λb _ h=>?_) (qk m hH);rcases h1 b h with ho|ho
  ·exact .inl ho
  ·obtain⟨p,hp,hpb⟩:=List.mem_filterMap.1 ho;have hne:p.1≠i:=by
    intro hpi;have:=mem_eq m.ids hp (Hp.mem_of hH) hpi
    subst this;exact h2 _ hp hS b hpb h
   exact .inr (List.mem_filterMap.2 ⟨p,Hp.mem_del hp hne,hpb⟩)
 ·rw [show v = .slice none 0 0 from hr];exact .nil
theorem ptr_rep (m:Models Γ k L H e a w) (h1:∀ b,X' b->Γ.X e H b) (h2:∀ p∈H,S p.1->∀ b,HB.owned e p=some b->¬ X' b) {id:Nat} {ds:List D} (h:BlkOk S H id ds) {v:Value} (hv:v = .pointer (some ⟨e.β id,0,none⟩)):RepC X' w v (.ptr ds):=by
 obtain⟨hS,ty,cs,hH,hc⟩:=h;have hmem:=Hp.mem_of hH;obtain⟨us,g1,g2,_⟩:=(m.heap _ hmem).2;subst hv;have hcell:∀ j (hj:j<ds.length),∃ u,us[j]?=some u/\RepC X' w u ds[j]:=by
  intro j hj;obtain⟨s,q1,q2⟩:=hc j hj;obtain⟨u,q3,q4⟩:=RelL.get _ _ g2 j s q1;exact⟨u,q3,cell_rep m h1 h2 q2 q4⟩
 refine .ptr (λj=>us.getD j undef) (h2 _ hmem hS _ rfl) (co g1) (λj hj=>?_) (λj hj=>?_) (λ_ j hj=>k7 g1)
 ·obtain⟨u,q3,_⟩:=hcell j hj;rw [cell_of_row w _ _ _ ty (0,0) g1,Da];simp [A9,q3]
 ·obtain⟨u,q3,q4⟩:=hcell j hj;simp only [A9,q3,C4];exact q4
theorem ptrs_rep (m:Models Γ k L H e a w) (h1:∀ b,X' b->Γ.X e H b) (h2:∀ p∈H,S p.1->∀ b,HB.owned e p=some b->¬ X' b) {i n cap:Nat} {te:TypeId} {cs:List SV} {dss:List (List D)} (hS:S i) (hH:Hp.get H i=some (.blk te cs)) (hn:dss.length=n)
  (hc:∀ j (h:j<dss.length),∃ id,cs[j]?=some (.loc id 0)/\BlkOk S H id dss[j]) {v:Value} (hr:Rel (Γ.X e H) e w (.sl i 0 n cap) v):RepC X' w v (.slice 1 (dss.map λds=>[.ptr ds])):=by
 obtain⟨_,hnc,hcm,o,rfl,ho⟩:=hr;have hmem:=Hp.mem_of hH;obtain⟨us,g1,g2,_⟩:=(m.heap _ hmem).2;have hcell:∀ j (hj:j<dss.length),∃ u,us[j]?=some u/\RepC X' w u (.ptr dss[j]):=by
  intro j hj;obtain⟨id,q1,q2⟩:=hc j hj;obtain⟨u,q3,q4⟩:=RelL.get _ _ g2 j _ q1;exact⟨u,q3,ptr_rep m h1 h2 q2 q4.2⟩
 subst hn;refine .slice (λi' _=>us.getD i' undef) (by simp) hnc hcm (h2 _ hmem hS _ rfl) (co g1) (λi' hi=>by simp) (λi' hi j hj=>?_) (λi' hi j hj=>?_) (λ_ i' hi j hj=>k7 g1)
 ·rw [Aa] at hi;simp only [C5,Bn,Di,Da,Hu] at hj;subst hj;obtain⟨u,q3,_⟩:=hcell i' hi;have:o=0:=ho (by omega)
  subst this;rw [cell_of_row w _ _ _ te (0,0) g1,Da,Dq];simp [A9,q3]
 ·rw [Aa] at hi;simp only [C5,Bn,Di,Da,Hu] at hj;subst hj;obtain⟨u,q3,q4⟩:=hcell i' hi;simp only [A9,q3,C4,C5,List.getElem_cons_zero];exact q4
end
theorem FnP.use_at {dr:Bool} {P:Program} {τ:List (Nat×TI)} {τok:dc P τ} {f:FuncId} {args:List SV} {R:SV->Prop} (hc:FnP dr P τ τok f args R) (e:Env) {w:World} (O:Nat->Prop) (hO:∀ b,O b->b<w.heap.size) (ht:Tabs P (λ_=>False) w) (hlow:SV.lowL 0 args=true)
  (vs:List Value) (hr:RelL O e w args vs) :
  Calls P f vs.toArray w (λen w'=>∃ r v,R r/\en = .returned v/\Beld dr w.heap.size w w'/\r.low 0=true/\Rel O e w' r v):=by
 have hX:∀ e' b,Ctx.X ⟨P,τ,τok,O,w,λb=>b∈ae (e.ren id 0) [],0,0,(e.ren id 0).an,none,cy,true,dr⟩ e' [] b↔O b:=by
  intro e' b;unfold Ctx.X;simp [ae]
 refine (hc.2 O (e.ren id 0) w vs ⟨λ_=>Iff.rfl,by simp,by simp,by simp [ae],by simp [ae],rfl,rfl,rfl,λ_=>Af _,Af _,λ_ _ _=>rfl,λb hb=>⟨hO b hb,by simp [ae]⟩,ht.sub (by simp [ae]),λj hj=>absurd hj (A6 j),λj hj=>absurd hj (A6 j)⟩ ?_).mono ?_
 ·exact RelL.keep (Af _) (λ_ _ _=>rfl) (λb _ hy=>(hX _ b).1 hy) _ _ (RelL.env _ _ hlow hr)
 ·rintro en w' ⟨k',r,H',e',v,⟨rfl,hlr,hR⟩,rfl,hH,hrel⟩;refine⟨r,v,hR,rfl,⟨⟨hH.os,hH.tape,hH.output,hH.size,λb hb=>hH.block b hb (by simp [ae])⟩,hH.drawn⟩,hlr,?_⟩
  exact Rel.keep (Af _) (λ_ _ _=>rfl) (λb _ hy=>(hX _ b).2 hy) _ _ (Rel.env _ _ hlr hrel)
theorem sure_rel {X Y:Nat->Prop} {e e':Env} {w w':World} {s:SV} {u v:Value} (hu:s.sure=some u) (hr:Rel X e w s v):Rel Y e' w' s v:=by
 cases s with
 | d x =>
  cases x with
  | int i n=>cases hr;exact .int (by assumption)
  | bool b=>cases hr;exact .bool
  | str s=>cases hr;exact .str (by assumption)
  | slice=>simp [SV.sure] at hu
  | ptr=>simp [SV.sure] at hu
  | own=>simp [SV.sure] at hu
 | _=>simp [SV.sure] at hu
section
variable {Γ : Ctx} {k : Nat} {L : Sl} {H : Hp} {K : ca} {ops : List Oper} {rest : List Oper}
theorem ds_lend {f:FuncId} {xs:List Operand} {ts:Array TypeId} {ty:TypeId} {pos:String} {af:Array Edge} {g:Option (Nat×Bool)} {d:Nat} {args:List SV} {r:SV} {u:Value} (hw:aq ops L g=some true)
  (hl:∀ e a w,Models Γ k L H e a w->RelL Γ.O e w args (xs.map a.eval)) (hc:FnP Γ.dr Γ.P Γ.τ Γ.τok f args (λs=>s=r)) (hu:r.sure=some u) (hlow:SV.lowL 0 args=true) (hd:As d Γ.n=true)
  (hk:DS false Γ ops rest K k ((d,r)::L) H) :
  DS false Γ ops (⟨some d,.call { callee:=.value (.func f),args:=xs.toArray,argTypes:=ts },ty,pos,af,g⟩::rest) K k L H:=by
 refine jk hw λe a w m=>?_
 unfold Oper.wp;rw [jc hc.1];rw [Oper.upon_enter];refine (hc.use_at (τ:=Γ.τ) (τok:=Γ.τok) e Γ.O (λb hb=>Nat.lt_of_lt_of_le (m.obound b hb).1 m.size) (m.tabsAt.sub λ_ h=>h.elim) hlow _ (hl e a w m)).mono ?_;rintro en w' ⟨r',v,rfl,rfl,hb,hlr,hrel⟩;exact⟨k,_,H,e,(m.below hb).put (Ac hd) (sure_rel hu hrel),hk⟩
theorem ent_frz {S:Nat->Prop} {i n cap:Nat} {te:TypeId} {cs:List SV} {dss:List (List D)} (t:Nat) {H':Hp} (hL:L.get t = .sl i 0 n cap) (hS:S i) (hH:Hp.get H i=some (.blk te cs)) (hn:dss.length=n)
  (hc:∀ j (h:j<dss.length),∃ id,cs[j]?=some (.loc id 0)/\BlkOk S H id dss[j]) (hsub:∀ p∈H',p∈H/\¬ S p.1) (hid:(H'.map (·.1)).Nodup) (hown:∀ e,(ae e H).Nodup->(ae e H').Nodup) :
  Ent Γ k L H k ((t,.d (.slice 1 (dss.map λds=>[.ptr ds])))::L) H':=by
 intro e a w m;have hX:∀ b,Γ.X e H' b->Γ.X e H b:=λb hb=>hb.imp id λhb=>by
  obtain⟨p,hp,ho⟩:=List.mem_filterMap.1 hb;exact List.mem_filterMap.2 ⟨p,(hsub p hp).1,ho⟩
 have hX2:∀ p∈H,S p.1->∀ b,HB.owned e p=some b->¬ Γ.X e H' b:=by
  intro p hp hSp b hb hx;rcases hx with hx|hx
  ·exact (m.mine b (List.mem_filterMap.2 ⟨p,hp,hb⟩)).2 hx
  ·obtain⟨q,hq,hqb⟩:=List.mem_filterMap.1 hx;exact m.owned_ne (hsub q hq).1 hp (λhe=>(hsub q hq).2 (he▸hSp)) hqb hb
 refine⟨e,⟨⟨m.top,λp hp=>⟨(m.heap p (hsub p hp).1).1,HRel.keep (Af _) (λ_ _ _=>rfl) (λb _ hy=>hX b hy) p (λ_ _=>rfl) (m.heap p (hsub p hp).1).2⟩,hid,hown e m.nodup,λb hb=>m.mine b (by
  obtain⟨p,hp,ho⟩:=List.mem_filterMap.1 hb;exact List.mem_filterMap.2 ⟨p,(hsub p hp).1,ho⟩),m.os,m.tape,m.output,m.drawn,m.size,m.block,m.obound,m.tabs,m.jle,m.anchor⟩,m.defers,m.len,λt'=>?_⟩⟩
 rw [Sl.get_cons];split
 ·rename_i ht;subst ht;have hs:=m.slot t;rw [hL] at hs;exact ptrs_rep m hX hX2 hS hH hn hc hs
 ·exact Rel.keep (Af _) (λ_ _ _=>rfl) (λb _ hy=>hX b hy) _ _ (m.slot t')
end
section
variable {Γ : Ctx} {k : Nat} {L : Sl} {H : Hp} {K : ca} {ops : List Oper} {rest : List Oper} {t t' ty : TypeId} {x y : Operand}
theorem ds_append_ptr {d te t2 i off n cap es j te2:Nat} {cs:List SV} {sv:SV} {pos:String} {af:Array Edge} {g:Option (Nat×Bool)}
  (ht:Γ.sh t = .slice te) (hkn:(Γ.sh te).known=true) (hes:Γ.cells te=es) (hpos:As 0 es=true) (hz:Nat.beq (aj Γ.τ te).zero.length (Γ.cells te)=true) (hzo:ek (aj Γ.τ te).zero=true)
  (hx:ai L x = .sl i off n cap) (hH:Hp.get H i=some (.blk te cs)) (hfit:off+cap<=cs.length) (hy:ai L y = .sl j 0 1 1) (hHj:Hp.get H j=some (.blk te2 [sv])) (he1:es=1) (hw:aq ops L g=some true) (hd:As d Γ.n=true)
  (hroom:(n+1)*(aj Γ.τ te).bytes<=140737488355328) (h63:n+1<=maxLen)
  (hk1:n+1<=cap->DS false Γ ops rest K k ((d,.sl i off (n+1) cap)::L) (Hp.set H i (.blk te (fm cs (off+n) [sv]))))
  (hk2:∀ cap',cap<n+1->n+1<=cap'->cap'<=maxLen->DS false Γ ops rest K (k+1) ((d,.sl k 0 (n+1) cap')::L) ((k,.blk te ((cs.drop off).take n++[sv]++An (cap'-(n+1)) .junk))::H)) :
  DS false Γ ops (⟨some d,.call { callee:=.builtin .append,args:=#[x,y],argTypes:=#[t,t] },t2,pos,af,g⟩::rest) K k L H:=by
 have hfit:off+cap*es<=cs.length:=by rw [he1,Dq];exact hfit
 refine jk hw λe a w m=>?_
 obtain⟨inf,zv,hi,hzz,hs,hb,hzc⟩:=Ctx.info (Sh.known_ne hkn);have hut:=Ctx.slice ht;obtain⟨hdom,hnc,hcm,o',hvx,ho'⟩:=evT m hx (cSV_sl · _ _ _ _);obtain⟨_,_,_,oy,hvy,hoy⟩:=evT m hy (cSV_sl · _ _ _ _);have hoy0:=hoy (by omega);subst hoy0;obtain⟨us,hhj,hjs,honej⟩:=(m.heap _ (Hp.mem_of hHj)).2;have hul1:=RelL.length _ _ hjs;obtain⟨vs,hh,hcs,hone⟩:=(m.heap _ (Hp.mem_of hH)).2;have hvl:=RelL.length _ _ hcs;have hsz:inf.size=es:=by rw [hs,hes]
 have hpos':=Ac hpos;have u1:us.length=1*es:=by rw [<- hul1,he1];rfl
 have u2:∀ q u,us[q]?=some u->w.cell? ((⟨e.β j,0,none⟩:Addr).add q)=some u:=by
  intro q u hq;rw [Addr.add_at,cell_of_row w _ _ _ te2 (0,0) hhj];simpa using hq
 have u3:=honej;have hul:[sv].length=us.length:=hul1;have huflat:RelL (Γ.X e H) e w [sv] us:=hjs;by_cases hcap:n+1<=cap
 ·have hoo:o'=off:=ho' (by omega);subst hoo;have hfit2:o'+n*inf.size+us.length<=vs.toArray.size:=by
   rw [u1,hsz,List.size_toArray,<- hvl,Nat.add_assoc,<- Nat.add_mul];exact Nat.le_trans (Nat.add_le_add_left (Bc _ hcap) _) hfit
  have hrun:=qj (P:=Γ.P) w t t2 te inf hut hi (e.β i) o' n cap te vs.toArray hh ⟨e.β j,0,none⟩ 1 1 us (by rw [hsz];exact u1) u2 u3 hcap hfit2;have hop:(execOp a.eval ⟨some d,.call { callee:=.builtin .append,args:=#[x,y],argTypes:=#[t,t] },t2,pos,af,g⟩).run Γ.P w = .ok (.value (.slice (some ⟨e.β i,o',none⟩) (n+1) cap)) (w.setRow (e.β i) (vs.toArray.toList.take (o'+n*inf.size)++us++vs.toArray.toList.drop (o'+n*inf.size+us.length)).toArray):=by
   simp only [execOp,resolve,invoke,builtin,Sem.run_bind,Sem.run_pure,Result.andThen_ok,Ee,A7,Dh,hvx,hvy,hrun]
  unfold Oper.wp;rw [hop];have m2:Models Γ (lo k) L (Hp.set H i (.blk te (fm cs (o'+n*es) ([sv])))) e a (w.setRow (e.β i) (vs.toArray.toList.take (o'+n*inf.size)++us++vs.toArray.toList.drop (o'+n*inf.size+us.length)).toArray):=by
   refine m.turn (b':=.blk te (fm cs (o'+n*es) ([sv]))) hH ?_ rfl rfl rfl (λ_=>Af _) (λc _ hc=>setRow_other w _ c _ (λh=>hc (by simp [HB.owned,h]))) rfl ?_
   ·simp [World.setRow]
   ·refine⟨_,setRow_heap w (e.β i) vs.toArray _ te (0,0) hh,?_,λv hv=>?_⟩
    ·have hkeep:∀ b,b<w.heap.size->¬ Γ.X e H b->(w.setRow (e.β i) (vs.toArray.toList.take (o'+n*inf.size)++us++vs.toArray.toList.drop (o'+n*inf.size+us.length)).toArray).heap[b]?=w.heap[b]?:=λb _ hb=>setRow_other w _ b _ (λh=>hb (.inr (List.mem_filterMap.2 ⟨_,Hp.mem_of hH,by simp [HB.owned,h]⟩)))
     refine RelL.keep (by simp [World.setRow]) hkeep (λ_ _ h=>h) _ _ ?_;unfold fm;rw [hsz,hul];exact RelL.append _ _ _ _ (RelL.append _ _ _ _ (RelL.take _ _ hcs _) huflat) (RelL.drop _ _ hcs _)
    ·simp only [Bq] at hv;rcases hv with (hv|hv)|hv
     ·exact hone v (B1 hv)
     ·exact u3 v hv
     ·exact hone v (Bv hv)
  exact⟨_,_,_,_,m2.put (s:=.sl i o' (n+1) cap) (Ac hd) ⟨hdom,hcap,hcm,o',rfl,λ_=>rfl⟩,by rw [he1,Dq];exact hk1 hcap⟩
 ·have hlt:cap<n+1:=by omega
  have hol:((vs.drop off).take (n*es)).length=n*inf.size:=by
   rw [Au,List.length_drop,<- hvl,hsz];have:n*es<=cap*es:=Bc _ hnc
   omega
  have holds:∀ j v,((vs.drop off).take (n*es))[j]?=some v->w.cell? ((⟨e.β i,o',none⟩:Addr).add j)=some v:=by
   intro j v hj;have hjl:j<n*es:=by
    rw [Br] at hj;split at hj
    ·assumption
    ·cases hj
   have hn0:0<cap:=by
    rcases Nat.eq_zero_or_pos n with h|h
    ·rw [h,Nat.zero_mul] at hjl;omega
    ·omega
   have hoo:=ho' hn0;subst hoo;rw [Br,if_pos hjl,List.getElem?_drop] at hj;rw [Addr.add_at,cell_of_row w _ _ _ te (0,0) hh];simpa using hj
  have h63':((n+1:Nat):Int)<=9223372036854775807:=by unfold maxLen at h63;omega
  have hrun:=run_append_grow (P:=Γ.P) w t t2 te inf zv hut hi hzz ⟨e.β i,o',none⟩ n cap ((vs.drop off).take (n*es)) hol holds ⟨e.β j,0,none⟩ 1 1 us (by rw [hsz];exact u1) u2 hlt h63' (growslice_fits hlt (by rw [hb];exact hroom));have hge:=grownCap_ge w (n+1) cap te;have hcm':grownCap w (n+1) cap te<=maxLen:=grownCap_le_maxLen w (n+1) cap te h63;generalize grownCap w (n+1) cap te=c' at hrun hge hcm';have hop:(execOp a.eval ⟨some d,.call { callee:=.builtin .append,args:=#[x,y],argTypes:=#[t,t] },t2,pos,af,g⟩).run Γ.P w = .ok (.value (.slice (some ⟨w.heap.size,0,none⟩) (n+1) c'))
    (w.drew.alloc (.cells (((vs.drop off).take (n*es)).toArray++us.toArray++Builtin.zeroCells zv.cells (c'-(n+1))) te)):=by
   simp only [execOp,resolve,invoke,builtin,Sem.run_bind,Sem.run_pure,Result.andThen_ok,Ee,A7,Dh,hvx,hvy,hrun]
  unfold Oper.wp;rw [hop];have m1:Models Γ (lo k) L H e a w.drew:=m.below ((Beld.refl _ _ _).drew);have hzsz:zv.cells.size=es:=by rw [<- A4,hzc,Aj hz,hes]
  have m2:=(m1.alloc (jf k) (cs:=(cs.drop off).take (n*es)++[sv]++An ((c'-(n+1))*es) .junk)
   (vs:=(vs.drop off).take (n*es)++us++(Builtin.zeroCells zv.cells (c'-(n+1))).toList) te
   (RelL.append _ _ _ _ (RelL.append _ _ _ _ (RelL.take _ _ (RelL.drop _ _ (RelL.keep (w:=w) (w':=w.drew) (Af _) (λ_ _ _=>rfl) (λ_ _ h=>h) _ _ hcs) _) _) (RelL.keep (w:=w) (w':=w.drew) (Af _) (λ_ _ _=>rfl) (λ_ _ h=>h) _ _ huflat)) (junk_rel _ _ (by rw [A4,size_zeroCells,hzsz])))
   (λv hv=>by
    simp only [Bq] at hv;rcases hv with (hv|hv)|hv
    ·exact hone v (Bv (B1 hv))
    ·exact u3 v hv
    ·have:=kx hv
     rw [hzc] at this;exact (fg (X:=Γ.X e H) (e:=e) (w:=w) _ hzo).2 v this)).cast (gv k)
  have harr:((vs.drop off).take (n*es)++us++(Builtin.zeroCells zv.cells (c'-(n+1))).toList).toArray=((vs.drop off).take (n*es)).toArray++us.toArray++Builtin.zeroCells zv.cells (c'-(n+1)):=by simp
  rw [harr] at m2;refine⟨_,_,_,_,m2.put (s:=.sl k 0 (n+1) c') (Ac hd) ⟨.inr rfl,hge,hcm',0,?_,λ_=>rfl⟩,by rw [he1,Dq,Dq];exact hk2 c' hlt hge hcm'⟩
  show _=Value.slice (some ⟨(e.bind k w.heap.size).β k,0,none⟩) (n+1) c';rw [show (e.bind k w.heap.size).β k=w.heap.size from if_pos rfl]
theorem ds_append_ptr0 {d te t2 es j te2:Nat} {sv:SV} {pos:String} {af:Array Edge} {g:Option (Nat×Bool)}
  (ht:Γ.sh t = .slice te) (hkn:(Γ.sh te).known=true) (hes:Γ.cells te=es) (hpos:As 0 es=true) (hz:Nat.beq (aj Γ.τ te).zero.length (Γ.cells te)=true) (hzo:ek (aj Γ.τ te).zero=true)
  (hx:ai L x = .nils) (hy:ai L y = .sl j 0 1 1) (hHj:Hp.get H j=some (.blk te2 [sv])) (he1:es=1) (hw:aq ops L g=some true) (hd:As d Γ.n=true)
  (hroom:(aj Γ.τ te).bytes<=140737488355328)
  (hk2:∀ cap',1<=cap'->cap'<=maxLen->DS false Γ ops rest K (k+1) ((d,.sl k 0 1 cap')::L) ((k,.blk te ([sv]++An (cap'-1) .junk))::H)) :
  DS false Γ ops (⟨some d,.call { callee:=.builtin .append,args:=#[x,y],argTypes:=#[t,t] },t2,pos,af,g⟩::rest) K k L H:=by
 refine jk hw λe a w m=>?_
 obtain⟨inf,zv,hi,hzz,hs,hb,hzc⟩:=Ctx.info (Sh.known_ne hkn);have hut:=Ctx.slice ht;have hvx:=evNils m hx;obtain⟨_,_,_,oy,hvy,hoy⟩:=evT m hy (cSV_sl · _ _ _ _);have hoy0:=hoy (by omega);subst hoy0;obtain⟨us,hhj,hjs,honej⟩:=(m.heap _ (Hp.mem_of hHj)).2;have hul1:=RelL.length _ _ hjs;have hsz:inf.size=es:=by rw [hs,hes]
 have hpos':=Ac hpos;have u1:us.length=1*es:=by rw [<- hul1,he1];rfl
 have u2:∀ q u,us[q]?=some u->w.cell? ((⟨e.β j,0,none⟩:Addr).add q)=some u:=by
  intro q u hq;rw [Addr.add_at,cell_of_row w _ _ _ te2 (0,0) hhj];simpa using hq
 have u3:=honej;have hul:[sv].length=us.length:=hul1;have huflat:RelL (Γ.X e H) e w [sv] us:=hjs;have hrun:=run_append_nil (P:=Γ.P) (w:=w) t t2 te inf zv hut hi hzz ⟨e.β j,0,none⟩ 1 1 us (by rw [hsz];exact u1) u2 (by omega) (by omega) (by rw [hb];omega);have hge:=grownCap_ge w 1 0 te;have hcm':grownCap w 1 0 te<=maxLen:=grownCap_le_maxLen w 1 0 te (by unfold maxLen;omega);generalize grownCap w 1 0 te=c' at hrun hge hcm';have hop:(execOp a.eval ⟨some d,.call { callee:=.builtin .append,args:=#[x,y],argTypes:=#[t,t] },t2,pos,af,g⟩).run Γ.P w = .ok (.value (.slice (some ⟨w.heap.size,0,none⟩) 1 c'))
   (w.drew.alloc (.cells (us.toArray++Builtin.zeroCells zv.cells (c'-1)) te)):=by
  simp only [execOp,resolve,invoke,builtin,Sem.run_bind,Sem.run_pure,Result.andThen_ok,Ee,A7,Dh,hvx,hvy,hrun]
 unfold Oper.wp;rw [hop];have m1:Models Γ (lo k) L H e a w.drew:=m.below ((Beld.refl _ _ _).drew);have hzsz:zv.cells.size=es:=by rw [<- A4,hzc,Aj hz,hes]
 have m2:=(m1.alloc (jf k) (cs:=[sv]++An ((c'-1)*es) .junk)
  (vs:=us++(Builtin.zeroCells zv.cells (c'-1)).toList) te
  (RelL.append _ _ _ _ (RelL.keep (w:=w) (w':=w.drew) (Af _) (λ_ _ _=>rfl) (λ_ _ h=>h) _ _ huflat) (junk_rel _ _ (by rw [A4,size_zeroCells,hzsz])))
  (λv hv=>by
   simp only [Bq] at hv;rcases hv with hv|hv
   ·exact u3 v hv
   ·have:=kx hv
    rw [hzc] at this;exact (fg (X:=Γ.X e H) (e:=e) (w:=w) _ hzo).2 v this)).cast (gv k)
 have harr:(us++(Builtin.zeroCells zv.cells (c'-1)).toList).toArray=us.toArray++Builtin.zeroCells zv.cells (c'-1):=by simp
 rw [harr] at m2;refine⟨_,_,_,_,m2.put (s:=.sl k 0 1 c') (Ac hd) ⟨.inr rfl,hge,hcm',0,?_,λ_=>rfl⟩,by rw [he1,Dq];exact hk2 c' hge hcm'⟩
 show _=Value.slice (some ⟨(e.bind k w.heap.size).β k,0,none⟩) 1 c';rw [show (e.bind k w.heap.size).β k=w.heap.size from if_pos rfl]
end
variable [Bnds]
def encG (g:Gr):List D:=[.ptr [.slice 1 (g.1.map ah),.slice 1 (g.2.map ah)]]
def elG (g:Gr):SV:=.d (.ptr [.slice 1 (g.1.map ah),.slice 1 (g.2.map ah)])
theorem ptr_pd {X e w} {ds:List D} {v:Value} (h:RepC X w v (.ptr ds)):Rel X e w (.pd ds) v:=by
 cases h with
 | ptr c hX hb hcell hrep=>exact⟨_,_,rfl,hb,hX,λj hj=>⟨c j,hcell j hj,hrep j hj⟩⟩
theorem ent_pd {Γ:Ctx} {k:Nat} {L:Sl} {H:Hp} (t:Nat) {ds:List D} (hL:L.get t = .d (.ptr ds)):Ent Γ k L H k ((t,.pd ds)::L) H:=by
 intro e a w m;refine⟨e,⟨m.toHeap,m.defers,m.len,λt'=>?_⟩⟩
 rw [Sl.get_cons];split
 ·rename_i ht;subst ht;have hs:=m.slot t;rw [hL] at hs;exact ptr_pd hs
 ·exact m.slot t'
attribute [local irreducible] DW DS DL DQ Ev FnOk FnP dp bh DT
theorem made1_fn (a:List Int) (last:Nat) (ha:last<=a.length) (g:Gr):Fn 120 ([elG g]++[.pd [.slice 1 (a.map ah)],.pd [.int .i64 last]]) (λr=>r = .d (.bool (decide (g.1=a.take last)))):=by
 refine fqE Tryz.func120 ?_;intro O w0 E0 β0;have la:(a.map ah).length=a.length:=Aa _;have w1:=s0 g.1 (a.take last);refine au (ent_pd 0 rfl) ?_;repeat' (first|refine zr ?_|refine z22 ?_ (hc:=by apply w1)|fail)
 exact cm rfl rfl
theorem indexG_fn {f:FuncId} {caps:List SV} (p:Gr->Bool) (l:List (Gr)) (hcap:SV.lowL 0 caps=true) (hp:∀ x∈l,Fn f (elG x::caps) (λr=>r = .d (.bool (p x)))):Fn 119 [.d (.slice 1 (l.map encG)),.fn f caps] (λr=>r = .d (.int .i64 (n9 p l))):=by
 refine fqE Tryz.func119 ?_;intro O w0 E0 β0;refine c8 (t:=0) rfl λhb=>?_
 repeat' (first|refine zs ?_|fail)
 refine ak (ι:=Nat) (λi=>⟨0,[(0,.d (.slice 1 (l.map encG))),(1,.fn f caps),(7,.d (.int .i64 l.length)),(8,.d (.int .i64 i))],[]⟩)
  (λi=>i<=l.length/\∀ j (hj:j<l.length),j<i->p l[j]=false) (λi=>l.length-i) 0 ⟨Ai _,λj _ h=>absurd h (A6 j)⟩
  (ag id ⟨rfl,congrArg (SV.fn f) (SV.renL_id caps).symm,by simp;rfl,rfl,trivial⟩ trivial (by simp [Sl.low,SV.low,hcap]) rfl rfl rfl rfl rfl) ?_
 rintro i ⟨h1,h2⟩;repeat' (first|refine zs ?_|fail)
 refine bi rfl (λh=>?_) (λh=>?_)
 ·have hi:i<l.length:=by omega
  have hpx:=hp l[i] (Ag hi);repeat' (first|refine zs ?_|(apply jp;exact rfl;exact rfl;exact rfl;exact rfl;apply hpx;exact rfl;(assumption);exact rfl;rintro _ rfl))
  refine ff rfl (λhb=>?_) (λhb=>?_)
  ·repeat' (first|refine zr ?_|fail)
   exact br rfl (j8 h2 hi hb).symm
  ·repeat' (first|refine zs ?_|fail)
   exact⟨i+1,⟨hi,jt h2 hi hb⟩,ag id ⟨rfl,congrArg (SV.fn f) (SV.renL_id caps).symm,rfl,rfl,trivial⟩ trivial (by simp [Sl.low,SV.low,hcap]) rfl rfl rfl rfl rfl,by omega⟩
 ·repeat' (first|refine zr ?_|fail)
  exact br rfl (iy λj hj=>h2 j hj (by omega)).symm
end
section
open Go Go.RowKit
variable [Bnds]
section
variable {Γ : Ctx} {k : Nat} {L : Sl} {H : Hp} {K : ca} {ops : List Oper} {rest : List Oper} {q : Bool} {x y : Operand}
theorem ds_min {d t t2 ty:Nat} {pos:String} {af:Array Edge} {g:Option (Nat×Bool)} {m n:Int} (hx:ai L x = .d (.int .i64 m)) (hy:ai L y = .d (.int .i64 n)) (hxo:de x=true) (hyo:de y=true) (hw:aq ops L g=some true) (hd:As d Γ.n=true)
  (hk:DS q Γ ops rest K k ((d,.d (.int .i64 (minI m n)))::L) H):DS q Γ ops (⟨some d,.call { callee:=.builtin .min,args:=#[x,y],argTypes:=#[t,t2] },ty,pos,af,g⟩::rest) K k L H:=by
 refine jo (s:=.d (.int .i64 (minI m n))) (λe a w m'=>⟨.int .i64 (minI m n),λ_ _ _ _ w' _=>?_,RepC.int ?_⟩) hw hd hk
 ·simp [execOp,resolve,invoke,builtin,evI m' hx,evI m' hy,Builtin.min_,Builtin.min2,minI]
 ·have h1:=evIw m' hxo hx;have h2:=evIw m' hyo hy;unfold minI;split<;>assumption
theorem ds_max {d t t2 ty:Nat} {pos:String} {af:Array Edge} {g:Option (Nat×Bool)} {m n:Int} (hx:ai L x = .d (.int .i64 m)) (hy:ai L y = .d (.int .i64 n)) (hxo:de x=true) (hyo:de y=true) (hw:aq ops L g=some true) (hd:As d Γ.n=true)
  (hk:DS q Γ ops rest K k ((d,.d (.int .i64 (maxI m n)))::L) H):DS q Γ ops (⟨some d,.call { callee:=.builtin .max,args:=#[x,y],argTypes:=#[t,t2] },ty,pos,af,g⟩::rest) K k L H:=by
 refine jo (s:=.d (.int .i64 (maxI m n))) (λe a w m'=>⟨.int .i64 (maxI m n),λ_ _ _ _ w' _=>?_,RepC.int ?_⟩) hw hd hk
 ·simp [execOp,resolve,invoke,builtin,evI m' hx,evI m' hy,Builtin.max_,Builtin.max2,maxI]
 ·have h1:=evIw m' hxo hx;have h2:=evIw m' hyo hy;unfold maxI;split<;>assumption
end
theorem fold_take {f:Int->Int->Int} {x:Int} {l:List Int} {i:Nat} (hi:i<l.length):(l.take (i+1)).foldl f x=f ((l.take i).foldl f x) l[i]:=by
 rw [Am hi,List.foldl_append];rfl
theorem sumI_take {l:List Int} {i:Nat} (hi:i<l.length):(l.take (i+1)).sum=(l.take i).sum+l[i]:=by
 rw [Am hi,List.sum_append];simp
theorem sum_bd:∀ (l:List Int),(∀ x∈l,-1000000<=x/\x<=1000000)->-1000000*(l.length:Int)<=l.sum/\l.sum<=1000000*(l.length:Int)
 | [],_=>by simp
 | x::l,h=>by
  have h1:=sum_bd l λy hy=>h y (Ah _ hy)
  have h2:=h x (Ae ..)
  rw [List.sum_cons,Bn];omega
attribute [local irreducible] DW DS DL DQ Ev FnOk FnP dp bh DT
theorem min_fn (x:Int) (l:List Int):Fn 172 [.d (.slice 1 ((x::l).map ah))] (λr=>r = .d (.int .i64 (minL (x::l)))):=by
 refine fqE Tryz.func172 ?_;intro O w0 E0 β0;have la:((x::l).map ah).length=l.length+1:=Aa _;refine l9 (t:=0) rfl (λhk=>?_);repeat' (first|refine zs ?_|(exfalso;omega))
 refine ak (ι:=Nat) (λi=>⟨0,[(0,.d (.slice 1 ((x::l).map ah))),(3,.d (.int .i64 ((l.take i).foldl minI x))),(4,.d (.int .i64 ((i+1:Nat):Int)))],[]⟩)
  (λi=>i<=l.length) (λi=>l.length-i) 0 (Ai _) (er id) ?_
 intro i g1;dsimp only at g1 ⊢;by_cases hi:i<l.length
 ·have hst:=fold_take (f:=minI) (x:=x) hi;repeat' (first|(refine ds_min rfl rfl rfl rfl rfl rfl ?_)|(first|refine zr ?_|(refine zm ?_ ?_<;>intro hg)|fail))
  all_goals try (exfalso;omega)
  exact⟨i+1,hi,ag id ⟨rfl,by rw [hst];rfl,rfl,trivial⟩ trivial rfl rfl rfl rfl rfl rfl,by omega⟩
 ·rw [Ak (by omega)];repeat' (first|refine zr ?_|(refine zm ?_ ?_<;>intro hg)|(exfalso;omega))
  exact⟨.inl rfl,_,rfl,rfl,rfl⟩
theorem max_fn (x:Int) (l:List Int):Fn 173 [.d (.slice 1 ((x::l).map ah))] (λr=>r = .d (.int .i64 (maxL (x::l)))):=by
 refine fqE Tryz.func173 ?_;intro O w0 E0 β0;have la:((x::l).map ah).length=l.length+1:=Aa _;refine l9 (t:=0) rfl (λhk=>?_);repeat' (first|refine zs ?_|(exfalso;omega))
 refine ak (ι:=Nat) (λi=>⟨0,[(0,.d (.slice 1 ((x::l).map ah))),(3,.d (.int .i64 ((l.take i).foldl maxI x))),(4,.d (.int .i64 ((i+1:Nat):Int)))],[]⟩)
  (λi=>i<=l.length) (λi=>l.length-i) 0 (Ai _) (er id) ?_
 intro i g1;dsimp only at g1 ⊢;by_cases hi:i<l.length
 ·have hst:=fold_take (f:=maxI) (x:=x) hi;repeat' (first|(refine ds_max rfl rfl rfl rfl rfl rfl ?_)|(first|refine zr ?_|(refine zm ?_ ?_<;>intro hg)|fail))
  all_goals try (exfalso;omega)
  exact⟨i+1,hi,ag id ⟨rfl,by rw [hst];rfl,rfl,trivial⟩ trivial rfl rfl rfl rfl rfl rfl,by omega⟩
 ·rw [Ak (by omega)];repeat' (first|refine zr ?_|(refine zm ?_ ?_<;>intro hg)|(exfalso;omega))
  exact⟨.inl rfl,_,rfl,rfl,rfl⟩
theorem folded_fn (fold:Int) (l:List Int) (hl:l≠[]) (hn:∀ x∈l,-1000000<=x/\x<=1000000) (hlen:l.length<=1000000):Fn 121 [.d (.int .i64 fold),.d (.slice 1 (l.map ah))] (λr=>r = .tup [.d (.int .i64 (valP fold l)),.d (.bool (okP fold l))]):=by
 refine fqE Tryz.func121 ?_;intro O w0 E0 β0;have la:(l.map ah).length=l.length:=Aa _;have w3:=min_fn (l.headD 0) l.tail;have w4:=max_fn (l.headD 0) l.tail;rw [show l.headD 0::l.tail=l by cases l with|nil=>exact absurd rfl hl|cons x l=>rfl] at w3 w4;have w5:=qh l.sum;repeat' ((fail_if_success (apply iz 8));(first|refine zr ?_|refine z21 ?_ (hc:=by apply w3)|refine z21 ?_ (hc:=by apply w4)|(refine zm ?_ ?_<;>intro hg)|fail))
 ·exact⟨.inl rfl,.tup [.d (.int .i64 (l.map ah).length),.d (.bool true)],rfl,rfl,by unfold valP okP;simp_all⟩
 ·exact⟨.inl rfl,.tup [.d (.int .i64 (minL l)),.d (.bool true)],rfl,rfl,by unfold valP okP;simp_all⟩
 ·exact⟨.inl rfl,.tup [.d (.int .i64 (maxL l)),.d (.bool true)],rfl,rfl,by unfold valP okP;simp_all⟩
 refine l9 (t:=1) rfl (λhk=>?_);repeat' fail
 refine ak (ι:=Nat) (λi=>⟨0,[(1,.d (.slice 1 (l.map ah))),(6,.d (.int .i64 (l.take i).sum)),(22,.d (.slice 1 (l.map ah))),(23,.d (.int .i64 l.length)),(24,.d (.int .i64 i))],[]⟩)
  (λi=>i<=l.length) (λi=>l.length-i) 0 (Ai _) (ag id ⟨rfl,rfl,rfl,by rw [<- la];rfl,rfl,trivial⟩ trivial rfl rfl rfl rfl rfl rfl) ?_
 intro i g1;dsimp only at g1 ⊢;by_cases hi:i<l.length
 ·have hst:=sumI_take hi;have hb:=sum_bd (l.take (i+1)) λx hx=>hn x (B1 hx)
  have hx:=hn l[i] (Ag hi);rw [Au] at hb;repeat' (first|refine zs ?_|(refine zm ?_ ?_<;>intro hg)|(exfalso;omega))
  exact⟨i+1,hi,ag id ⟨rfl,by rw [hst];rfl,rfl,rfl,rfl,trivial⟩ trivial rfl rfl rfl rfl rfl rfl,by omega⟩
 ·rw [Ak (by omega)];repeat' (first|refine zr ?_|refine z21 ?_ (hc:=by apply w5)|(refine zm ?_ ?_<;>intro hg)|(exfalso;omega))
  exact⟨.inl rfl,.tup [.d (.int .i64 l.sum),.d (.bool (numB l.sum))],rfl,rfl,by unfold valP okP;simp_all⟩
end
end Go.Proofs.YtapciiffpnociadGreat
