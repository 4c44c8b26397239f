/- Several texts in one: StrR StrI MoS MoT MoA MoB MoC MoD MoE StrG MoF MoG SamP MoH MoI ChA ChIn GxUpt. Condition: none. -/
import Derived.Test.YtapciiffpnociacGreatR17
import Derived.Test.YtapciiffpnociacGreatR16
import Derived.Test.YtapciiffpnociacGreatR11
import Derived.Test.YtapciiffpnociacGreatR09
import Derived.Test.YtapciiffpnociacGreatRows
namespace Go.Proofs.YtapciiffpnociacGreat
def RdL (lv0 lv:List Int) (rose:Bool) (B:Int):Prop:=leL lv0 lv∧(rose=false→lv=lv0)∧(rose=true→lv≠lv0)∧∀ v∈lv,0≤v∧v≤B
theorem RdL.refl {lv:List Int} {B:Int} (h:∀ v∈lv,0≤v∧v≤B):RdL lv lv false B:=⟨leL.refl _,fun _=>rfl,(fun h=>nomatch h),h⟩
theorem RdL.more {lv0 lv:List Int} {rose:Bool} {B C:Int} (h:RdL lv0 lv rose B) (hc:B≤C):RdL lv0 lv rose C:=⟨h.1,h.2.1,h.2.2.1,fun v hv=>⟨(h.2.2.2 v hv).1,Int.le_trans (h.2.2.2 v hv).2 hc⟩⟩
theorem RdL.set {lv0 lv:List Int} {rose:Bool} {B v:Int} {i:Nat} (h:RdL lv0 lv rose B) (hi:i < lv.length) (hv:lv[i] < v) (hb:v≤B + 1):RdL lv0 (lv.set i v) true (B + 1):=by
 obtain⟨h1,h2,h3,h4⟩:=h
 have hg:lv.getD i 0=lv[i]:=by rw [List.getD,List.getElem?_eq_getElem hi];rfl
 refine⟨⟨by rw [List.length_set];exact h1.1,fun j=>?_⟩,(fun h=>nomatch h),fun _ he=>?_,fun u hu=>?_⟩
 ·have h5:=h1.2 j
  rw [set_getD _ _ _ hi]
  split
  ·rename_i hij;subst hij;omega
  ·exact h5
 ·have h5:=h1.2 i
  rw [← he,set_getD _ _ _ hi,if_pos rfl] at h5
  omega
 ·rcases List.mem_or_eq_of_mem_set hu with h|h
  ·have:=h4 u h;omega
  ·have:=h4 _ (List.getElem_mem hi);omega
abbrev one (n:Nat) (pred:Int):List Bool:=(List.replicate n false).set pred.toNat true
structure Nst (a b:List Bool × List Int):Prop where
 up:leB a.1 b.1
 keep:∀ v∈a.2,v∈b.2
 new:∀ i:Int,0≤i→b.1.getD i.toNat false=true→a.1.getD i.toNat false=true∨i∈b.2
theorem Nst.refl (a:List Bool × List Int):Nst a a:=⟨leB.refl _,fun _ h=>h,fun _ _ h=>.inl h⟩
theorem Nst.trans {a b c:List Bool × List Int} (h:Nst a b) (g:Nst b c):Nst a c :=
 ⟨h.up.trans g.up,fun v hv=>g.keep v (h.keep v hv),fun i hi hc=>(g.new i hi hc).elim (fun hb=>(h.new i hi hb).imp id (g.keep i)) .inr⟩

structure Stp where
 fact:Fct
 rule:Int
 vars:List Int
def kW (r:Rul):Nat:=if r.fold=0 then r.terms.length else r.terms.length - 1
def isW (r:Rul) (f:Fct) (w:List Int):Bool:=decide ((aW r w).take (kW r)=f.args.take (kW r))
structure StpOk (p:Prg) (lv:List Int) (n:Int) (given:List Fct) (hw:List Stp) (T:List Fct) (i:Nat) (h:Stp):Prop where
 lo:0≤h.rule
 hi:h.rule.toNat < p.rules.length
 level:lv.getD (p.rules[h.rule.toNat]'hi).pred.toNat 0 < n
 way:h.vars∈rawW T (p.rules[h.rule.toNat]'hi)
 head:h.fact∈hdW T (p.rules[h.rule.toNat]'hi)
 is:isW (p.rules[h.rule.toNat]'hi) h.fact h.vars=true
 ahead:(p.rules[h.rule.toNat]'hi).fold=0→∀ l∈(p.rules[h.rule.toNat]'hi).body,l.kind=1→(⟨l.pred,l.terms.map (vA h.vars)⟩:Fct)∈given∨∃ g∈hw.take i,g.fact=⟨l.pred,l.terms.map (vA h.vars)⟩
structure HwOk (given S:List Fct) (hw:List Stp):Prop where
 all:∀ x,x∈S↔x∈given∨∃ h∈hw,h.fact=x
 nodup:(hw.map (·.fact)).Nodup
 new:∀ h∈hw,h.fact ∉ given
def HwM (p:Prg) (lv:List Int) (n:Int) (given:List Fct) (hw:List Stp) (T:List Fct):Prop:=∀ i h,hw[i]? = some h→StpOk p lv n given hw T i h
theorem HwM.more {p:Prg} {lv:List Int} {n:Int} {given:List Fct} {hw:List Stp} {T:List Fct} (h:HwM p lv n given hw T) {s:Stp} (hs:StpOk p lv n given hw T hw.length s):HwM p lv n given (hw++[s]) T:=by
 have key:∀ i,i≤hw.length→(hw++[s]).take i=hw.take i:=fun i hi=>List.take_append_of_le_length hi
 intro i g hg
 by_cases hi:i < hw.length
 ·rw [List.getElem?_append_left hi] at hg
  have h1:=h i g hg
  exact⟨h1.lo,h1.hi,h1.level,h1.way,h1.head,h1.is,fun h0 l hl hk=>by rw [key i (by omega)];exact h1.ahead h0 l hl hk⟩
 ·rw [List.getElem?_append_right (by omega)] at hg
  have hi0:i - hw.length=0:=by
   apply Classical.byContradiction
   intro hn
   rw [List.getElem?_eq_none (by rw [List.length_singleton];omega)] at hg
   cases hg
  have hi1:i=hw.length:=by omega
  rw [hi0] at hg
  simp only [List.getElem?_cons_zero,Option.some.injEq] at hg
  subst hg
  subst hi1
  exact⟨hs.lo,hs.hi,hs.level,hs.way,hs.head,hs.is,fun h0 l hl hk=>by rw [key _ (Nat.le_refl _)];have:=hs.ahead h0 l hl hk;exact this⟩
theorem HwOk.more {given S:List Fct} {hw:List Stp} (h:HwOk given S hw) {s:Stp} (hs:s.fact ∉ S):HwOk given (setF' (S++[s.fact])) (hw++[s]):=by
 have hn:s.fact ∉ given∧∀ g∈hw,g.fact≠s.fact:=⟨fun hc=>hs ((h.all _).2 (.inl hc)),fun g hg he=>hs ((h.all _).2 (.inr ⟨g,hg,he⟩))⟩
 refine⟨fun x=>?_,?_,fun g hg=>?_⟩
 ·rw [(setF_spec _).2,List.mem_append,List.mem_singleton,h.all]
  constructor
  ·rintro ((h1|⟨g,h1,h2⟩)|h1)
   ·exact .inl h1
   ·exact .inr ⟨g,List.mem_append_left _ h1,h2⟩
   ·exact .inr ⟨s,List.mem_append_right _ (List.mem_singleton.2 rfl),h1.symm⟩
  ·rintro (h1|⟨g,h1,h2⟩)
   ·exact .inl (.inl h1)
   ·rcases List.mem_append.1 h1 with h1|h1
    ·exact .inl (.inr ⟨g,h1,h2⟩)
    ·rw [List.mem_singleton] at h1
     subst h1
     exact .inr h2.symm
 ·rw [List.map_append]
  refine List.nodup_append.2 ⟨h.nodup,by simp,fun x hx y hy he=>?_⟩
  rw [List.map_singleton,List.mem_singleton] at hy
  obtain⟨g,hg,rfl⟩:=List.mem_map.1 hx
  exact hn.2 g hg (he.trans hy)
 ·rcases List.mem_append.1 hg with hg|hg
  ·exact h.new g hg
  ·rw [List.mem_singleton] at hg
   subst hg
   exact hn.1
open Go Go.RowKit
attribute [local irreducible] DW DS DL DQ Ev FnOk FnP thenD inBlockD DT

def RndOk (p:Prg) (lv:List Int) (n:Nat) (S1 S:List Fct) (i:Nat):Prop :=
 ∀ j (hj:j < p.rules.length),j < i→lv.getD (p.rules[j]).pred.toNat 0=n→∃ S0,Strict S0∧(∀ x∈S1,x∈S0)∧(∀ x∈S0,x∈S)∧manyW S0 p.rules[j]=true∧∀ x∈hdW S0 p.rules[j],x∈S
theorem RndOk.more {p:Prg} {lv:List Int} {n:Nat} {S1 S S':List Fct} {i:Nat} (h:RndOk p lv n S1 S i) (hs:∀ x∈S,x∈S') (hi:i < p.rules.length)
  (hn:lv.getD (p.rules[i]).pred.toNat 0=n→∃ S0,Strict S0∧(∀ x∈S1,x∈S0)∧(∀ x∈S0,x∈S')∧manyW S0 p.rules[i]=true∧∀ x∈hdW S0 p.rules[i],x∈S'):RndOk p lv n S1 S' (i + 1):=by
 intro j hj hji hl
 by_cases he:j=i
 ·subst he;exact hn hl
 ·obtain⟨S0,a,b,c,d,e⟩:=h j hj (by omega) hl
  exact⟨S0,a,b,fun x hx=>hs x (c x hx),d,fun x hx=>hs x (e x hx)⟩


end Go.Proofs.YtapciiffpnociacGreat
namespace Go.Proofs.YtapciiffpnociacGreat
open Go Go.RowKit
attribute [local irreducible] DW DS DL DQ Ev FnOk FnP thenD inBlockD DWr
attribute [local irreducible] DT





abbrev rtTrmR:RT:=.struct [.int .i64,.int .i64]
abbrev rtLtlR:RT:=.struct [.int .i64,.int .i64,.int .i64,.slice 2 16 rtTrmR]
abbrev rtRulR:RT:=.struct [.int .i64,.slice 2 16 rtTrmR,.int .i64,.slice 4 48 rtLtlR,.int .i64]
abbrev rtPrgR:RT:=.struct [.slice 1 8 (.int .i64),.slice 1 16 .str,.slice 5 72 rtRulR]
theorem str_ofR {R:Nat} (x:List D) (h:TyDR R .str x):∃ n:ByteArray,x=encT n∧True:=by
 obtain⟨n,_,rfl⟩:=h
 exact⟨n,rfl,trivial⟩
theorem trm_ofR {R:Nat} (x:List D) (h:TyDR R rtTrmR x):∃ t:Trm,x=encTrm t∧True:=by
 obtain⟨a,b,rfl,⟨k,_,rfl⟩,c,d,rfl,⟨p,_,rfl⟩,rfl⟩:=h
 exact⟨⟨k,p⟩,rfl,trivial⟩
theorem ltl_ofR {R:Nat} (x:List D) (h:TyDR R rtLtlR x):∃ t:Ltl,x=encLtl t∧True:=by
 obtain⟨a,b,rfl,⟨k,_,rfl⟩,c,d,rfl,⟨p,_,rfl⟩,e,f,rfl,⟨q,_,rfl⟩,g,i,rfl,h4,rfl⟩:=h
 obtain⟨l,rfl,_⟩:=sliceOfR trm_ofR g h4
 exact⟨⟨k,p,q,l⟩,rfl,trivial⟩
theorem rul_ofR {R:Nat} (x:List D) (h:TyDR R rtRulR x):∃ t:Rul,x=encRul t∧True:=by
 obtain⟨a,b,rfl,⟨k,_,rfl⟩,c,d,rfl,h2,e,f,rfl,⟨q,_,rfl⟩,g,i,rfl,h4,j,m,rfl,⟨v,_,rfl⟩,rfl⟩:=h
 obtain⟨l,rfl,_⟩:=sliceOfR trm_ofR c h2
 obtain⟨n,rfl,_⟩:=sliceOfR ltl_ofR g h4
 exact⟨⟨k,l,q,n,v⟩,rfl,trivial⟩
theorem prg_argR {R:Nat} (x:List D) (h:TyDR R rtPrgR x):∃ p:Prg,RT.arg rtPrgR x=elPrg p:=by
 obtain⟨c,d,rfl,h2,e,f,rfl,h3,g,h,rfl,h4,rfl⟩:=h
 obtain⟨l,rfl,_⟩:=sliceOfR int_ofR c h2
 obtain⟨m,rfl,_⟩:=sliceOfR str_ofR e h3
 obtain⟨n,rfl,_⟩:=sliceOfR rul_ofR g h4
 exact⟨⟨l,m,n⟩,rfl⟩
end Go.Proofs.YtapciiffpnociacGreat
namespace Go.Proofs.YtapciiffpnociacGreat
open Go Go.RowKit
section
variable {H : Type} {P : Program} {M : Nat}
theorem bulk_pos (d:DataW H):1≤Rows.uptoBulk d:=by
 cases d with
 | lit l=>cases l <;> simp [Rows.uptoBulk]
 | _=>simp [Rows.uptoBulk]
theorem bulk_len:∀ l:List (DataW H),l.length≤Rows.uptoBulkAll l
 | []=>by simp
 | x::r=>by
  have h1:=bulk_pos x
  have h2:=bulk_len r
  simp only [Rows.uptoBulkAll,List.length_cons];omega
theorem up_le {n a b M:Nat} (h:n≤a * M) (g:a≤b):n≤b * M:=Nat.le_trans h (Nat.mul_le_mul_right M g)
theorem weightsAll_le {e:TypeId} (h:∀ (d:DataW H),∀ n∈d.weights P e,n≤Rows.uptoBulk d * M):∀ (l:List (DataW H)),∀ n∈DataW.weightsAll P e l,n≤Rows.uptoBulkAll l * M
 | [],n,hn=>by simp [DataW.weightsAll] at hn
 | d::r,n,hn=>by
  simp only [DataW.weightsAll,List.mem_append] at hn
  rcases hn with hn|hn
  ·exact up_le (h d n hn) (by simp only [Rows.uptoBulkAll];omega)
  ·exact up_le (weightsAll_le h r n hn) (by simp only [Rows.uptoBulkAll];omega)
mutual
def RT.fits (M:Nat):RT→Bool
 | .struct fs=>RT.fitsL M fs
 | .slice _ b e=>Nat.ble b M && e.fits M
 | .bool=>true
 | .int _=>true
 | .str=>true
def RT.fitsL (M:Nat):List RT→Bool
 | []=>true
 | r::rs=>r.fits M && RT.fitsL M rs
end
theorem plain_le {t:TypeId} (h1:1≤M) (h2:∀ e,P.underlying t≠some (.pointer e)) (h3:∀ e,P.underlying t≠some (.slice e)) (h4:∀ e,P.underlying t≠some (.struct e)) (h5:∀ n e,P.underlying t≠some (.array n e)) (h6:∀ k e,P.underlying t≠some (.map k e)) (d:DataW H):∀ n∈d.weights P t,n≤Rows.uptoBulk d * M:=by
 intro n hn
 cases d with
 | lit l =>
  cases l with
  | string b =>
   simp only [DataW.weights,List.mem_singleton] at hn
   subst hn
   simp only [Rows.uptoBulk]
   exact up_le (a:=b.length) (Nat.le_mul_of_pos_right _ h1) (by omega)
  | _=>simp [DataW.weights] at hn
 | _ =>
  simp only [DataW.weights] at hn
  first
   | (simp at hn;done)
   | (split at hn <;> first|(rename_i hh;exact absurd hh (by first|exact h2 _|exact h3 _|exact h4 _|exact h5 _ _|exact h6 _ _))|(simp at hn;done))
theorem string_le {b:List UInt8} (h1:1≤M) {t:TypeId}:∀ n∈DataW.weights (H:=H) P t (.lit (.string b)),n≤Rows.uptoBulk (DataW.lit (H:=H) (.string b)) * M:=by
 intro n hn
 simp only [DataW.weights,List.mem_singleton] at hn
 subst hn
 simp only [Rows.uptoBulk]
 exact up_le (a:=b.length) (Nat.le_mul_of_pos_right _ h1) (by omega)
mutual
theorem weights_le (h1:1≤M):∀ (r:RT) (t:TypeId) (d:DataW H),rtB P r t=true→r.fits M=true→∀ n∈d.weights P t,n≤Rows.uptoBulk d * M
 | .bool,t,d,hb,_=>by
  have ht:P.underlying t=some .bool:=by
   unfold rtB at hb;split at hb <;> first|assumption|cases hb
  refine plain_le h1 ?_ ?_ ?_ ?_ ?_ d <;> (intros;rw [ht];simp)
 | .int k,t,d,hb,_=>by
  have ht:P.underlying t=some (.int k):=by
   unfold rtB at hb
   split at hb
   ·rename_i k' hk;rw [hk,sameK_spec hb]
   ·cases hb
  refine plain_le h1 ?_ ?_ ?_ ?_ ?_ d <;> (intros;rw [ht];simp)
 | .str,t,d,hb,_=>by
  have ht:P.underlying t=some .string:=by
   unfold rtB at hb;split at hb <;> first|assumption|cases hb
  refine plain_le h1 ?_ ?_ ?_ ?_ ?_ d <;> (intros;rw [ht];simp)
 | .slice c b e,t,d,hb,hf=>by
  obtain⟨te,ht,hby,hre⟩:∃ te,P.underlying t=some (.slice te)∧P.bytesOf te=b∧rtB P e te=true:=by
   unfold rtB at hb
   split at hb
   ·rename_i te ht
    simp only [Bool.and_eq_true] at hb
    exact⟨te,ht,Nat.eq_of_beq_eq_true hb.2.1,hb.2.2.2.2⟩
   ·cases hb
  simp only [RT.fits,Bool.and_eq_true] at hf
  have hbm:=Nat.le_of_ble_eq_true hf.1
  intro n hn
  cases d with
  | slice elems spare =>
   simp only [DataW.weights,ht,List.mem_cons,List.mem_append] at hn
   rcases hn with rfl|hn|hn
   ·have g1:=bulk_len elems
    have g2:=bulk_len spare
    rw [hby]
    refine Nat.le_trans (Nat.mul_le_mul_left _ hbm) (Nat.mul_le_mul_right M ?_)
    simp only [Rows.uptoBulk];omega
   ·exact up_le (weightsAll_le (fun d=>weights_le h1 e te d hre hf.2) elems n hn) (by simp only [Rows.uptoBulk];omega)
   ·exact up_le (weightsAll_le (fun d=>weights_le h1 e te d hre hf.2) spare n hn) (by simp only [Rows.uptoBulk];omega)
  | lit l =>
   cases l with
   | string b=>exact string_le h1 n hn
   | _=>simp [DataW.weights] at hn
  | _=>simp [DataW.weights,ht] at hn
 | .struct fs,t,d,hb,hf=>by
  obtain⟨fl,ht,hfl⟩:∃ fl,P.underlying t=some (.struct fl)∧rtL P fs fl.toList 0=true:=by
   unfold rtB at hb
   split at hb
   ·rename_i fl ht
    simp only [Bool.and_eq_true] at hb
    exact⟨fl,ht,hb.1⟩
   ·cases hb
  simp only [RT.fits] at hf
  intro n hn
  cases d with
  | agg parts =>
   simp only [DataW.weights,ht] at hn
   exact up_le (weightsL_le h1 fs fl.toList 0 parts hfl hf n hn) (by simp only [Rows.uptoBulk];omega)
  | lit l =>
   cases l with
   | string b=>exact string_le h1 n hn
   | _=>simp [DataW.weights] at hn
  | _=>simp [DataW.weights,ht] at hn
theorem weightsL_le (h1:1≤M):∀ (rs:List RT) (fl:List Field) (o:Nat) (ds:List (DataW H)),rtL P rs fl o=true→RT.fitsL M rs=true→∀ n∈DataW.weightsEach P (fl.map (·.type)) ds,n≤Rows.uptoBulkAll ds * M
 | [],[],_,ds,_,_=>by intro n hn;simp [DataW.weightsEach] at hn
 | [],_::_,_,_,hb,_=>by simp [rtL] at hb
 | _::_,[],_,_,hb,_=>by simp [rtL] at hb
 | r::rs,f::fl,o,[],_,_=>by intro n hn;simp [DataW.weightsEach] at hn
 | r::rs,f::fl,o,d::ds,hb,hf=>by
  simp only [rtL,Bool.and_eq_true] at hb
  simp only [RT.fitsL,Bool.and_eq_true] at hf
  intro n hn
  simp only [List.map_cons,DataW.weightsEach,List.mem_append] at hn
  rcases hn with hn|hn
  ·exact up_le (weights_le h1 r f.type d hb.2.2.1 hf.1 n hn) (by simp only [Rows.uptoBulkAll];omega)
  ·exact up_le (weightsL_le h1 rs fl _ ds hb.2.2.2 hf.2 n hn) (by simp only [Rows.uptoBulkAll];omega)
end
theorem weightsR_le (h1:1≤M):∀ (rs:List RT) (ts:List TypeId) (ds:List (DataW H)),rtsB P rs ts=true→RT.fitsL M rs=true→∀ n∈DataW.weightsEach P ts ds,n≤Rows.uptoBulkAll ds * M
 | [],[],ds,_,_=>by intro n hn;simp [DataW.weightsEach] at hn
 | [],_::_,_,hb,_=>by simp [rtsB] at hb
 | _::_,[],_,hb,_=>by simp [rtsB] at hb
 | r::rs,t::ts,[],_,_=>by intro n hn;simp [DataW.weightsEach] at hn
 | r::rs,t::ts,d::ds,hb,hf=>by
  simp only [rtsB,Bool.and_eq_true] at hb
  simp only [RT.fitsL,Bool.and_eq_true] at hf
  intro n hn
  simp only [DataW.weightsEach,List.mem_append] at hn
  rcases hn with hn|hn
  ·exact up_le (weights_le h1 r t d hb.1 hf.1 n hn) (by simp only [Rows.uptoBulkAll];omega)
  ·exact up_le (weightsR_le h1 rs ts ds hb.2 hf.2 n hn) (by simp only [Rows.uptoBulkAll];omega)
theorem upto_weights {rs:List RT} {ts:List TypeId} {ds:List (DataW H)} (hb:rtsB P rs ts=true) (hf:RT.fitsL 4096 rs=true) (hk:Rows.uptoSmall H ds=true):∀ n∈DataW.weightsEach P ts ds,n≤4294967296:=by
 intro n hn
 have hb2:Rows.uptoBulkAll ds≤1048576:=of_decide_eq_true hk
 have:=up_le (weightsR_le (by decide) rs ts ds hb hf n hn) hb2
 omega
end
end Go.Proofs.YtapciiffpnociacGreat
