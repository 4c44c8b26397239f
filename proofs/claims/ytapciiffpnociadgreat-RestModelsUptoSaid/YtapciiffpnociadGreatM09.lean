/- Several texts in one: GxSpo Tab TokP TokE WirP LstP WirE WirA WirB. Condition: none. -/
import Derived.Test.YtapciiffpnociadGreatM08
import Derived.Test.YtapciiffpnociadGreatProg
import Derived.Test.YtapciiffpnociadGreatM01
import Derived.KernelRfl
import Derived.Test.YtapciiffpnociadGreatM07
set_option linter.all false
set_option maxHeartbeats 8000000
open Array renaming replicate→E3
open Bool renaming and_eq_true→Ad,false_ne_true→C0
open List renaming drop_eq_getElem_cons→Ao,drop_of_length_le→Ax,findIdx?_eq_none_iff→Fh,findIdx?_eq_some_iff_getElem→Ep,flatten_cons→C7,getElem?_map→Bl,getElem?_range→Ef,getElem_cons_succ→D8,getElem_cons_zero→Dl,getElem_mem→Ag,length_cons→Bn,length_map→Aa,not_mem_nil→Bz,replicate→An
open Nat renaming beq→Aw,ble→B6,blt→As,eq_of_beq_eq_true→Aj,le_of_ble_eq_true→Ac,le_refl→Af,le_trans→Ar,lt_of_lt_of_le→Aq,not_lt_zero→A6,zero_le→Ai
open Option renaming map_some→B3
namespace Go.Proofs.YtapciiffpnociadGreat
open Go Go.RowKit
section
variable {i1 i2 : Bnds}
theorem RepC.inst (hF:i1.F=i2.F) {X:Nat->Prop} {w:World} {v:Value} {x:D} (h:@RepC i1 X w v x):@RepC i2 X w v x:=by
 induction h with
 | int h=>exact @RepC.int i2 _ _ _ _ h
 | bool=>exact @RepC.bool i2 _ _ _
 | str h=>exact @RepC.str i2 _ _ _ h
 | nil=>exact @RepC.nil i2 _ _ _
 | zero=>exact @RepC.zero i2 _ _ _ _
 | slice c hn hc hm hX hb he hcell hrep hz ih=>exact @RepC.slice i2 _ _ _ _ _ _ _ _ c hn hc hm hX hb he hcell ih (hF▸hz)
 | ptr c hX hb hcell hrep hz ih=>exact @RepC.ptr i2 _ _ _ _ _ c hX hb hcell ih (hF▸hz)
 | own h ih=>exact @RepC.own i2 _ _ _ _ _ ih
theorem ShpC.inst (hF:i1.F=i2.F) {X:Nat->Prop} {w:World} {v:Value} {x:D} (h:@ShpC i1 X w v x):@ShpC i2 X w v x:=by
 induction h with
 | int h=>exact @ShpC.int i2 _ _ _ _ _ h
 | bool=>exact @ShpC.bool i2 _ _ _ _
 | str h=>exact @ShpC.str i2 _ _ _ _ h
 | nil=>exact @ShpC.nil i2 _ _ _
 | zero=>exact @ShpC.zero i2 _ _ _ _
 | slice c hn hc hm hX hb he hcell hrep hz ih=>exact @ShpC.slice i2 _ _ _ _ _ _ _ _ c hn hc hm hX hb he hcell ih (hF▸hz)
 | ptr c hX hb hcell hrep hz ih=>exact @ShpC.ptr i2 _ _ _ _ _ c hX hb hcell ih (hF▸hz)
 | own h ih=>exact @ShpC.own i2 _ _ _ _ _ ih
theorem RgC.inst (hF:i1.F=i2.F) {X:Nat->Prop} {w:World} {B q:Nat} {v:Value} {x:D} (h:@RgC i1 X w B q v x):@RgC i2 X w B q v x:=by
 refine⟨h.1,?_⟩
 have h2:=h.2;split
 ·exact ShpC.inst hF h2
 ·split at h2
  ·rename_i h5;exact absurd rfl h5
  ·exact RepC.inst hF h2
mutual
theorem Rel.inst (hF:i1.F=i2.F) {X:Nat->Prop} {e:Env} {w:World}:∀ (s:SV) (v:Value),@Rel i1 X e w s v->@Rel i2 X e w s v
 | .junk,_,_=>trivial
 | .d _,_,h=>RepC.inst hF h
 | .nils,_,h=>h
 | .pd _,_,⟨b,off,h1,h2,h3,h4⟩=>⟨b,off,h1,h2,h3,λj hj=>let ⟨u,g1,g2⟩:=h4 j hj;⟨u,g1,RepC.inst hF g2⟩⟩
 | .loc _ _,_,h=>h
 | .row _,_,h=>h
 | .mp _,_,h=>h
 | .md _ _,_,h=>h
 | .prow _ _ _ _,_,h=>h
 | .sl _ _ _ _,_,h=>h
 | .rsl _ _ _ _,_,h=>h
 | .rg _ _ _,_,h=>RgC.inst hF h
 | .fn _ caps,_,⟨vs,h1,h2⟩=>⟨vs,h1,RelL.inst hF caps vs h2⟩
 | .agg ss,_,⟨vs,h1,h2⟩=>⟨vs,h1,RelL.inst hF ss vs h2⟩
 | .tup ss,_,⟨vs,h1,h2⟩=>⟨vs,h1,RelL.inst hF ss vs h2⟩
 | .val _,_,h=>h
theorem RelL.inst (hF:i1.F=i2.F) {X:Nat->Prop} {e:Env} {w:World}:∀ (ss:List SV) (vs:List Value),@RelL i1 X e w ss vs->@RelL i2 X e w ss vs
 | [],[],_=>trivial
 | [],_::_,h=>h.elim
 | _::_,[],h=>h.elim
 | s::ss,v::vs,h=>⟨Rel.inst hF s v h.1,RelL.inst hF ss vs h.2⟩
end
theorem Heap.inst0 {Γ:Ctx} {k:Nat->Prop} {e:Env} {w:World} (ht:@Tabs i2 Γ.P Γ.E0 Γ.w0) (h:@Heap i1 Γ k [] e w):@Heap i2 Γ k [] e w:=by
 obtain⟨h1,_,h3,h4,h5,h6,h7,h8,h9,h10,h11,h12,_,h14,h15⟩:=h;exact @Heap.mk i2 Γ k [] e w h1 (λp hp=>absurd hp (Bz)) h3 h4 h5 h6 h7 h8 h9 h10 h11 h12 ht h14 h15
theorem Heap.size' {Γ:Ctx} {k:Nat->Prop} {H:Hp} {e:Env} {w:World} (h:@Heap i1 Γ k H e w):Γ.w0.heap.size<=w.heap.size:=by
 obtain⟨_,_,_,_,_,_,_,_,_,h10,_,_,_,_,_⟩:=h;exact h10
end
variable [iB : Bnds]
inductive HasRg (B:Nat):List SV->Prop
 | here (q:Nat) (x:D) (r:List SV):HasRg B (.rg B q x::r)
 | agg (ss r:List SV) (h:HasRg B ss):HasRg B (.agg ss::r)
 | next (s:SV) (r:List SV) (h:HasRg B r):HasRg B (s::r)
theorem HasRg.le {B:Nat} {X:Nat->Prop} {e:Env} {w:World} {ss:List SV} (h:HasRg B ss):∀ {vs:List Value},RelL X e w ss vs->B<=w.heap.size:=by
 induction h with
 | here q x r=>intro vs hr;match vs,hr with|_::_,hr=>exact hr.1.1
 | agg ss r h ih=>intro vs hr;match vs,hr with|_::_,hr=>obtain⟨⟨us,_,hu⟩,_⟩:=hr;exact ih hu
 | next s r h ih=>intro vs hr;match vs,hr with|_::_,hr=>exact ih hr.2
mutual
def SV.rgs:SV->SV
 | .d (.own B x)=>.rg B 1 x
 | .agg ss=>.agg (SV.rgsL ss)
 | .tup ss=>.tup (SV.rgsL ss)
 | s=>s
def SV.rgsL:List SV->List SV
 | []=>[]
 | s::ss=>SV.rgs s::SV.rgsL ss
end
mutual
def SV.ownB (B:Nat):SV->Prop
 | .d (.own B' _)=>B'=B
 | .agg ss=>SV.ownBL B ss
 | .tup ss=>SV.ownBL B ss
 | _=>True
def SV.ownBL (B:Nat):List SV->Prop
 | []=>True
 | s::ss=>SV.ownB B s/\SV.ownBL B ss
end
section
variable {X : Nat -> Prop} {e : Env} {w : World} {B : Nat}
mutual
theorem Rel.rgs (hB:B<=w.heap.size):∀ (s:SV) (v:Value),s.ownB B->Rel X e w s v->Rel X e w s.rgs v
 | .d (.own B' x),v,ho,h=>by
  have ho:B'=B:=ho
  subst ho
  exact⟨hB,RepC.unown h⟩
 | .d (.int _ _),_,_,h=>h
 | .d (.bool _),_,_,h=>h
 | .d (.str _),_,_,h=>h
 | .d (.slice _ _),_,_,h=>h
 | .d (.ptr _),_,_,h=>h
 | .agg ss,_,ho,⟨vs,g1,g2⟩=>⟨vs,g1,RelL.rgs hB ss vs ho g2⟩
 | .tup ss,_,ho,⟨vs,g1,g2⟩=>⟨vs,g1,RelL.rgs hB ss vs ho g2⟩
 | .junk,_,_,h=>h
 | .nils,_,_,h=>h
 | .pd _,_,_,h=>h
 | .loc _ _,_,_,h=>h
 | .row _,_,_,h=>h
 | .mp _,_,_,h=>h
 | .md _ _,_,_,h=>h
 | .prow _ _ _ _,_,_,h=>h
 | .sl _ _ _ _,_,_,h=>h
 | .rsl _ _ _ _,_,_,h=>h
 | .rg _ _ _,_,_,h=>h
 | .fn _ _,_,_,h=>h
 | .val _,_,_,h=>h
theorem RelL.rgs (hB:B<=w.heap.size):∀ (ss:List SV) (vs:List Value),SV.ownBL B ss->RelL X e w ss vs->RelL X e w (SV.rgsL ss) vs
 | [],[],_,_=>trivial
 | [],_::_,_,h=>h.elim
 | _::_,[],_,h=>h.elim
 | s::ss,v::vs,ho,h=>⟨Rel.rgs hB s v ho.1 h.1,RelL.rgs hB ss vs ho.2 h.2⟩
end
end
mutual
theorem SV.rgs_low {k:Nat}:∀ (s:SV),s.low k=true->s.rgs.low k=true
 | .d (.own _ _),_=>rfl
 | .d (.int _ _),_=>rfl
 | .d (.bool _),_=>rfl
 | .d (.str _),_=>rfl
 | .d (.slice _ _),_=>rfl
 | .d (.ptr _),_=>rfl
 | .agg ss,h=>SV.rgsL_low ss h
 | .tup ss,h=>SV.rgsL_low ss h
 | .junk,h=>h
 | .nils,h=>h
 | .pd _,h=>h
 | .loc _ _,h=>h
 | .row _,h=>h
 | .mp _,h=>h
 | .md _ _,h=>h
 | .prow _ _ _ _,h=>h
 | .sl _ _ _ _,h=>h
 | .rsl _ _ _ _,h=>h
 | .rg _ _ _,h=>h
 | .fn _ _,h=>h
 | .val _,h=>h
theorem SV.rgsL_low {k:Nat}:∀ (ss:List SV),SV.lowL k ss=true->SV.lowL k (SV.rgsL ss)=true
 | [],_=>rfl
 | s::ss,h=>by
  simp only [SV.lowL,Ad] at h
  simp only [SV.rgsL,SV.lowL,Ad]
  exact⟨SV.rgs_low s h.1,SV.rgsL_low ss h.2⟩
end
abbrev kg (i:Bnds) (B:Nat):Bnds:=⟨B,i.F⟩
theorem FnP.atB {dr:Bool} {P:Program} {τ:List (Nat×TI)} {τok:dc P τ} {f:FuncId} {args ss:List SV} {R R':SV->Prop} (B:Nat) (hc:@FnP (kg iB B) dr P τ τok f args R) (hw:SV.weakL ss=args) (hB:HasRg B ss)
  (hR:∀ r,R r->SV.ownB B r/\R' r.rgs):FnP dr P τ τok f ss R':=by
 refine⟨hc.1,λO e w vs hH hr=>?_⟩
 have hBw:B<=w.heap.size:=hB.le hr;have hT:@Tabs iB P (λb=>b∈ae e []) w:=hH.tabs;have hT2:@Tabs (kg iB B) P (λb=>b∈ae e []) w:=⟨hBw,hT.2.1,λb hb=>absurd hb (Bz)⟩
 refine (hc.2 O e w vs (Heap.inst0 (i1:=iB) (i2:=kg iB B) hT2 hH) (hw▸RelL.inst (i1:=iB) (i2:=kg iB B) rfl _ _ (RelL.weak ss vs hr))).mono ?_;rintro en w' ⟨k',r,H',e',v,⟨rfl,hl,hRr⟩,rfl,hH',hrel⟩;obtain⟨h1,h2⟩:=hR r hRr;exact⟨k',r.rgs,[],e',v,⟨rfl,SV.rgs_low r hl,h2⟩,rfl,Heap.inst0 (i1:=kg iB B) (i2:=iB) hT hH',
  Rel.rgs (Ar hBw (Heap.size' (i1:=kg iB B) hH')) _ _ h1 (Rel.inst (i1:=kg iB B) (i2:=iB) rfl _ _ hrel)⟩
theorem SimV.trans {a b c:Value} (h:SimV a b) (k:SimV b c):SimV a c:=by
 rcases h with rfl|⟨i,n,m,rfl,rfl,h3⟩|⟨s,t,rfl,rfl,h3⟩
 ·exact k
 ·rcases k with rfl|⟨i',n',m',h1,rfl,h4⟩|⟨_,_,h1,_⟩
  ·exact .inr (.inl ⟨_,_,_,rfl,rfl,h3⟩)
  ·cases h1;exact .inr (.inl ⟨_,_,_,rfl,rfl,h4⟩)
  ·cases h1
 ·rcases k with rfl|⟨_,_,_,h1,_⟩|⟨s',t',h1,rfl,h4⟩
  ·exact .inr (.inr ⟨_,_,rfl,rfl,h3⟩)
  ·cases h1
  ·cases h1;exact .inr (.inr ⟨_,_,rfl,rfl,h4⟩)
theorem SimW.trans {a b c:World} (h:SimW a b) (k:SimW b c):SimW a c:=⟨Ar h.size k.size,λx o v hv =>
 let ⟨⟨v1,h1,h2⟩,h3⟩:=h.cell x o v hv
 let ⟨⟨v2,k1,k2⟩,k3⟩:=k.cell x o v1 h1
 ⟨⟨v2,k1,h2.trans k2⟩,k3.trans h3⟩⟩
theorem lt_of_cell {w:World} {b o:Nat} {v:Value} (h:w.cell? ⟨b,o,none⟩=some v):b<w.heap.size:=by
 unfold World.cell? at h;split at h
 ·rename_i hh;exact co hh
 ·cases h
theorem SimW.below {w w':World} (h:Below w.heap.size w w'):SimW w w':=⟨h.size,λb o v hv =>
 have hb:=h.block b (lt_of_cell hv)
 ⟨⟨v,(World.cell?_of_block (w:=w) hb).trans hv,.inl rfl⟩,gq hb⟩⟩
structure Spo (dr:Bool) (B:Nat) (X:Nat->Prop) (w w':World):Prop where
 sim:SimW w w'
 low:∀ b,b<w.heap.size->(b<B∨X b)->w'.heap[b]?=w.heap[b]?
 mark:∀ r:Nat,w.heap[r]?=some (Obj.deferred (some []))->w'.heap[r]?=w.heap[r]?
 os:w'.os=w.os
 tape:w'.tape=w.tape
 output:w'.output=w.output
 drawn:dr=true->w.drawn<=w'.drawn
section
variable {dr : Bool} {B : Nat} {X : Nat -> Prop} {a b c : World}
theorem Spo.below (h:Beld dr a.heap.size a b):Spo dr B X a b:=⟨SimW.below h.toBelow,λx hx _=>h.block x hx,λr hr=>h.block r (co hr),h.os,h.tape,h.output,h.drawn⟩
theorem Spo.refl:Spo dr B X a a:=Spo.below (Beld.refl dr _ a)
theorem Spo.trans (h:Spo dr B X a b) (k:Spo dr B X b c):Spo dr B X a c:=⟨h.sim.trans k.sim,λx h1 h2=>(k.low x (Aq h1 h.sim.size) h2).trans (h.low x h1 h2),
 λr hr=>(k.mark r ((h.mark r hr).trans hr)).trans (h.mark r hr),k.os.trans h.os,k.tape.trans h.tape,k.output.trans h.output,λhd=>Ar (h.drawn hd) (k.drawn hd)⟩
end
def FnSp (dr:Bool) (P:Program) (f:FuncId) (B:Nat) (args:List SV):Prop:=d9 P f=true /\
 ∀ (X:Nat->Prop) (e:Env) (w:World) (vs:List Value),(∀ b,X b->b<w.heap.size)->Bnds.B<=B->Bnds.F<=B->B<=w.heap.size->RelL X e w args vs ->
  Calls P f vs.toArray w (λen w'=>∃ v,en = .returned v/\Spo dr B X w w')
section
variable {Γ : Ctx} {k : Nat} {L : Sl} {H : Hp} {K : ca} {Q : d6} {ops : List Oper} {rest : List Oper}
theorem Models.spo {k:Nat->Prop} {e:Env} {a:Act} {w w':World} {B:Nat} (m:Models Γ k L H e a w) (hB:Γ.w0.heap.size<=B) (hs:Sl.safe B L) (hH:Hp.safe B H) (h:Spo Γ.dr B (Γ.X e H) w w') (hBw:B<=w.heap.size):Models Γ k L H e a w':=by
 have hlow:∀ b,b<B->w'.heap[b]?=w.heap[b]?:=λb hb=>h.low b (Aq hb hBw) (.inl hb)
 have hheap:∀ p∈H,e.dom p.1/\HRel (Γ.X e H) e w' p:=by
  intro p hp;obtain⟨hd,hpr⟩:=m.heap p hp;refine⟨hd,?_⟩
  obtain⟨i,T,cs,rfl,hcs⟩:=Hp.safe_mem hH p hp;obtain⟨vs,g1,g2,g3⟩:=hpr;exact⟨vs,(h.low _ (co g1) (.inr (.inr (List.mem_filterMap.2 ⟨_,hp,rfl⟩)))).trans g1,RelL.sim h.sim hlow _ _ hcs g2,g3⟩
 exact⟨⟨m.top,hheap,m.ids,m.nodup,m.mine,h.os.trans m.os,h.tape.trans m.tape,h.output.trans m.output,λhd=>Ar (m.drawn hd) (h.drawn hd),Ar m.size h.sim.size,λb hb hE=>(hlow b (Aq hb hB)).trans (m.block b hb hE),m.obound,m.tabs,m.jle,m.anchor⟩,
  m.defers.keep h.mark,m.len,λt=>Rel.sim h.sim hlow _ _ (Sl.safe_get hs t) (m.slot t)⟩
theorem ds_callSp {f:FuncId} {xs:List Operand} {ts:Array TypeId} {ty:TypeId} {pos:String} {af:Array Edge} {g:Option (Nat×Bool)} {d:Nat} {args:List SV} {B:Nat} (hc:FnSp Γ.dr Γ.P f B args) (hB:Γ.w0.heap.size<=B) (hw:aq ops L g=some true)
  (ha:mz L xs=args) (hg:HasRg B args) (hok:dy xs=true) (hd:As d Γ.n=true) (hs:Sl.safe B L) (hH:Hp.safe B H) (hk:DS false Γ ops rest K k ((d,.junk)::L) H) :
  DS false Γ ops (⟨some d,.call { callee:=.value (.func f),args:=xs.toArray,argTypes:=ts },ty,pos,af,g⟩::rest) K k L H:=by
 refine jk hw λe a w m=>?_
 unfold Oper.wp;rw [jc hc.1];rw [Oper.upon_enter];have hr:=ha▸e7 m xs hok;have hBw:B<=w.heap.size:=hg.le hr;have hXw:∀ b,Γ.X e H b->b<w.heap.size:=λb hb=>hb.elim (λh=>Aq (m.obound b h).1 m.size) (m.lt b)
 refine (hc.2 (Γ.X e H) e w _ hXw (Ar m.tabs.1 hB) (Ar m.tabs.2.1 hB) hBw hr).mono ?_;rintro en w' ⟨v,rfl,hsp⟩;exact⟨k,_,H,e,(m.spo hB hs hH hsp hBw).put (s:=.junk) (Ac hd) trivial,hk⟩
end
def lifI (Γ:Ctx) (I:World->Prop) (Q:d6):Exit->Act->World->Prop:=λx a w=>I w/\∃ (k:Nat) (L:Sl) (H:Hp) (e:Env),Models Γ k L H e a w/\Q x k L H
def DWi (Γ:Ctx) (I:World->Prop) (c:Code) (Q:d6) (k:Nat) (L:Sl) (H:Hp):Prop:=∀ e a w,Models Γ k L H e a w->I w->c.wpIn (jm Γ.rd) 0 Γ.P (lifI Γ I Q) a w
def DLi (Γ:Ctx) (I:World->Prop) (ops:List Oper) (rest:List Oper) (K:ca) (k:Nat) (L:Sl) (H:Hp):Prop :=
 ∀ e a w,Models Γ k L H e a w->I w->wpList Γ.P ops.toArray (lifI Γ I (fx K)) rest a w
section
variable {Γ : Ctx} {I : World -> Prop} {k : Nat} {L : Sl} {H : Hp} {Q : d6} {K : ca} {ops : List Oper} {rest : List Oper}
theorem dwi_skip (h:Q .normal k L H):DWi Γ I .skip Q k L H:=λe _ _ m hi=>wpIn_skip ⟨hi,k,L,H,e,m,h⟩
theorem dwi_exit {id} (h:Q (.exit id) k L H):DWi Γ I (.exit id) Q k L H:=λe _ _ m hi=>wpIn_exit ⟨hi,k,L,H,e,m,h⟩
theorem nq {x y:Code} (h:DWi Γ I x (dp (DWi Γ I y Q) Q) k L H):DWi Γ I (.seq x y) Q k L H:=by
 intro e a w m hi;refine wpIn_seq (wpIn_mono (h e a w m hi) ?_);rintro ex a' w' ⟨hi',k',L',H',e',m',hq⟩;cases ex with
 | normal=>exact hq e' a' w' m' hi'
 | _=>exact⟨hi',k',L',H',e',m',hq⟩
theorem ze {c:Operand} {x y:Code} {p:Prop} {_:Decidable p} (hc:ai L c = .d (.bool (decide p))) (ht:p->DWi Γ I x Q k L H) (hf:¬ p->DWi Γ I y Q k L H):DWi Γ I (.cond c x y) Q k L H:=by
 intro e a w m hi;have hr:Rel (Γ.X e H) e w (ai L c) (a.eval c):=by
  cases c with
  | const v =>
   refine m.op _ ?_;cases v<;>first|trivial|(simp [ai,cSV] at hc)
  | _=>exact m.op _ trivial
 rw [hc] at hr;have hv:a.eval c = .bool (decide p):=by
  generalize a.eval c=v at hr;cases hr;rfl
 by_cases hp:p
 ·exact wpIn_cond_true (by rw [hv,decide_eq_true hp]) (ht hp e a w m hi)
 ·exact wpIn_cond_false (by rw [hv,decide_eq_false hp]) (hf hp e a w m hi)
theorem od {id:Nat} {c:Code} (h:DWi Γ I c (bh id Q) k L H):DWi Γ I (.block id c) Q k L H:=by
 intro e a w m hi;refine wpIn_block (wpIn_mono (h e a w m hi) ?_);rintro ex a' w' ⟨hi',k',L',H',e',m',hq⟩;cases ex with
 | exit id' =>
  simp only [Exit.inBlock];simp only [bh] at hq;cases hb:Aw id' id with
  | true=>rw [hb] at hq;rw [if_pos (Aj hb)];exact⟨hi',k',L',H',e',m',hq⟩
  | false=>rw [hb] at hq;rw [if_neg (Nat.ne_of_beq_eq_false hb)];exact⟨hi',k',L',H',e',m',hq⟩
 | _=>exact⟨hi',k',L',H',e',m',hq⟩
theorem dwi_loop {ι:Type} {c:Code} (S:ι->St) (pre:ι->Prop) (μ:ι->Nat) (x0:ι) (p0:pre x0) (h0:Ent Γ k L H (S x0).k (S x0).L (S x0).H)
  (round:∀ x,pre x->DWi Γ I c (dp (λk' L' H'=>∃ y,pre y/\Ent Γ k' L' H' (S y).k (S y).L (S y).H/\μ y<μ x) Q) (S x).k (S x).L (S x).H):DWi Γ I (.loop c) Q k L H:=by
 intro e a w m hi;obtain⟨e0,m0⟩:=h0 e a w m;refine wpIn_loop_ghost (λn a w=>∃ x,pre x/\μ x=n/\I w/\∃ e,Models Γ (S x).k (S x).L (S x).H e a w) (μ x0) ⟨x0,p0,rfl,hi,e0,m0⟩ ?_;rintro n a w ⟨x,px,rfl,hi,e,m⟩;refine wpIn_mono (round x px e a w m hi) ?_;rintro ex a' w' ⟨hi',k',L',H',e',m',hq⟩;cases ex with
 | normal =>
  obtain⟨y,py,hy,hlt⟩:=hq;obtain⟨e2,m2⟩:=hy e' a' w' m';exact⟨_,hlt,y,py,rfl,hi',e2,m2⟩
 | _=>exact⟨hi',k',L',H',e',m',hq⟩
theorem letsOut_lifI:¬ LetsOut (lifI Γ I (fx K)):=by
 rintro⟨a,w,_,k,L,H,e,m,hx,_⟩;cases hx
theorem ed {id:Nat} {l:List Oper} (hn:dd l=true) (h:DLi Γ I l l (Q .normal) k L H):DWi Γ I (.region id l.toArray false) Q k L H:=by
 intro e a w m hi;refine wpIn_mono (wpIn_region_lit (yj letsOut_lifI l hn _ _ (h e a w m hi))) ?_;rintro ex a' w' ⟨hi',k',L',H',e',m',rfl,hq⟩;exact⟨hi',k',L',H',e',m',hq⟩
theorem lu (h:K k L H):DLi Γ I ops [] K k L H:=λe _ _ m hi=>wpList_nil ⟨hi,k,L,H,e,m,rfl,h⟩
theorem dli_run {op:Op} {ty:TypeId} {pos:String} {af:Array Edge} {g:Option (Nat×Bool)} {d:Option Nat} (hw:aq ops L g=some true)
  (h:∀ e a w,Models Γ k L H e a w->I w->(Oper.mk d op ty pos af g).wp Γ.P a w (λa' w'=>I w'/\∃ (k':Nat) (L':Sl) (H':Hp) (e':Env),Models Γ k' L' H' e' a' w'/\DLi Γ I ops rest K k' L' H') (lifI Γ I (fx K))) :
  DLi Γ I ops (⟨d,op,ty,pos,af,g⟩::rest) K k L H:=by
 intro e a w m hi;refine wpList_step λK' hK'=>?_
 rw [if_pos (ie m hw)];refine Oper.wp_mono ?_ (h e a w m hi);rintro a' w' ⟨hi',k',L',H',e',m',hd⟩;exact hK' _ _ (hd e' a' w' m' hi')
theorem dli_ev {d:Nat} {op:Op} {ty:TypeId} {pos:String} {af:Array Edge} {g:Option (Nat×Bool)} {s:SV} (h:Ev Γ k L H op ty s) (hk:DLi Γ I ops rest K k ((d,s)::L) H) (hw:aq ops L g=some true:=by exact rfl) (hd:As d Γ.n=true:=by exact rfl) :
  DLi Γ I ops (⟨some d,op,ty,pos,af,g⟩::rest) K k L H:=by
 refine dli_run hw λe a w m hi=>?_
 obtain⟨v,h1,h2⟩:=h e a w m;unfold Oper.wp;rw [h1 (some d) pos af g w (Below.refl _ _)];exact⟨hi,k,_,H,e,m.put (Ac hd) h2,hk⟩
theorem ic {d:Nat} {op:Op} {ty:TypeId} {pos:String} {af:Array Edge} {g:Option (Nat×Bool)} {p:Prop} {s s':SV} (hk:DLi Γ I ops rest K k ((d,s')::L) H) (hp:p) (he:evC Γ.τ (ai L) (Hp.get H) op=some (p,s):=by exact rfl) (hv:s=s':=by exact rfl) (hok:bt op=true:=by exact rfl)
  (hw:aq ops L g=some true:=by exact rfl) (hd:As d Γ.n=true:=by exact rfl):DLi Γ I ops (⟨some d,op,ty,pos,af,g⟩::rest) K k L H:=by
 subst hv;exact dli_ev (evC_sound he hp hok) hk hw hd
end
structure SpF (Γ:Ctx) (B:Nat):Prop where
 E0:Γ.E0=λb=>B<=b/\¬ Γ.O b
 hF:Bnds.F<=B
abbrev SpI (Γ:Ctx) (B:Nat):World->Prop:=λw=>Spo Γ.dr B Γ.O Γ.w0 w/\B<=w.heap.size
section
variable {Γ : Ctx} {B : Nat} {k : Nat} {L : Sl} {Q : d6} {K : ca} {ops : List Oper} {rest : List Oper} {t t' : TypeId}
theorem zh {te ty:TypeId} {x y:Operand} {pos:String} {af:Array Edge} {g:Option (Nat×Bool)} {d0 y0:D} {ds:List D} (hΓ:SpF Γ B) (hk:DLi Γ (SpI Γ B) ops rest K k L []) (hw:aq ops L g=some true:=by exact rfl) (hx:ai L x = .rg B 2 (.ptr (d0::ds)):=by exact rfl) (hy:ai L y = .d y0:=by exact rfl) (hyo:de y=true:=by exact rfl) (hl:likeD d0 y0=true:=by exact rfl)
  (hkn:(Γ.sh te).known=true:=by exact rfl) (hn:Aw 1 (Γ.cells te)=true:=by exact rfl) (hs:Sl.safe B L:=by (repeat' (first|exact trivial|exact Nat.le.refl|refine ⟨?_,?_⟩))):DLi Γ (SpI Γ B) ops (⟨none,.store te x y,ty,pos,af,g⟩::rest) K k L []:=by
 refine dli_run hw λe a w m hi=>?_
 obtain⟨inf,z,hin,_,hsz,_⟩:=Ctx.info (Sh.known_ne hkn);have hp:RgC (Γ.X e []) w B 2 (a.eval x) (.ptr (d0::ds)):=by
  have:=evT m hx (cSV_rg · _ _ _)
  exact this
 have hp:=hp.shp;have hr:RepC (Γ.X e []) w (a.eval y) y0:=by
  have:=m.op y (b7 hyo)
  rw [hy] at this;exact this
 have hn':=Aj hn;generalize hv:a.eval x=v at hp;cases hp with
 | ptr c hX hb hcell hrep hz =>
  rename_i b off;have hc0:=hcell 0 (by simp);have hsim:=likeD_sim hl (hrep 0 (by simp)) hr;have hbB:B<=b:=Nat.le_of_not_lt λh=>hX (.inr h)
  have hbO:¬ Γ.O b:=λh=>hX (.inl (.inl h))
  have hz0:=hz (Ar hΓ.hF hbB) 0 (by simp);rw [Nat.add_zero] at hc0 hz0;obtain⟨w',hw',h1,h2,⟨c1,t1,p1,h3⟩,h4,h5,h6,h7,h8⟩:=simW_set hc0 hsim;have hone:(a.eval y).oneCell'=true/\(a.eval y).cells = #[a.eval y]:=RepC.one hr;have hrun:(execOp a.eval ⟨none,.store te x y,ty,pos,af,g⟩).run Γ.P w = .ok .skip w':=by
   have hst:(store (⟨b,off,none⟩:Addr) (a.eval y)).run Γ.P w = .ok () w':=by
    rw [run_store Γ.P w _ _ _ hone.1,hc0];simp [hz0,hw']
   have hadd:(⟨b,off,none⟩:Addr).add 0=⟨b,off,none⟩:=by rw [Addr.add_at,Nat.add_zero]
   simp only [execOp,Instr.storeAt,hv,Instr.sureAddr];simp [storeVar,cw hin,hsz,<- hn',hone.2,storeCells,hadd,hst]
  unfold Oper.wp;rw [hrun];have hmk:∀ r:Nat,w.heap[r]?=some (Obj.deferred (some []))->w'.heap[r]?=w.heap[r]?:=λr hr=>h2 r λhe=>by
   subst he;rw [hr] at h3;cases h3
  have hsp:Spo Γ.dr B Γ.O w w':=⟨h1,λb' _ hb'=>h2 b' λhe=>by subst he;exact hb'.elim (λh=>Nat.not_lt.2 hbB h) hbO,hmk,h5,h6,h7,λ_=>Nat.le_of_eq h8.symm⟩
  refine⟨⟨hi.1.trans hsp,h4▸hi.2⟩,k,L,[],e,⟨⟨m.top,λp hp=>(nomatch hp),m.ids,m.nodup,m.mine,h5.trans m.os,h6.trans m.tape,h7.trans m.output,λhd=>h8▸m.drawn hd,h4▸m.size,λb' hb' hE=>(h2 b' ?_).trans (m.block b' hb' hE),m.obound,m.tabs,m.jle,m.anchor⟩,
   m.defers.keep hmk,m.len,λt=>Rel.sim h1 (λb' hb'=>h2 b' (by omega)) _ _ (Sl.safe_get hs t) (m.slot t)⟩,hk⟩
  rintro rfl;exact hE (by rw [hΓ.E0];exact⟨hbB,hbO⟩)
def OpBel (Γ:Ctx) (k:Nat) (L:Sl) (H:Hp) (op:Op) (ty:TypeId) (s:SV):Prop :=
 ∀ e a w,Models Γ k L H e a w->∃ v w',(∀ (dst:Option Tmp) pos after guard,(execOp a.eval ⟨dst,op,ty,pos,after,guard⟩).run Γ.P w = .ok (.value v) w')/\Beld Γ.dr w.heap.size w w'/\Rel (Γ.X e H) e w' s v
theorem dli_bel {d:Nat} {op:Op} {ty:TypeId} {pos:String} {af:Array Edge} {g:Option (Nat×Bool)} {s:SV} (h:OpBel Γ k L [] op ty s) (hk:DLi Γ (SpI Γ B) ops rest K k ((d,s)::L) []) (hw:aq ops L g=some true:=by exact rfl) (hd:As d Γ.n=true:=by exact rfl) :
  DLi Γ (SpI Γ B) ops (⟨some d,op,ty,pos,af,g⟩::rest) K k L []:=by
 refine dli_run hw λe a w m hi=>?_
 obtain⟨v,w',h1,h2,h3⟩:=h e a w m;unfold Oper.wp;rw [h1 (some d) pos af g];exact⟨⟨hi.1.trans (Spo.below h2),Ar hi.2 h2.size⟩,k,_,[],e,(m.below h2).put (Ac hd) h3,hk⟩
theorem ds_bel {d:Nat} {H:Hp} {op:Op} {ty:TypeId} {pos:String} {af:Array Edge} {g:Option (Nat×Bool)} {s:SV} (h:OpBel Γ k L H op ty s) (hk:DS false Γ ops rest K k ((d,s)::L) H) (hw:aq ops L g=some true:=by exact rfl) (hd:As d Γ.n=true:=by exact rfl) :
  DS false Γ ops (⟨some d,op,ty,pos,af,g⟩::rest) K k L H:=by
 refine jk hw λe a w m=>?_
 obtain⟨v,w',h1,h2,h3⟩:=h e a w m;unfold Oper.wp;rw [h1 (some d) pos af g];exact⟨k,_,H,e,(m.below h2).put (Ac hd) h3,hk⟩
theorem dli_callSp {f:FuncId} {xs:List Operand} {ts:Array TypeId} {ty:TypeId} {pos:String} {af:Array Edge} {g:Option (Nat×Bool)} {d:Nat} {args:List SV} (hΓ:SpF Γ B) (hc:FnSp Γ.dr Γ.P f B args) (hbb:Bnds.B<=B) (hk:DLi Γ (SpI Γ B) ops rest K k ((d,.junk)::L) []) (hw:aq ops L g=some true:=by exact rfl)
  (ha:mz L xs=args:=by exact rfl) (hok:dy xs=true:=by exact rfl) (hd:As d Γ.n=true:=by exact rfl) (hs:Sl.safe B L:=by (repeat' (first|exact trivial|exact Nat.le.refl|refine ⟨?_,?_⟩))) :
  DLi Γ (SpI Γ B) ops (⟨some d,.call { callee:=.value (.func f),args:=xs.toArray,argTypes:=ts },ty,pos,af,g⟩::rest) K k L []:=by
 refine dli_run hw λe a w m hi=>?_
 unfold Oper.wp;rw [jc hc.1];rw [Oper.upon_enter];have hX:∀ b,Γ.X e [] b↔Γ.O b:=λb=>⟨λh=>h.elim id λh=>(nomatch h),.inl⟩
 have hr:RelL Γ.O e w args (xs.map a.eval):=RelL.keep (Af _) (λ_ _ _=>rfl) (λb _ h=>.inl h) _ _ (ha▸e7 m xs hok);refine (hc.2 Γ.O e w _ (λb hb=>Aq (m.obound b hb).1 m.size) hbb hΓ.hF hi.2 hr).mono ?_;rintro en w' ⟨v,rfl,h⟩;have hlow:∀ b,b<B->w'.heap[b]?=w.heap[b]?:=λb hb=>h.low b (Aq hb hi.2) (.inl hb)
 have m':Models Γ k L [] e a w':=⟨⟨m.top,λp hp=>(nomatch hp),m.ids,m.nodup,m.mine,h.os.trans m.os,h.tape.trans m.tape,h.output.trans m.output,λhd=>Ar (m.drawn hd) (h.drawn hd),Ar m.size h.sim.size,λb hb hE=>(h.low b (Aq hb m.size) (by
   rw [hΓ.E0] at hE;rcases Nat.lt_or_ge b B with h1|h1
   ·exact .inl h1
   ·exact .inr (Classical.byContradiction λh2=>hE ⟨h1,h2⟩))).trans (m.block b hb hE),m.obound,m.tabs,m.jle,m.anchor⟩,
  m.defers.keep h.mark,m.len,λt=>Rel.sim h.sim hlow _ _ (Sl.safe_get hs t) (m.slot t)⟩
 exact⟨⟨hi.1.trans h,Ar hi.2 h.sim.size⟩,k,_,[],e,m'.put (s:=.junk) (Ac hd) trivial,hk⟩
end
theorem fnSp_enter {dr:Bool} {P:Program} {τ:List (Nat×TI)} {τok:dc P τ} {f:FuncId} {fn:Func} {c:Code} {args:List SV} {B:Nat} (N:Nat) (hf:P.funcs[f]?=some fn) (hb:fn.body=some c) (hres:fn.results.toList=[])
  (hN:args.length+(fn.ntmps-args.length)=N) (hcall:d9 P f=true) (hlow:SV.lowL 0 args=true)
  (h:∀ (O:Nat->Prop) (w0:World) (E0:Nat->Prop) (β0:Nat->Nat×Value),Bnds.B<=B->SpF ⟨P,τ,τok,O,w0,E0,N,0,β0,none,cy,false,dr⟩ B ->
   DWi ⟨P,τ,τok,O,w0,E0,N,0,β0,none,cy,false,dr⟩ (SpI ⟨P,τ,τok,O,w0,E0,N,0,β0,none,cy,false,dr⟩ B) c (λx _ _ H=>(x = .ret∨x = .normal)/\H=[]) 0 (nl 0 args) []):FnSp dr P f B args:=by
 refine⟨hcall,?_⟩
 intro X e w vs hX hB hF hBw hr;have hl:=RelL.length _ _ hr;have hX2:∀ b,Ctx.X ⟨P,τ,τok,X,w,λb=>B<=b/\¬ X b,N,0,e.an,none,cy,false,dr⟩ (e.ren id 0) [] b↔X b:=λb=>⟨λh=>h.elim id λh=>(nomatch h),.inl⟩
 have hO:∀ b,X b->b<w.heap.size/\¬ (B<=b/\¬ X b):=λb hb=>⟨hX b hb,λh=>h.2 hb⟩
 have hstart:Models ⟨P,τ,τok,X,w,λb=>B<=b/\¬ X b,N,0,e.an,none,cy,false,dr⟩ (0:Nat) (nl 0 args) [] (e.ren id 0) { tmps:=vs.toArray++E3 (fn.ntmps-vs.toArray.size) undef,defers:=[] } w:=by
  refine⟨⟨λ_=>Iff.rfl,λp hp=>(nomatch hp),.nil,.nil,λb hb=>(nomatch hb),rfl,rfl,rfl,λ_=>Af _,Af _,λ_ _ _=>rfl,hO,⟨Ar hB hBw,Ar hF hBw,λb hb=>Ar hB hb.1⟩,λj hj=>absurd hj (A6 j),λj hj=>absurd hj (A6 j)⟩,Marks.nil,?_,λt=>?_⟩
  ·simp [<- hN,hl]
  ·have:=xy args vs (An (fn.ntmps-vs.length) undef) 0 [] rfl (RelL.env (e':=e.ren id 0) _ _ hlow hr) t
   have he:vs.toArray++E3 (fn.ntmps-vs.toArray.size) undef=([]++vs++An (fn.ntmps-vs.length) undef).toArray:=by simp
   rw [he];exact Rel.keep (Af _) (λ_ _ _=>rfl) (λb _ hy=>(hX2 b).1 hy) _ _ this
 refine callsIn_wide.1 (callsIn_of_wp_marks (F:=Fence.wide) (n:=0) hf hb trivial (wpIn_mono (h X w (λb=>B<=b/\¬ X b) e.an hB ⟨rfl,hF⟩ (e.ren id 0) _ w hstart ⟨Spo.refl,hBw⟩) ?_));rintro ex a' w' ⟨⟨hsp,_⟩,k',L',H',e',m',hx,rfl⟩;obtain⟨rs,hrs,hro,hnd,hm⟩:=m'.defers;have hrs0:rs=[]:=hro rfl;subst hrs0;have hd:a'.defers=[]:=hrs;obtain⟨v,g7,_⟩:=results_run m' fn (.tup []) (by rw [hres];rfl);have key:LeavesInM Fence.wide 0 P fn a'.tmps (λen w'=>∃ v,en = .returned v/\Spo dr B X w w') a'.defers .returning w':=by
  rw [hd];exact⟨v,g7,v,rfl,hsp⟩
 rcases hx with rfl|rfl
 ·exact key
 ·exact key
def rgsOf (B:Nat):List SV->List D->Prop
 | [],[]=>True
 | s::ss,d::ds=>(s = .rg B 1 d∨s = .rg B 2 d∨(s = .d d/\d.flat=true))/\rgsOf B ss ds
 | _,_=>False
theorem ShpC.flat {X Y:Nat->Prop} {w:World} {v:Value} {x:D} (hf:x.flat=true) (h:RepC X w v x):ShpC Y w v x:=(RepC.ofFlat hf h).shp
theorem rgsOf_rel {B:Nat} {X:Nat->Prop} {e:Env} {w:World}:∀ {ss:List SV} {ds:List D} {vs:List Value},rgsOf B ss ds->RelL X e w ss vs->vs.length=ds.length/\∀ j (hj:j<ds.length),∃ u,vs[j]?=some u/\ShpC (lim X B 2) w u ds[j]
 | [],[],[],_,_=>⟨rfl,λj hj=>(nomatch hj)⟩
 | [],[],_::_,_,h=>h.elim
 | [],_::_,_,h,_=>h.elim
 | _::_,[],_,h,_=>h.elim
 | _::_,_::_,[],_,h=>h.elim
 | s::ss,d::ds,v::vs,h,hr=>by
  obtain⟨h1,h2⟩:=rgsOf_rel h.2 hr.2
  refine⟨by simp [h1],λj hj=>?_⟩
  cases j with
  | zero =>
   refine⟨v,rfl,?_⟩
   rcases h.1 with rfl|rfl|⟨rfl,hf⟩
   ·exact RgC.shp (q:=1) hr.1
   ·exact RgC.shp (q:=2) hr.1
   ·exact ShpC.flat hf hr.1
  | succ j=>simpa using h2 j (by simpa using hj)
theorem flatten_at {es:Nat} {α:Type}:∀ (xs:List (List α)),(∀ x∈xs,x.length=es)->∀ i (hi:i<xs.length) j (hj:j<(xs[i]'hi).length),∃ h:i*es+j<xs.flatten.length,xs.flatten[i*es+j]=(xs[i]'hi)[j]
 | [],_,i,hi,_,_=>absurd hi (A6 i)
 | x::xs,hl,i,hi,j,hj=>by
  have hx:x.length=es:=hl x (List.mem_cons_self ..);cases i with
  | zero =>
   simp only [Dl] at hj;refine⟨by simp;omega,?_⟩
   simp only [C7,Nat.zero_mul,Nat.zero_add,Dl];rw [List.getElem_append_left]
  | succ i =>
   simp only [D8] at hj;obtain⟨h1,h2⟩:=flatten_at xs (λy hy=>hl y (List.mem_cons_of_mem _ hy)) i (Nat.lt_of_succ_lt_succ hi) j hj;have he:(i+1)*es+j=x.length+(i*es+j):=by rw [hx,Nat.succ_mul];omega
   refine⟨by simp only [C7,List.length_append];omega,?_⟩
   simp only [C7,D8];rw [List.getElem_append_right (by omega)];simp only [he,Nat.add_sub_cancel_left];exact h2
section
variable {Γ : Ctx} {B : Nat} {k : Nat} {L : Sl} {H : Hp} {Q : d6} {K : ca} {ops : List Oper} {rest : List Oper} {t ty : TypeId}
theorem bel_bs {te es len:Nat} {ps:List (Nat×Operand)} {cs':List SV} (xs:List (List D)) (hg:HasB B L H) (ht:Γ.sh t = .slice te) (hkn:(Γ.sh te).known=true) (hes:Γ.cells te=es) (hpos:As 0 es=true) (hz:ek (aj Γ.τ te).zero=true) (hzl:Aw (aj Γ.τ te).zero.length (Γ.cells te)=true) (hok:jz ps=true)
  (hlen:B6 (len*es) 16777216=true) (hf:nk (λi=>some (i*es,es)) (qt (ly Γ.τ te) (len*es)) (jy L ps)=some cs') (hxs:rgsOf B cs' xs.flatten) (hxl:∀ x∈xs,x.length=es) (hln:xs.length=len) :
  OpBel Γ k L H (.buildSlice t len ps.toArray) ty (.rg B 2 (.slice es xs)):=by
 intro e a w m;have hBw:=hg.le m;obtain⟨vs',f2,f3,hrun⟩:=m9 (ty:=ty) ht hkn hes hpos hz hzl hok hlen hf m;have hbel:=fi Γ.dr w (.cells vs' te);refine⟨_,_,hrun,hbel,Ar hBw hbel.size,?_⟩
 have hlm:len<=maxLen:=by
  have h1:=Ac hlen;have h2:=Ac hpos;have:len<=len*es:=Nat.le_mul_of_pos_right _ h2
  unfold maxLen;omega
 obtain⟨hvl,hvr⟩:=rgsOf_rel hxs f2;have hXw:∀ b,Γ.X e H b->b<w.heap.size:=λb hb=>hb.elim (λh=>Aq (m.obound b h).1 m.size) (m.lt b)
 have hnew:(w.alloc (.cells vs' te)).heap[w.heap.size]?=some (.cells vs' te):=heap_alloc_new w _;have hat:∀ i (hi:i<xs.length) j (hj:j<(xs[i]'hi).length),∃ u,vs'.toList[i*es+j]?=some u/\ShpC (lim (Γ.X e H) B 2) w u (xs[i]'hi)[j]:=by
  intro i hi j hj;obtain⟨h1,h2⟩:=flatten_at xs hxl i hi j hj;obtain⟨u,g1,g2⟩:=hvr _ h1;exact⟨u,g1,h2▸g2⟩
 have hsh:ShpC (lim (Γ.X e H) B 2) (w.alloc (.cells vs' te)) (.slice (some ⟨w.heap.size,0,none⟩) len len) (.slice es xs):=by
  refine .slice (λi j=>(vs'.toList[i*es+j]?).getD undef) hln.symm (Af _) hlm (λhx=>hx.elim (λh=>Nat.lt_irrefl _ (hXw _ h)) (λh=>Nat.not_lt.2 hBw h)) (co hnew) (λi hi=>hxl _ (Ag hi)) (λi hi j hj=>?_) (λi hi j hj=>?_) (λ_ i hi j hj=>k7 hnew)
  ·obtain⟨u,g1,g2⟩:=hat i hi j hj;rw [cell_of_row _ _ _ vs' te (0,0) hnew,g1];simpa using g1
  ·obtain⟨u,g1,g2⟩:=hat i hi j hj;rw [g1];exact ShpC.keep hbel.size (λb hb _=>hbel.block b hb) (λb _ hy=>hy) g2
 exact hsh
theorem dli_bs {te es len d:Nat} {pos:String} {af:Array Edge} {g:Option (Nat×Bool)} {ps:List (Nat×Operand)} {cs':List SV} (xs:List (List D)) (hg:HasB B L []) (ht:Γ.sh t = .slice te) (hkn:(Γ.sh te).known=true) (hes:Γ.cells te=es) (hpos:As 0 es=true) (hz:ek (aj Γ.τ te).zero=true) (hzl:Aw (aj Γ.τ te).zero.length (Γ.cells te)=true) (hok:jz ps=true)
  (hlen:B6 (len*es) 16777216=true) (hf:nk (λi=>some (i*es,es)) (qt (ly Γ.τ te) (len*es)) (jy L ps)=some cs') (hxs:rgsOf B cs' xs.flatten) (hxl:∀ x∈xs,x.length=es) (hln:xs.length=len) (hw:aq ops L g=some true) (hd:As d Γ.n=true)
  (hk:DLi Γ (SpI Γ B) ops rest K k ((d,.rg B 2 (.slice es xs))::L) []):DLi Γ (SpI Γ B) ops (⟨some d,.buildSlice t len ps.toArray,ty,pos,af,g⟩::rest) K k L [] :=
 dli_bel (bel_bs xs hg ht hkn hes hpos hz hzl hok hlen hf hxs hxl hln) hk hw hd
theorem ds_bsB {te es len d:Nat} {pos:String} {af:Array Edge} {g:Option (Nat×Bool)} {ps:List (Nat×Operand)} {cs':List SV} (xs:List (List D)) (hg:HasB B L H) (ht:Γ.sh t = .slice te) (hkn:(Γ.sh te).known=true) (hes:Γ.cells te=es) (hpos:As 0 es=true) (hz:ek (aj Γ.τ te).zero=true) (hzl:Aw (aj Γ.τ te).zero.length (Γ.cells te)=true) (hok:jz ps=true)
  (hlen:B6 (len*es) 16777216=true) (hf:nk (λi=>some (i*es,es)) (qt (ly Γ.τ te) (len*es)) (jy L ps)=some cs') (hxs:rgsOf B cs' xs.flatten) (hxl:∀ x∈xs,x.length=es) (hln:xs.length=len) (hw:aq ops L g=some true) (hd:As d Γ.n=true)
  (hk:DS false Γ ops rest K k ((d,.rg B 2 (.slice es xs))::L) H):DS false Γ ops (⟨some d,.buildSlice t len ps.toArray,ty,pos,af,g⟩::rest) K k L H :=
 ds_bel (bel_bs xs hg ht hkn hes hpos hz hzl hok hlen hf hxs hxl hln) hk hw hd
theorem ev_loadA_rg {ds:List D} {l} {x:Operand} (ht:Γ.sh t = .struct l) (hn:B6 (Γ.cells t) ds.length=true) (hx:ai L x = .rg B 2 (.ptr ds)):Ev Γ k L H (.load t x) ty (.agg ((ds.take (Γ.cells t)).map (.rg B 2))):=by
 intro e a w m;have hn:=Ac hn;have hp:=evT m hx (cSV_rg · _ _ _);obtain⟨hB,hp⟩:=hp;generalize hv:a.eval x=v at hp;have hp:ShpC (lim (Γ.X e H) B 2) w v (.ptr ds):=hp;have ho:Γ.sh t≠.other:=by rw [ht];intro h;cases h
 cases hp with
 | ptr c hX hb hcell hrep hz =>
  rename_i b off;refine⟨.agg ((List.range (Γ.cells t)).map c).toArray,λ_ _ _ _ w' hw=>?_,_,rfl,RelL.mk _ _ (by simp;omega) λi s u hs hu=>?_⟩
  ·have hr:=m8 (Γ:=Γ) (t:=t) (w':=w') (p:=⟨b,off,none⟩) (vs:=(List.range (Γ.cells t)).map c) ho (by rw [ht];rfl) (by simp) (λj u hj=>?_)
   ·simp [execOp,Instr.loadAt,hv,Instr.sureAddr,hr]
   ·rw [Bl] at hj;by_cases hjl:j<Γ.cells t
    ·rw [Ef hjl] at hj;simp only [B3,Option.some.injEq] at hj;rw [Addr.add_at,<- hj];exact f9 hw (hcell j (by omega))
    ·rw [List.getElem?_eq_none (by simp;omega)] at hj;cases hj
  ·rw [Bl,List.getElem?_take] at hs;rw [Bl] at hu;by_cases hil:i<Γ.cells t
   ·rw [if_pos hil,List.getElem?_eq_getElem (show i<ds.length by omega)] at hs;rw [Ef hil] at hu;simp only [B3,Option.some.injEq] at hs hu;subst hs;subst hu;exact⟨hB,hrep i (by omega)⟩
   ·rw [if_neg hil] at hs;cases hs
theorem dwi_lens {I:World->Prop} {c:Code} {es q:Nat} {xs:List (List D)} (t:Nat) (hL:L.get t = .rg B q (.slice es xs)) (hk:Lens xs->DWi Γ I c Q k L H):DWi Γ I c Q k L H:=λe a w m hi=>by
 have hs:=m.slot t
 rw [hL] at hs
 have hs:RgC _ _ _ _ _ _:=hs
 exact hk hs.shp.lens e a w m hi
end
section
variable {Γ : Ctx} {I : World -> Prop} {k : Nat} {L : Sl} {H : Hp} {K : ca} {ops : List Oper} {rest : List Oper} {t t' ty : TypeId} {pos : String} {af : Array Edge} {g : Option (Nat×Bool)} {d : Nat} {B p es : Nat} {x y : Operand}
theorem dlr_len {xs:List (List D)} (hk:DLi Γ I ops rest K k ((d,.d (.int .i64 xs.length))::L) H) (ht:Γ.sh t = .slice t':=by exact rfl) (hx:ai L x = .rg B p (.slice es xs):=by exact rfl) (hw:aq ops L g=some true:=by exact rfl) (hd:As d Γ.n=true:=by exact rfl) :
  DLi Γ I ops (⟨some d,.call { callee:=.builtin .len,args:=#[x],argTypes:=#[t] },ty,pos,af,g⟩::rest) K k L H:=dli_ev (ev_len_rg ht hx) hk hw hd
theorem kq {α:Type} {f:α->List D} {l:List α} {n:Int} {j:Nat} {h1:j<l.length} (hk:DLi Γ I ops rest K k ((d,.rg B 2 (.ptr (f (l[j]'h1))))::L) H) (ht:Γ.sh t = .slice t':=by exact rfl) (hc:Γ.cells t'=es:=by exact rfl) (hkn:(Γ.sh t').known=true:=by exact rfl)
  (hx:ai L x = .rg B 2 (.slice es (l.map f)):=by exact rfl) (hy:ai L y = .d (.int .i64 n):=by exact rfl) (hn:n=j:=by exact rfl) (hw:aq ops L g=some true:=by exact rfl) (hd:As d Γ.n=true:=by exact rfl) :
  DLi Γ I ops (⟨some d,.indexAddr t x y,ty,pos,af,g⟩::rest) K k L H:=dli_ev (ev_index_rgm ht hc hkn hx hy hn h1) hk hw hd
theorem oe {s:TypeId} {f off fty sz:Nat} {l} {ds:List D} (hk:DLi Γ I ops rest K k ((d,.rg B 2 (.ptr (ds.drop off)))::L) H) (hs:Γ.sh s = .struct l:=by exact rfl) (hf:l[f]?=some (off,fty,sz):=by exact rfl) (hz:Aw sz 0=false:=by exact rfl)
  (hx:ai L x = .rg B 2 (.ptr ds):=by exact rfl) (hw:aq ops L g=some true:=by exact rfl) (hd:As d Γ.n=true:=by exact rfl):DLi Γ I ops (⟨some d,.fieldAddr s x f,ty,pos,af,g⟩::rest) K k L H:=dli_ev (ev_field_rg hs hf hz hx) hk hw hd
theorem dlr_load {d0:D} {ds:List D} (hk:DLi Γ I ops rest K k ((d,.rg B 2 d0)::L) H) (hkn:(Γ.sh t).known=true:=by exact rfl) (hg:(Γ.sh t).isAgg=false:=by exact rfl) (hx:ai L x = .rg B 2 (.ptr (d0::ds)):=by exact rfl) (hw:aq ops L g=some true:=by exact rfl) (hd:As d Γ.n=true:=by exact rfl) :
  DLi Γ I ops (⟨some d,.load t x,ty,pos,af,g⟩::rest) K k L H:=dli_ev (ev_load_rg hkn hg hx) hk hw hd
theorem dlr_loadA {ds:List D} {l} (hk:DLi Γ I ops rest K k ((d,.agg ((ds.take (Γ.cells t)).map (.rg B 2)))::L) H) (ht:Γ.sh t = .struct l:=by exact rfl) (hx:ai L x = .rg B 2 (.ptr ds):=by exact rfl) (hn:B6 (Γ.cells t) ds.length=true:=by exact rfl) (hw:aq ops L g=some true:=by exact rfl) (hd:As d Γ.n=true:=by exact rfl) :
  DLi Γ I ops (⟨some d,.load t x,ty,pos,af,g⟩::rest) K k L H:=dli_ev (ev_loadA_rg ht hn hx) hk hw hd
end
open Go
def tab:List (Nat×TI):=[
 (2,⟨.int .i64,1,8,[.int .i64 0],false⟩),
 (3,⟨.int .i64,1,8,[.int .i64 0],false⟩),
 (4,⟨.bool,1,1,[.bool false],false⟩),
 (5,⟨.int .u8,1,1,[.int .u8 0],false⟩),
 (6,⟨.int .u8,1,1,[.int .u8 0],false⟩),
 (7,⟨.struct [(0,2,1),(1,3,1),(2,4,1),(3,6,1)],4,24,[.int .i64 0,.int .i64 0,.bool false,.int .u8 0],true⟩),
 (8,⟨.struct [(0,2,1),(1,3,1),(2,4,1),(3,6,1)],4,24,[.int .i64 0,.int .i64 0,.bool false,.int .u8 0],true⟩),
 (9,⟨.str,1,16,[.string ⟨#[]⟩],false⟩),
 (10,⟨.str,1,16,[.string ⟨#[]⟩],false⟩),
 (11,⟨.str,1,16,[.string ⟨#[]⟩],false⟩),
 (12,⟨.int .u64,1,8,[.int .u64 0],false⟩),
 (13,⟨.struct [(0,9,1),(1,12,1)],2,24,[.string ⟨#[]⟩,.int .u64 0],false⟩),
 (14,⟨.struct [(0,9,1),(1,12,1)],2,24,[.string ⟨#[]⟩,.int .u64 0],false⟩),
 (15,⟨.ptr 334,1,8,[.pointer none],false⟩),
 (16,⟨.ptr 337,1,8,[.pointer none],false⟩),
 (17,⟨.ptr 346,1,8,[.pointer none],false⟩),
 (18,⟨.struct [(0,17,1)],1,8,[.pointer none],false⟩),
 (19,⟨.struct [(0,17,1)],1,8,[.pointer none],false⟩),
 (21,⟨.int .i32,1,4,[.int .i32 0],false⟩),
 (22,⟨.slice 3,1,24,[.slice none 0 0],false⟩),
 (23,⟨.slice 9,1,24,[.slice none 0 0],false⟩),
 (24,⟨.slice 64,1,24,[.slice none 0 0],false⟩),
 (25,⟨.struct [(0,22,1),(1,23,1),(2,24,1)],3,72,[.slice none 0 0,.slice none 0 0,.slice none 0 0],true⟩),
 (26,⟨.struct [(0,22,1),(1,23,1),(2,24,1)],3,72,[.slice none 0 0,.slice none 0 0,.slice none 0 0],true⟩),
 (27,⟨.slice 37,1,24,[.slice none 0 0],false⟩),
 (28,⟨.slice 39,1,24,[.slice none 0 0],false⟩),
 (30,⟨.int .i64,1,8,[.int .i64 0],false⟩),
 (36,⟨.struct [(0,3,1),(1,22,1)],2,32,[.int .i64 0,.slice none 0 0],true⟩),
 (37,⟨.struct [(0,3,1),(1,22,1)],2,32,[.int .i64 0,.slice none 0 0],true⟩),
 (38,⟨.struct [(0,37,2),(2,3,1),(3,22,1)],4,64,[.int .i64 0,.slice none 0 0,.int .i64 0,.slice none 0 0],true⟩),
 (39,⟨.struct [(0,37,2),(2,3,1),(3,22,1)],4,64,[.int .i64 0,.slice none 0 0,.int .i64 0,.slice none 0 0],true⟩),
 (44,⟨.slice 22,1,24,[.slice none 0 0],false⟩),
 (48,⟨.struct [(0,27,1),(1,27,1)],2,48,[.slice none 0 0,.slice none 0 0],true⟩),
 (49,⟨.struct [(0,27,1),(1,27,1)],2,48,[.slice none 0 0,.slice none 0 0],true⟩),
 (59,⟨.slice 27,1,24,[.slice none 0 0],false⟩),
 (61,⟨.slice 66,1,24,[.slice none 0 0],false⟩),
 (62,⟨.slice 68,1,24,[.slice none 0 0],false⟩),
 (63,⟨.struct [(0,3,1),(1,61,1),(2,3,1),(3,62,1),(4,3,1)],5,72,[.int .i64 0,.slice none 0 0,.int .i64 0,.slice none 0 0,.int .i64 0],true⟩),
 (64,⟨.struct [(0,3,1),(1,61,1),(2,3,1),(3,62,1),(4,3,1)],5,72,[.int .i64 0,.slice none 0 0,.int .i64 0,.slice none 0 0,.int .i64 0],true⟩),
 (65,⟨.struct [(0,3,1),(1,3,1)],2,16,[.int .i64 0,.int .i64 0],true⟩),
 (66,⟨.struct [(0,3,1),(1,3,1)],2,16,[.int .i64 0,.int .i64 0],true⟩),
 (67,⟨.struct [(0,3,1),(1,3,1),(2,3,1),(3,61,1)],4,48,[.int .i64 0,.int .i64 0,.int .i64 0,.slice none 0 0],true⟩),
 (68,⟨.struct [(0,3,1),(1,3,1),(2,3,1),(3,61,1)],4,48,[.int .i64 0,.int .i64 0,.int .i64 0,.slice none 0 0],true⟩),
 (70,⟨.slice 82,1,24,[.slice none 0 0],false⟩),
 (71,⟨.struct [(0,70,1),(1,70,1)],2,48,[.slice none 0 0,.slice none 0 0],true⟩),
 (72,⟨.struct [(0,70,1),(1,70,1)],2,48,[.slice none 0 0,.slice none 0 0],true⟩),
 (74,⟨.slice 49,1,24,[.slice none 0 0],false⟩),
 (78,⟨.struct [(0,3,1),(1,3,1)],2,16,[.int .i64 0,.int .i64 0],true⟩),
 (79,⟨.struct [(0,3,1),(1,3,1)],2,16,[.int .i64 0,.int .i64 0],true⟩),
 (80,⟨.slice 79,1,24,[.slice none 0 0],false⟩),
 (81,⟨.struct [(0,79,2),(2,80,1),(3,27,1),(4,80,1)],5,88,[.int .i64 0,.int .i64 0,.slice none 0 0,.slice none 0 0,.slice none 0 0],true⟩),
 (82,⟨.struct [(0,79,2),(2,80,1),(3,27,1),(4,80,1)],5,88,[.int .i64 0,.int .i64 0,.slice none 0 0,.slice none 0 0,.slice none 0 0],true⟩),
 (95,⟨.slice 4,1,24,[.slice none 0 0],false⟩),
 (96,⟨.ptr 98,1,8,[.pointer none],false⟩),
 (97,⟨.struct [(0,26,3),(3,27,1),(4,27,1)],5,120,[.slice none 0 0,.slice none 0 0,.slice none 0 0,.slice none 0 0,.slice none 0 0],true⟩),
 (98,⟨.struct [(0,26,3),(3,27,1),(4,27,1)],5,120,[.slice none 0 0,.slice none 0 0,.slice none 0 0,.slice none 0 0,.slice none 0 0],true⟩),
 (100,⟨.slice 187,1,24,[.slice none 0 0],false⟩),
 (125,⟨.ptr 127,1,8,[.pointer none],false⟩),
 (126,⟨.struct [(0,26,3),(3,100,1),(4,28,1)],5,120,[.slice none 0 0,.slice none 0 0,.slice none 0 0,.slice none 0 0,.slice none 0 0],true⟩),
 (127,⟨.struct [(0,26,3),(3,100,1),(4,28,1)],5,120,[.slice none 0 0,.slice none 0 0,.slice none 0 0,.slice none 0 0,.slice none 0 0],true⟩),
 (132,⟨.ptr 136,1,8,[.pointer none],false⟩),
 (135,⟨.struct [(0,72,2),(2,26,3),(5,27,1)],6,144,[.slice none 0 0,.slice none 0 0,.slice none 0 0,.slice none 0 0,.slice none 0 0,.slice none 0 0],true⟩),
 (136,⟨.struct [(0,72,2),(2,26,3),(5,27,1)],6,144,[.slice none 0 0,.slice none 0 0,.slice none 0 0,.slice none 0 0,.slice none 0 0,.slice none 0 0],true⟩),
 (166,⟨.ptr 168,1,8,[.pointer none],false⟩),
 (167,⟨.struct [(0,64,5),(5,27,1),(6,22,1),(7,95,1),(8,3,1),(9,44,1)],10,176,[.int .i64 0,.slice none 0 0,.int .i64 0,.slice none 0 0,.int .i64 0,.slice none 0 0,.slice none 0 0,.slice none 0 0,.int .i64 0,.slice none 0 0],true⟩),
 (168,⟨.struct [(0,64,5),(5,27,1),(6,22,1),(7,95,1),(8,3,1),(9,44,1)],10,176,[.int .i64 0,.slice none 0 0,.int .i64 0,.slice none 0 0,.int .i64 0,.slice none 0 0,.slice none 0 0,.slice none 0 0,.int .i64 0,.slice none 0 0],true⟩),
 (172,⟨.slice 174,1,24,[.slice none 0 0],false⟩),
 (174,⟨.ptr 176,1,8,[.pointer none],false⟩),
 (175,⟨.struct [(0,22,1),(1,22,1)],2,48,[.slice none 0 0,.slice none 0 0],true⟩),
 (176,⟨.struct [(0,22,1),(1,22,1)],2,48,[.slice none 0 0,.slice none 0 0],true⟩),
 (187,⟨.struct [(0,37,2),(2,3,1),(3,22,1)],4,64,[.int .i64 0,.slice none 0 0,.int .i64 0,.slice none 0 0],true⟩),
 (196,⟨.ptr 72,1,8,[.pointer none],false⟩),
 (204,⟨.ptr 206,1,8,[.pointer none],false⟩),
 (205,⟨.struct [(0,26,3),(3,27,1),(4,100,1)],5,120,[.slice none 0 0,.slice none 0 0,.slice none 0 0,.slice none 0 0,.slice none 0 0],true⟩),
 (206,⟨.struct [(0,26,3),(3,27,1),(4,100,1)],5,120,[.slice none 0 0,.slice none 0 0,.slice none 0 0,.slice none 0 0,.slice none 0 0],true⟩),
 (213,⟨.struct [(0,64,5),(5,27,1),(6,44,1),(7,4,1)],8,128,[.int .i64 0,.slice none 0 0,.int .i64 0,.slice none 0 0,.int .i64 0,.slice none 0 0,.slice none 0 0,.bool false],true⟩),
 (214,⟨.struct [(0,64,5),(5,27,1),(6,44,1),(7,4,1)],8,128,[.int .i64 0,.slice none 0 0,.int .i64 0,.slice none 0 0,.int .i64 0,.slice none 0 0,.slice none 0 0,.bool false],true⟩),
 (223,⟨.int .u64,1,8,[.int .u64 0],false⟩),
 (252,⟨.ptr 214,1,8,[.pointer none],false⟩),
 (256,⟨.slice 62,1,24,[.slice none 0 0],false⟩),
 (260,⟨.int .i64,1,8,[.int .i64 0],false⟩),
 (267,⟨.int .u32,1,4,[.int .u32 0],false⟩),
 (269,⟨.int .u64,1,8,[.int .u64 0],false⟩),
 (275,⟨.slice 70,1,24,[.slice none 0 0],false⟩),
 (277,⟨.map 79 3,1,8,[.map none],false⟩),
 (295,⟨.int .u64,1,8,[.int .u64 0],false⟩),
 (299,⟨.ptr 3,1,8,[.pointer none],false⟩),
 (304,⟨.ptr 306,1,8,[.pointer none],false⟩),
 (305,⟨.struct [(0,70,1),(1,277,1)],2,32,[.slice none 0 0,.map none],true⟩),
 (306,⟨.struct [(0,70,1),(1,277,1)],2,32,[.slice none 0 0,.map none],true⟩),
 (310,⟨.ptr 295,1,8,[.pointer none],false⟩),
 (313,⟨.slice 80,1,24,[.slice none 0 0],false⟩),
 (315,⟨.slice 319,1,24,[.slice none 0 0],false⟩),
 (318,⟨.struct [(0,3,1),(1,3,1),(2,9,1)],3,32,[.int .i64 0,.int .i64 0,.string ⟨#[]⟩],true⟩),
 (319,⟨.struct [(0,3,1),(1,3,1),(2,9,1)],3,32,[.int .i64 0,.int .i64 0,.string ⟨#[]⟩],true⟩),
 (321,⟨.ptr 323,1,8,[.pointer none],false⟩),
 (322,⟨.struct [(0,9,1),(1,3,1)],2,24,[.string ⟨#[]⟩,.int .i64 0],true⟩),
 (323,⟨.struct [(0,9,1),(1,3,1)],2,24,[.string ⟨#[]⟩,.int .i64 0],true⟩),
 (333,⟨.struct [(0,17,1),(1,17,1),(2,17,1),(3,9,1)],4,40,[.pointer none,.pointer none,.pointer none,.string ⟨#[]⟩],false⟩),
 (334,⟨.struct [(0,17,1),(1,17,1),(2,17,1),(3,9,1)],4,40,[.pointer none,.pointer none,.pointer none,.string ⟨#[]⟩],false⟩),
 (336,⟨.struct [(0,335,0)],0,0,[],false⟩),
 (337,⟨.struct [(0,335,0)],0,0,[],false⟩),
 (339,⟨.int .u8,1,1,[.int .u8 0],false⟩),
 (340,⟨.int .u8,1,1,[.int .u8 0],false⟩),
 (342,⟨.ptr 5,1,8,[.pointer none],false⟩),
 (343,⟨.int .i32,1,4,[.int .i32 0],false⟩),
 (344,⟨.int .i32,1,4,[.int .i32 0],false⟩),
 (345,⟨.struct [(0,12,1),(1,12,1),(2,267,1),(3,339,1),(4,5,1),(5,5,1),(6,340,1),(7,341,1),(8,342,1),(9,343,1),(10,344,1)],11,48,[.int .u64 0,.int .u64 0,.int .u32 0,.int .u8 0,.int .u8 0,.int .u8 0,.int .u8 0,.nilFunc,.pointer none,.int .i32 0,.int .i32 0],false⟩),
 (346,⟨.struct [(0,12,1),(1,12,1),(2,267,1),(3,339,1),(4,5,1),(5,5,1),(6,340,1),(7,341,1),(8,342,1),(9,343,1),(10,344,1)],11,48,[.int .u64 0,.int .u64 0,.int .u32 0,.int .u8 0,.int .u8 0,.int .u8 0,.int .u8 0,.nilFunc,.pointer none,.int .i32 0,.int .i32 0],false⟩)]
theorem bp:dc Tryz.prog tab:=by
 unfold dc;kernel_rfl
variable [Bnds]
def gi (c:UInt8):Bool:=decide ((97:Int)<=c.toNat) && decide ((c.toNat:Int)<=122)
def ju (c:UInt8):Bool:=decide ((65:Int)<=c.toNat) && decide ((c.toNat:Int)<=90)
def ct (c:UInt8):Bool:=decide ((48:Int)<=c.toNat) && decide ((c.toNat:Int)<=57)
def eu (c:UInt8):Bool:=gi c || ju c
def d5 (c:UInt8):Bool:=eu c || ct c
def dh (p:UInt8->Bool):List UInt8->Nat
 | []=>0
 | c::l=>if p c then dh p l+1 else 0
theorem vx (p:UInt8->Bool):∀ l,dh p l<=l.length
 | []=>Af _
 | c::l=>by
  unfold dh
  have:=vx p l
  split<;>simp<;>omega
theorem tk (p:UInt8->Bool) (l:List UInt8) (i:Nat) (h:i<l.length) (hp:p l[i]=true):dh p (l.drop i)=dh p (l.drop (i+1))+1:=by
 rw [Ao h,dh,if_pos hp]
theorem takeW_stop (p:UInt8->Bool) (l:List UInt8) (i:Nat) (h:i<l.length) (hp:p l[i]=false):dh p (l.drop i)=0:=by
 rw [Ao h,dh,if_neg (by rw [hp];exact C0)]
theorem takeW_end (p:UInt8->Bool) (l:List UInt8) (i:Nat) (h:l.length<=i):dh p (l.drop i)=0:=by
 rw [Ax h];rfl
def signs:List UInt8:=[40,41,44,46,60,61,43,45,42]
def mh:List UInt8->Bool
 | a::b::_=>(a == 58 && b == 45) || (a == 60 && b == 61) || (a == 33 && b == 61)
 | _=>false
def cb:List UInt8->Int×Nat
 | []=>(0,0)
 | c::l=>if eu c then (if gi c then 1 else 2,1+dh d5 l)
  else if ct c then (3,1+dh ct l)
  else if mh (c::l) then (4,2)
  else if signs.contains c then (4,1)
  else (0,0)
structure Tok where
 kind:Int
 at_:Int
 text:ByteArray
def sameAll {α:Type} (p:α->α->Bool):List α->List α->Bool
 | [],[]=>true
 | x::xs,y::ys=>p x y && sameAll p xs ys
 | _,_=>false
def Tok.same (at_:Bool) (x y:Tok):Bool:=decide (x.kind=y.kind) && decide (x.text=y.text) && (!at_ || decide (x.at_=y.at_))
theorem ey (c:UInt8) (l:List UInt8):cb (c::l)=(if eu c then (if gi c then 1 else 2,1+dh d5 l)
  else if ct c then (3,1+dh ct l)
  else if mh (c::l) then (4,2)
  else if signs.contains c then (4,1)
  else (0,0)):=rfl
theorem tokAt_le (l:List UInt8):(cb l).2<=l.length:=by
 cases l with
 | nil=>simp [cb]
 | cons c l =>
  have h1:=vx d5 l;have h2:=vx ct l;rw [ey];by_cases a:eu c=true
  ·rw [if_pos a];simp only [Bn];omega
  ·rw [if_neg a];by_cases b:ct c=true
   ·rw [if_pos b];simp only [Bn];omega
   ·rw [if_neg b];by_cases d:mh (c::l)=true
    ·rw [if_pos d];cases l with
     | nil=>simp [mh] at d
     | cons b l=>simp
    ·rw [if_neg d];by_cases e:signs.contains c=true
     ·rw [if_pos e];simp
     ·rw [if_neg e];simp
theorem tokAt_pos (l:List UInt8) (h:(cb l).1≠0):1<=(cb l).2:=by
 cases l with
 | nil=>simp [cb] at h
 | cons c l =>
  rw [ey] at h ⊢;by_cases a:eu c=true
  ·rw [if_pos a];simp
  ·rw [if_neg a] at h ⊢;by_cases b:ct c=true
   ·rw [if_pos b];simp
   ·rw [if_neg b] at h ⊢;by_cases d:mh (c::l)=true
    ·rw [if_pos d];simp
    ·rw [if_neg d] at h ⊢;by_cases e:signs.contains c=true
     ·rw [if_pos e];simp
     ·rw [if_neg e] at h;simp at h
def ea (kind:Int) (n:Nat) (c:UInt8):Int :=
 if kind=0 then 1
 else if ((kind=1∨kind=2)/\12<n)∨(kind=3/\7<n) then 2
 else if kind=3/\1<n/\c=48 then 1
 else 0
def gj (s:ByteArray):Nat->Bool->Nat->Except (Int×Int) (List Tok)
 | 0,_,_=>.ok []
 | f+1,note,i =>
  if h:i<s.size then
   if note || s[i] == 37 then gj s f (s[i] != 10) (i+1)
   else if s[i] == 32 || s[i] == 9 || s[i] == 10 then gj s f false (i+1)
   else
    let q:=cb (s.data.toList.drop i)
    if ea q.1 q.2 s[i]=0 then (gj s f false (i+q.2)).map (Tok.mk q.1 i (s.extract i (i+q.2))::·)
    else .error (i,ea q.1 q.2 s[i])
  else .ok []
theorem scanGo_fuel (s:ByteArray):∀ (f g:Nat) (note:Bool) (i:Nat),s.size-i<=f->s.size-i<=g->gj s f note i=gj s g note i:=by
 intro f;induction f with
 | zero =>
  intro g note i h1 h2;cases g with
  | zero=>rfl
  | succ g=>simp only [gj];rw [dif_neg (by omega)]
 | succ f ih =>
  intro g note i h1 h2;cases g with
  | zero=>simp only [gj];rw [dif_neg (by omega)]
  | succ g =>
   simp only [gj];by_cases h:i<s.size
   ·rw [dif_pos h,dif_pos h];split
    ·exact ih g _ _ (by omega) (by omega)
    ·split
     ·exact ih g _ _ (by omega) (by omega)
     ·split
      ·rename_i he;have hk:(cb (s.data.toList.drop i)).1≠0:=λh0=>by simp [ea,h0] at he
       have:=tokAt_pos _ hk
       rw [ih g _ _ (by omega) (by omega)]
      ·rfl
   ·rw [dif_neg h,dif_neg h]
def cn (s:ByteArray) (note:Bool) (i:Nat):Except (Int×Int) (List Tok):=gj s (s.size-i) note i
theorem tr (s:ByteArray) (note:Bool) (i:Nat) (h:s.size<=i):cn s note i = .ok []:=by
 unfold cn;rw [show s.size-i=0 by omega];rfl
theorem scanAt_note (s:ByteArray) (note:Bool) (i:Nat) (h:i<s.size) (hn:(note || s[i] == 37)=true):cn s note i=cn s (s[i] != 10) (i+1):=by
 unfold cn;rw [show s.size-i=(s.size-(i+1))+1 by omega,gj,dif_pos h,if_pos hn]
theorem scanAt_blank (s:ByteArray) (i:Nat) (h:i<s.size) (hn:(s[i] == 37)=false) (hb:(s[i] == 32 || s[i] == 9 || s[i] == 10)=true):cn s false i=cn s false (i+1):=by
 unfold cn;rw [show s.size-i=(s.size-(i+1))+1 by omega,gj,dif_pos h,if_neg (by simp [hn]),if_pos hb]
theorem scanAt_err (s:ByteArray) (i:Nat) (h:i<s.size) (hn:(s[i] == 37)=false) (hb:(s[i] == 32 || s[i] == 9 || s[i] == 10)=false) (he:ea (cb (s.data.toList.drop i)).1 (cb (s.data.toList.drop i)).2 s[i]≠0) :
  cn s false i = .error (i,ea (cb (s.data.toList.drop i)).1 (cb (s.data.toList.drop i)).2 s[i]):=by
 unfold cn;rw [show s.size-i=(s.size-(i+1))+1 by omega,gj,dif_pos h,if_neg (by simp [hn]),if_neg (by simp [hb])];exact if_neg he
theorem scanAt_tok (s:ByteArray) (i:Nat) (h:i<s.size) (hn:(s[i] == 37)=false) (hb:(s[i] == 32 || s[i] == 9 || s[i] == 10)=false) (he:ea (cb (s.data.toList.drop i)).1 (cb (s.data.toList.drop i)).2 s[i]=0) :
  cn s false i=(cn s false (i+(cb (s.data.toList.drop i)).2)).map (Tok.mk (cb (s.data.toList.drop i)).1 i (s.extract i (i+(cb (s.data.toList.drop i)).2))::·):=by
 have hk:(cb (s.data.toList.drop i)).1≠0:=λh0=>by simp [ea,h0] at he
 have:=tokAt_pos _ hk
 unfold cn;rw [scanGo_fuel s (s.size-i) ((s.size-(i+1))+1) false i (Af _) (by omega)];rw [gj,dif_pos h,if_neg (by simp [hn]),if_neg (by simp [hb])];show (if _ then _ else _)=_;rw [if_pos he,scanGo_fuel s (s.size-(i+1)) (s.size-(i+(cb (s.data.toList.drop i)).2)) false _ (by omega) (Af _)]
def vf (s:ByteArray):List Tok×Int×Int :=
 if 5000<s.size then ([],0,2) else match cn s false 0 with
  | .ok l=>(l,0,0)
  | .error (p,e)=>([],p,e)
attribute [irreducible] gi ju ct eu d5 mh dh cb ea gj cn vf sameAll Tok.same
variable [Bnds]
def encTok (t:Tok):List D:=[.int .i64 t.kind,.int .i64 t.at_,.str t.text]
def encToks (l:List Tok):D:=.slice 3 (l.map encTok)
abbrev FnD (dr:Bool) (f:FuncId) (args:List SV) (R:SV->Prop):Prop:=FnP dr Tryz.prog tab bp f args R
abbrev Fn (f:FuncId) (args:List SV) (R:SV->Prop):Prop:=FnP false Tryz.prog tab bp f args R
theorem oh (s:ByteArray) (i:Nat) (h:i<s.size):s.data.toList[i]'(by simpa using h)=s[i]'h:=by simp [ByteArray.getElem_eq_getElem_data]
variable [Bnds]
structure UId where
 author:Int
 number:Int
structure Fct where
 pred:Int
 args:List Int
structure Upd where
 id:UId
 parents:List UId
 says:List Fct
 takes:List UId
def i4 (a b:Int):Int:=if a<b then -1 else if b<a then 1 else 0
def dj:List Int->List Int->Int
 | [],[]=>0
 | [],_::_=>-1
 | _::_,[]=>1
 | a::l,b::m=>if i4 a b=0 then dj l m else i4 a b
def cu (a b:Fct):Int:=if i4 a.pred b.pred=0 then dj a.args b.args else i4 a.pred b.pred
def inR (n a b:Int):Bool:=decide (a<=n) && decide (n<=b)
def numB (n:Int):Bool:=inR n (-1000000) 1000000
def UId.same (a b:UId):Bool:=decide (a.author=b.author) && decide (a.number=b.number)
def putN (n:Nat):Nat->List UInt8
 | 0=>[]
 | k+1=>UInt8.ofNat n::putN (n / 256) k
def put (n:Int) (k:Nat):List UInt8:=putN (n % 4294967296).toNat k
def d7 {α:Type} (p:α->α->Bool):List α->List α->Bool
 | [],[]=>true
 | x::xs,y::ys=>p x y && d7 p xs ys
 | _,_=>false
def Fct.same (x y:Fct):Bool:=decide (cu x y=0)
def Upd.same (a b:Upd):Bool:=a.id.same b.id && (d7 UId.same a.parents b.parents && (d7 Fct.same a.says b.says && d7 UId.same a.takes b.takes))
theorem cmpI_self (a:Int):i4 a a=0:=by unfold i4;rw [if_neg (by omega),if_neg (by omega)]
theorem qc {a b:Int} (h:i4 a b=0):a=b:=by
 unfold i4 at h;split at h
 ·cases h
 ·split at h
  ·cases h
  ·omega
theorem ordL_self:∀ l:List Int,dj l l=0
 | []=>rfl
 | a::l=>by unfold dj;rw [if_pos (cmpI_self a)];exact ordL_self l
theorem js (f:Fct):cu f f=0:=by unfold cu;rw [if_pos (cmpI_self _)];exact ordL_self _
theorem ny {α:Type} {p:α->α->Bool} (hp:∀ x,p x x=true):∀ l,d7 p l l=true
 | []=>rfl
 | x::l=>by unfold d7;rw [hp x,ny hp l];rfl
theorem UId.same_refl (a:UId):a.same a=true:=by unfold UId.same;simp
theorem Upd.same_refl (u:Upd):u.same u=true:=by
 unfold Upd.same;rw [UId.same_refl,ny UId.same_refl,ny UId.same_refl,ny λx=>by unfold Fct.same;simp [js]];rfl
theorem sameL_drop {α:Type} (p:α->α->Bool) (xs ys:List α) (k:Nat) (h1:k<xs.length) (h2:k<ys.length) :
  d7 p (xs.drop k) (ys.drop k)=(p xs[k] ys[k] && d7 p (xs.drop (k+1)) (ys.drop (k+1))):=by
 rw [Ao h1,Ao h2];rfl
theorem sameL_end {α:Type} (p:α->α->Bool) (xs ys:List α) (k:Nat) (h1:xs.length<=k) (h2:ys.length<=k) :
  d7 p (xs.drop k) (ys.drop k)=true:=by
 rw [Ax h1,Ax h2];rfl
theorem yo {α:Type} (p:α->α->Bool):∀ (xs ys:List α),xs.length≠ys.length->d7 p xs ys=false
 | [],[],h=>absurd rfl h
 | [],_::_,_=>rfl
 | _::_,[],_=>rfl
 | x::xs,y::ys,h=>by rw [d7,yo p xs ys (λe=>h (by simp [e])),Bool.and_false]
variable [Bnds]
def n9 {α:Type} (p:α->Bool) (l:List α):Int:=match l.findIdx? p with
 | some i=>i
 | none=>-1
theorem j8 {α:Type} {p:α->Bool} {l:List α} {i:Nat} (h:∀ j (hj:j<l.length),j<i->p l[j]=false) (hi:i<l.length) (hp:p l[i]=true):n9 p l=i:=by
 unfold n9;have:l.findIdx? p=some i:=by
  rw [Ep];exact⟨hi,hp,λj hj=>by simpa using h j (by omega) hj⟩
 rw [this]
theorem iy {α:Type} {p:α->Bool} {l:List α} (h:∀ j (hj:j<l.length),p l[j]=false):n9 p l = -1:=by
 unfold n9;have:l.findIdx? p=none:=by
  rw [Fh];intro x hx;obtain⟨i,hi,rfl⟩:=List.mem_iff_getElem.1 hx;exact h i hi
 rw [this]
theorem qu {α:Type} (p:α->Bool) (l:List α):decide (n9 p l ≥ 0)=l.any p:=by
 unfold n9;cases h:l.findIdx? p with
 | none =>
  rw [Fh] at h;have:l.any p=false:=by
   rw [List.any_eq_false];intro x hx;rw [h x hx];exact C0
  rw [this];rfl
 | some i =>
  rw [Ep] at h;obtain⟨hi,hp,_⟩:=h;have:l.any p=true:=List.any_eq_true.2 ⟨l[i],Ag hi,hp⟩
  rw [this];exact decide_eq_true (by show (0:Int)<=(i:Int);omega)
theorem jt {α:Type} {p:α->Bool} {l:List α} {i:Nat} (h:∀ j (hj:j<l.length),j<i->p l[j]=false) (hi:i<l.length) (hp:p l[i]=false):∀ j (hj:j<l.length),j<i+1->p l[j]=false:=by
 intro j hj hlt;by_cases he:j=i
 ·subst he;exact hp
 ·exact h j hj (by omega)
variable [Bnds]
attribute [local irreducible] DW DS DL DQ Ev FnOk FnP dp bh DT
def ah (n:Int):List D:=[.int .i64 n]
def aa (f:Fct):List D:=[.int .i64 f.pred,.slice 1 (f.args.map ah)]
abbrev elI (n:Int):SV:=.d (.int .i64 n)
abbrev c9 (f:Fct):SV:=.agg [.d (.int .i64 f.pred),.d (.slice 1 (f.args.map ah))]
theorem indexFuncFct_fn {f:FuncId} {caps:List SV} (p:Fct->Bool) (l:List (Fct)) (hcap:SV.lowL 0 caps=true) (hp:∀ x∈l,Fn f (c9 x::caps) (λr=>r = .d (.bool (p x)))):Fn 157 [.d (.slice 2 (l.map aa)),.fn f caps] (λr=>r = .d (.int .i64 (n9 p l))):=by
 refine fqE Tryz.func157 ?_;intro O w0 E0 β0;refine c8 (t:=0) rfl λhb=>?_
 repeat' (first|refine zs ?_|fail)
 refine ak (ι:=Nat) (λi=>⟨0,[(0,.d (.slice 2 (l.map aa))),(1,.fn f caps),(7,.d (.int .i64 l.length)),(8,.d (.int .i64 i))],[]⟩)
  (λi=>i<=l.length/\∀ j (hj:j<l.length),j<i->p l[j]=false) (λi=>l.length-i) 0 ⟨Ai _,λj _ h=>absurd h (A6 j)⟩
  (ag id ⟨rfl,congrArg (SV.fn f) (SV.renL_id caps).symm,by simp;rfl,rfl,trivial⟩ trivial (by simp [Sl.low,SV.low,hcap]) rfl rfl rfl rfl rfl) ?_
 rintro i ⟨h1,h2⟩;repeat' (first|refine zs ?_|fail)
 refine bi rfl (λh=>?_) (λh=>?_)
 ·have hi:i<l.length:=by omega
  have hpx:=hp l[i] (Ag hi);repeat' (first|refine zs ?_|(apply jp;exact rfl;exact rfl;exact rfl;exact rfl;apply hpx;exact rfl;(assumption);exact rfl;rintro _ rfl))
  refine ff rfl (λhb=>?_) (λhb=>?_)
  ·repeat' (first|refine zr ?_|fail)
   exact br rfl (j8 h2 hi hb).symm
  ·repeat' (first|refine zs ?_|fail)
   exact⟨i+1,⟨hi,jt h2 hi hb⟩,ag id ⟨rfl,congrArg (SV.fn f) (SV.renL_id caps).symm,rfl,rfl,trivial⟩ trivial (by simp [Sl.low,SV.low,hcap]) rfl rfl rfl rfl rfl,by omega⟩
 ·repeat' (first|refine zr ?_|fail)
  exact br rfl (iy λj hj=>h2 j hj (by omega)).symm
theorem indexFuncInt_fn {f:FuncId} {caps:List SV} (p:Int->Bool) (l:List (Int)) (hcap:SV.lowL 0 caps=true) (hp:∀ x∈l,Fn f (elI x::caps) (λr=>r = .d (.bool (p x)))):Fn 175 [.d (.slice 1 (l.map ah)),.fn f caps] (λr=>r = .d (.int .i64 (n9 p l))):=by
 refine fqE Tryz.func175 ?_;intro O w0 E0 β0;refine c8 (t:=0) rfl λhb=>?_
 repeat' (first|refine zs ?_|fail)
 refine ak (ι:=Nat) (λi=>⟨0,[(0,.d (.slice 1 (l.map ah))),(1,.fn f caps),(7,.d (.int .i64 l.length)),(8,.d (.int .i64 i))],[]⟩)
  (λi=>i<=l.length/\∀ j (hj:j<l.length),j<i->p l[j]=false) (λi=>l.length-i) 0 ⟨Ai _,λj _ h=>absurd h (A6 j)⟩
  (ag id ⟨rfl,congrArg (SV.fn f) (SV.renL_id caps).symm,by simp;rfl,rfl,trivial⟩ trivial (by simp [Sl.low,SV.low,hcap]) rfl rfl rfl rfl rfl) ?_
 rintro i ⟨h1,h2⟩;repeat' (first|refine zs ?_|fail)
 refine bi rfl (λh=>?_) (λh=>?_)
 ·have hi:i<l.length:=by omega
  have hpx:=hp l[i] (Ag hi);repeat' (first|refine zs ?_|(apply jp;exact rfl;exact rfl;exact rfl;exact rfl;apply hpx;exact rfl;(assumption);exact rfl;rintro _ rfl))
  refine ff rfl (λhb=>?_) (λhb=>?_)
  ·repeat' (first|refine zr ?_|fail)
   exact br rfl (j8 h2 hi hb).symm
  ·repeat' (first|refine zs ?_|fail)
   exact⟨i+1,⟨hi,jt h2 hi hb⟩,ag id ⟨rfl,congrArg (SV.fn f) (SV.renL_id caps).symm,rfl,rfl,trivial⟩ trivial (by simp [Sl.low,SV.low,hcap]) rfl rfl rfl rfl rfl,by omega⟩
 ·repeat' (first|refine zr ?_|fail)
  exact br rfl (iy λj hj=>h2 j hj (by omega)).symm
theorem containsFuncFct_fn {f:FuncId} {caps:List SV} (p:Fct->Bool) (l:List (Fct)) (hcap:SV.lowL 0 caps=true) (hp:∀ x∈l,Fn f (c9 x::caps) (λr=>r = .d (.bool (p x)))):Fn 106 [.d (.slice 2 (l.map aa)),.fn f caps] (λr=>r = .d (.bool (l.any p))):=by
 refine fqE Tryz.func106 ?_;intro O w0 E0 β0;have hx:=indexFuncFct_fn p l hcap hp;have hlow:SV.lowL 0 [.d (.slice 2 (l.map aa)),.fn f caps]=true:=by simp [SV.lowL,SV.low,hcap]
 repeat' (first|refine zr ?_|refine z21 ?_ (hc:=by apply hx)|fail)
 exact cm rfl (qu p l)
theorem containsFuncInt_fn {f:FuncId} {caps:List SV} (p:Int->Bool) (l:List (Int)) (hcap:SV.lowL 0 caps=true) (hp:∀ x∈l,Fn f (elI x::caps) (λr=>r = .d (.bool (p x)))):Fn 126 [.d (.slice 1 (l.map ah)),.fn f caps] (λr=>r = .d (.bool (l.any p))):=by
 refine fqE Tryz.func126 ?_;intro O w0 E0 β0;have hx:=indexFuncInt_fn p l hcap hp;have hlow:SV.lowL 0 [.d (.slice 1 (l.map ah)),.fn f caps]=true:=by simp [SV.lowL,SV.low,hcap]
 repeat' (first|refine zr ?_|refine z21 ?_ (hc:=by apply hx)|fail)
 exact cm rfl (qu p l)
variable [Bnds]
theorem isNaN_fnD (dr:Bool) (a:Int):FnD dr 156 [.d (.int .i64 a)] (λr=>r = .d (.bool false)):=by
 refine fqE Tryz.func156 ?_;intro O w0 E0 β0;repeat' (first|refine zr ?_|fail)
 exact cm rfl (by simp)
theorem compare_fnD (dr:Bool) (a b:Int):FnD dr 104 [.d (.int .i64 a),.d (.int .i64 b)] (λr=>r = .d (.int .i64 (i4 a b))):=by
 refine fqE Tryz.func104 ?_;intro O w0 E0 β0;repeat' (first|refine zr ?_|refine z21 ?_ (hc:=by apply isNaN_fnD)|(refine zm ?_ ?_<;>intro hg)|fail)
 all_goals exact br rfl (by unfold i4;simp [*])
def orL:List Int->Int
 | []=>0
 | a::l=>if a=0 then orL l else a
theorem or_fnD (dr:Bool) (l:List Int):FnD dr 103 [.d (.slice 1 (l.map ah))] (λr=>r = .d (.int .i64 (orL l))):=by
 refine fqE Tryz.func103 ?_;intro O w0 E0 β0;refine c8 (t:=0) rfl λhb=>?_
 repeat' (first|refine zs ?_|fail)
 refine ak (ι:=Nat) (λi=>⟨0,[(3,.d (.int .i64 0)),(6,.d (.slice 1 (l.map ah))),(7,.d (.int .i64 l.length)),(8,.d (.int .i64 i))],[]⟩)
  (λi=>i<=l.length/\orL l=orL (l.drop i)) (λi=>l.length-i) 0 ⟨Ai _,rfl⟩
  (ag id ⟨rfl,rfl,by simp;rfl,rfl,trivial⟩ trivial rfl rfl rfl rfl rfl rfl) ?_
 rintro i ⟨h1,h2⟩;repeat' (first|refine zs ?_|fail)
 refine bi rfl (λh=>?_) (λh=>?_)
 ·have hi:i<l.length:=by omega
  have hd:=Ao hi;repeat' (first|refine zs ?_|fail)
  refine bi rfl (λhb=>?_) (λhb=>?_)
  ·repeat' (first|refine zr ?_|fail)
   exact br rfl (by rw [h2,hd,orL,if_neg hb])
  ·repeat' (first|refine zs ?_|fail)
   exact⟨i+1,⟨hi,by rw [h2,hd,orL,if_pos (Decidable.not_not.1 hb)]⟩,er id,by omega⟩
 ·repeat' (first|refine zr ?_|fail)
  exact br rfl (by rw [h2,Ax (by omega)];rfl)
theorem yx {l m:List Int} {i:Nat} (h1:i<l.length) (h2:i<m.length):dj (l.drop i) (m.drop i)=if i4 l[i] m[i]=0 then dj (l.drop (i+1)) (m.drop (i+1)) else i4 l[i] m[i]:=by
 rw [Ao h1,Ao h2,dj]
theorem ordL_more {l m:List Int} {i:Nat} (h1:i<l.length) (h2:m.length<=i):dj (l.drop i) (m.drop i)=1:=by
 rw [Ao h1,Ax h2];unfold dj;rfl
theorem ordL_less {l m:List Int} {i:Nat} (h1:l.length<=i) (h2:i<m.length):dj (l.drop i) (m.drop i) = -1:=by
 rw [Ao h2,Ax h1];unfold dj;rfl
theorem ordL_end {l m:List Int} {i:Nat} (h1:l.length<=i) (h2:m.length<=i):dj (l.drop i) (m.drop i)=0:=by
 rw [Ax h1,Ax h2];unfold dj;rfl
theorem vh (dr:Bool) (l m:List Int):FnD dr 105 [.d (.slice 1 (l.map ah)),.d (.slice 1 (m.map ah))] (λr=>r = .d (.int .i64 (dj l m))):=by
 refine fqE Tryz.func105 ?_;intro O w0 E0 β0;refine c8 (t:=0) rfl λhb=>?_
 refine c8 (t:=1) rfl λhb2=>?_
 repeat' (first|refine zs ?_|fail)
 refine ak (ι:=Nat) (λi=>⟨0,[(0,.d (.slice 1 (l.map ah))),(1,.d (.slice 1 (m.map ah))),(9,.d (.slice 1 (l.map ah))),(10,.d (.int .i64 l.length)),(11,.d (.int .i64 i))],[]⟩)
  (λi=>i<=l.length/\i<=m.length/\dj l m=dj (l.drop i) (m.drop i)) (λi=>l.length-i) 0 ⟨Ai _,Ai _,rfl⟩
  (ag id ⟨rfl,rfl,rfl,by simp;rfl,rfl,trivial⟩ trivial rfl rfl rfl rfl rfl rfl) ?_
 rintro i ⟨h1,h2,h3⟩;repeat' (first|refine zs ?_|fail)
 refine bi rfl (λh=>?_) (λh=>?_)
 ·have hi:i<l.length:=by omega
  repeat' (first|refine zs ?_|fail)
  refine bi rfl (λhb=>?_) (λhb=>?_)
  ·repeat' (first|refine zr ?_|fail)
   exact br rfl (by rw [h3,ordL_more hi (by rw [Aa] at hb;omega)])
  ·have hm:i<m.length:=by rw [Aa] at hb;omega
   have hs:=yx hi hm;repeat' (first|refine zs ?_|refine z21 ?_ (hc:=by apply compare_fnD)|fail)
   refine bi rfl (λhc=>?_) (λhc=>?_)
   ·repeat' (first|refine zr ?_|fail)
    exact br rfl (by rw [h3,hs,if_neg hc])
   ·repeat' (first|refine zs ?_|fail)
    exact⟨i+1,⟨hi,hm,by rw [h3,hs,if_pos (Decidable.not_not.1 hc)]⟩,er id,by omega⟩
 ·repeat' (first|refine zs ?_|fail)
  refine bi rfl (λhb=>?_) (λhb=>?_)
  ·repeat' (first|refine zr ?_|fail)
   exact br rfl (by rw [h3,ordL_less (by omega) (by rw [Aa,Aa] at hb;omega)])
  ·repeat' (first|refine zr ?_|fail)
   exact br rfl (by rw [h3,ordL_end (by omega) (by rw [Aa,Aa] at hb;omega)])
theorem ordF_or (a b:Fct):cu a b=orL [i4 a.pred b.pred,dj a.args b.args]:=by
 unfold cu;simp only [orL];split
 ·split
  ·assumption
  ·rfl
 ·rfl
theorem orderF_fnD (dr:Bool) (a b:Fct):FnD dr 52 [c9 a,c9 b] (λr=>r = .d (.int .i64 (cu a b))):=by
 refine fqE Tryz.func52 ?_;intro O w0 E0 β0;have ho:=or_fnD dr [i4 a.pred b.pred,dj a.args b.args];repeat' (first|refine zr ?_|refine z22 ?_ (hc:=by apply compare_fnD)|refine z22 ?_ (hc:=by apply vh)|refine z22 ?_ (hc:=by apply ho)|fail)
 exact br rfl (ordF_or a b).symm
theorem jr (a b:Fct):Fn 52 [c9 a,c9 b] (λr=>r = .d (.int .i64 (cu a b))):=orderF_fnD false a b
variable [Bnds]
end Go.Proofs.YtapciiffpnociadGreat
