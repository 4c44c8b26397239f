/- Several texts in one: GxSpo Tab TokP TokE WirP LstP WirE WirA WirB TokR. Condition: none. -/
import Derived.Test.YtapciiffpnociabGreatM05
import Derived.Test.YtapciiffpnociabGreatProg
set_option linter.all false
set_option maxHeartbeats 8000000
open Array renaming replicate→Fj
open Bool renaming and_eq_true→Ae,eq_iff_iff→D6,false_ne_true→C7,not_not→Ht
open Int renaming ofNat_lt→E8,toNat_of_nonneg→B9
open List renaming any_eq_false→Hr,append_assoc→Bm,drop_eq_getElem_cons→An,drop_of_length_le→Ar,findIdx?_eq_none_iff→F7,findIdx?_eq_some_iff_getElem→E7,flatten_cons→Ds,getElem_cons_succ→Ef,getElem_cons_zero→Ee,getElem_mem→Ah,length_append→Ag,length_cons→Ba,length_map→Aa,not_mem_nil→B6,replicate→Aq
open Nat renaming add_assoc→Ew,beq→Az,blt→Av,eq_of_beq_eq_true→Ao,le_of_ble_eq_true→Ab,le_refl→Af,le_trans→Aw,lt_of_lt_of_le→As,not_lt_zero→A2,zero_le→Ai
namespace Go.Proofs.YtapciiffpnociabGreat
open Tryz
section
open Go Go.RowKit
section
variable {i1 i2 : Y0}
def Q0.inst (m:i1.F=i2.F) {X:Nat->Prop} {w:World} {v:Value} {x:D} (h:@Q0 i1 X w v x):@Q0 i2 X w v x:=by
 induction h with
 | int h=>exact @Q0.int i2 _ _ _ _ h
 | bool=>exact @Q0.bool i2 _ _ _
 | str h=>exact @Q0.str i2 _ _ _ h
 | nil=>exact @Q0.nil i2 _ _ _
 | zero=>exact @Q0.zero i2 _ _ _ _
 | slice c n o q f i r j s l ih=>exact @Q0.slice i2 _ _ _ _ _ _ _ _ c n o q f i r j ih<|m▸l
 | ptr c f i j s l ih=>exact @Q0.ptr i2 _ _ _ _ _ c f i j ih<|m▸l
 | own h ih=>exact @Q0.own i2 _ _ _ _ _ ih
def U3.inst (m:i1.F=i2.F) {X:Nat->Prop} {w:World} {v:Value} {x:D} (h:@U3 i1 X w v x):@U3 i2 X w v x:=by
 induction h with
 | int h=>exact @U3.int i2 _ _ _ _ _ h
 | bool=>exact @U3.bool i2 _ _ _ _
 | str h=>exact @U3.str i2 _ _ _ _ h
 | nil=>exact @U3.nil i2 _ _ _
 | zero=>exact @U3.zero i2 _ _ _ _
 | slice c n o q f i r j s l ih=>exact @U3.slice i2 _ _ _ _ _ _ _ _ c n o q f i r j ih<|m▸l
 | ptr c f i j s l ih=>exact @U3.ptr i2 _ _ _ _ _ c f i j ih<|m▸l
 | own h ih=>exact @U3.own i2 _ _ _ _ _ ih
def Zm.inst (i:i1.F=i2.F) {X:Nat->Prop} {w:World} {B q:Nat} {v:Value} {x:D} (h:@Zm i1 X w B q v x):@Zm i2 X w B q v x:=by
 refine⟨h.1,?_⟩
 have f:=h.2;split
 ·exact U3.inst i f
 ·split at f
  ·rename_i j;exact absurd rfl j
  ·exact Q0.inst i f
mutual
def Rel.inst (m:i1.F=i2.F) {X:Nat->Prop} {e:Env} {w:World}:∀ (s:SV) (v:Value),@Rel i1 X e w s v->@Rel i2 X e w s v
 | .V1,_,_=>trivial
 | .d _,_,h=>Q0.inst m h
 | .Q1,_,h=>h
 | .pd _,_,⟨b,off,i,l,o,q⟩=>⟨b,off,i,l,o,λj r=>let ⟨u,z,A⟩:=q j r;⟨u,z,Q0.inst m A⟩⟩
 | .loc _ _,_,h=>h
 | .row _,_,h=>h
 | .mp _,_,h=>h
 | .md _ _,_,h=>h
 | .P3 _ _ _ _,_,h=>h
 | .sl _ _ _ _,_,h=>h
 | .R5 _ _ _ _,_,h=>h
 | .rg _ _ _,_,h=>Zm.inst m h
 | .fn _ C,_,⟨f,i,l⟩=>⟨f,i,O0.inst m C f l⟩
 | .agg n,_,⟨f,i,l⟩=>⟨f,i,O0.inst m n f l⟩
 | .M2 n,_,⟨f,i,l⟩=>⟨f,i,O0.inst m n f l⟩
 | .val _,_,h=>h
def O0.inst (f:i1.F=i2.F) {X:Nat->Prop} {e:Env} {w:World}:∀ (ss:List SV) (vs:List Value),@O0 i1 X e w ss vs->@O0 i2 X e w ss vs
 | [],[],_=>trivial
 | [],_::_,h=>h.elim
 | _::_,[],h=>h.elim
 | s::ss,v::vs,h=>⟨Rel.inst f s v h.1,O0.inst f ss vs h.2⟩
end
def Heap.inst0 {Γ:Ctx} {k:Nat->Prop} {e:Env} {w:World} (f:@S7 i2 Γ.P Γ.E0 Γ.w0) (h:@Heap i1 Γ k [] e w):@Heap i2 Γ k [] e w:=by obtain⟨i,_,j,l,m,n,o,q,r,s,u,v,_,z,A⟩:=h;exact @Heap.mk i2 Γ k [] e w i (λp C=>absurd C<|B6) j l m n o q r s u v f z A
def Heap.iZ {Γ:Ctx} {k:Nat->Prop} {H:Hp} {e:Env} {w:World} (h:@Heap i1 Γ k H e w):Γ.w0.heap.size<=w.heap.size:=by obtain⟨_,_,_,_,_,_,_,_,_,f,_,_,_,_,_⟩:=h;exact f
end
variable [iB : Y0]
inductive Vj (B:Nat):List SV->Prop
 | here (q:Nat) (x:D) (r:List SV):Vj B (.rg B q x::r)
 | agg (ss r:List SV) (h:Vj B ss):Vj B (.agg ss::r)
 | next (s:SV) (r:List SV) (h:Vj B r):Vj B (s::r)
def Vj.le {B:Nat} {X:Nat->Prop} {e:Env} {w:World} {ss:List SV} (h:Vj B ss):∀ {vs:List Value},O0 X e w ss vs->B<=w.heap.size:=by
 induction h with
 | here q x r=>intro vs f;match vs,f with|_::_,f=>exact f.1.1
 | agg ss r h ih=>intro vs f;match vs,f with|_::_,f=>obtain⟨⟨j,_,i⟩,_⟩:=f;exact ih i
 | next s r h ih=>intro vs f;match vs,f with|_::_,f=>exact ih f.2
mutual
def SV.oQ:SV->SV
 | .d (.own B x)=>.rg B 1 x
 | .agg f=>.agg (SV.GN f)
 | .M2 f=>.M2 (SV.GN f)
 | s=>s
def SV.GN:List SV->List SV
 | []=>[]
 | s::f=>SV.oQ s::SV.GN f
end
mutual
def SV.QX (B:Nat):SV->Prop
 | .d (.own h _)=>h=B
 | .agg f=>SV.NL B f
 | .M2 f=>SV.NL B f
 | _=>True
def SV.NL (B:Nat):List SV->Prop
 | []=>True
 | s::f=>SV.QX B s/\SV.NL B f
end
section
variable {X : Nat -> Prop} {e : Env} {w : World} {B : Nat}
mutual
def Rel.oQ (j:B<=w.heap.size):∀ (s:SV) (v:Value),s.QX B->Rel X e w s v->Rel X e w s.oQ v
 | .d (.own o x),v,f,h=>by
  have f:o=B:=f
  subst f
  exact⟨j,Q0.Z5 h⟩
 | .d (.int _ _),_,_,h=>h
 | .d (.bool _),_,_,h=>h
 | .d (.str _),_,_,h=>h
 | .d (.slice _ _),_,_,h=>h
 | .d (.ptr _),_,_,h=>h
 | .agg l,_,f,⟨i,m,n⟩=>⟨i,m,O0.oQ j l i f n⟩
 | .M2 l,_,f,⟨i,m,n⟩=>⟨i,m,O0.oQ j l i f n⟩
 | .V1,_,_,h=>h
 | .Q1,_,_,h=>h
 | .pd _,_,_,h=>h
 | .loc _ _,_,_,h=>h
 | .row _,_,_,h=>h
 | .mp _,_,_,h=>h
 | .md _ _,_,_,h=>h
 | .P3 _ _ _ _,_,_,h=>h
 | .sl _ _ _ _,_,_,h=>h
 | .R5 _ _ _ _,_,_,h=>h
 | .rg _ _ _,_,_,h=>h
 | .fn _ _,_,_,h=>h
 | .val _,_,_,h=>h
def O0.oQ (f:B<=w.heap.size):∀ (ss:List SV) (vs:List Value),SV.NL B ss->O0 X e w ss vs->O0 X e w (SV.GN ss) vs
 | [],[],_,_=>trivial
 | [],_::_,_,h=>h.elim
 | _::_,[],_,h=>h.elim
 | s::ss,v::vs,i,h=>⟨Rel.oQ f s v i.1 h.1,O0.oQ f ss vs i.2 h.2⟩
end
end
mutual
def SV.CL {k:Nat}:∀ (s:SV),s.low k=true->s.oQ.low k=true
 | .d (.own _ _),_=>rfl
 | .d (.int _ _),_=>rfl
 | .d (.bool _),_=>rfl
 | .d (.str _),_=>rfl
 | .d (.slice _ _),_=>rfl
 | .d (.ptr _),_=>rfl
 | .agg f,h=>SV.Lu f h
 | .M2 f,h=>SV.Lu f h
 | .V1,h=>h
 | .Q1,h=>h
 | .pd _,h=>h
 | .loc _ _,h=>h
 | .row _,h=>h
 | .mp _,h=>h
 | .md _ _,h=>h
 | .P3 _ _ _ _,h=>h
 | .sl _ _ _ _,h=>h
 | .R5 _ _ _ _,h=>h
 | .rg _ _ _,h=>h
 | .fn _ _,h=>h
 | .val _,h=>h
def SV.Lu {k:Nat}:∀ (ss:List SV),SV.U1 k ss=true->SV.U1 k (SV.GN ss)=true
 | [],_=>rfl
 | s::ss,h=>by
  simp only [SV.U1,Ae] at h
  simp only [SV.GN,SV.U1,Ae]
  exact⟨SV.CL s h.1,SV.Lu ss h.2⟩
end
abbrev ke (i:Y0) (B:Nat):Y0:=⟨B,i.F⟩
def I3.QY {dr:Bool} {P:Program} {τ:List (Nat×TI)} {τok:c8 P τ} {f:FuncId} {args ss:List SV} {R h:SV->Prop} (B:Nat) (hc:@I3 (ke iB B) dr P τ τok f args R) (o:SV.Q8 ss=args) (q:Vj B ss)
  (s:∀ r,R r->SV.QX B r/\h r.oQ):I3 dr P τ τok f ss h:=by
 refine⟨hc.1,λO e w i j l=>?_⟩
 have m:B<=w.heap.size:=q.le l;have n:@S7 iB P (λb=>b∈ah e []) w:=j.S4;have u:@S7 (ke iB B) P (λb=>b∈ah e []) w:=⟨m,n.2.1,λb z=>absurd z<|B6⟩
 refine (hc.2 O e w i (Heap.inst0 (i1:=iB) (i2:=ke iB B) u j)<|o▸O0.inst (i1:=iB) (i2:=ke iB B) rfl _ _ (O0.X6 ss i l)).mono ?_;rintro en w' ⟨k',r,H',e',v,⟨rfl,hl,hRr⟩,rfl,hH',hrel⟩;obtain⟨A,C⟩:=s r hRr;exact⟨k',r.oQ,[],e',v,⟨rfl,SV.CL r hl,C⟩,rfl,Heap.inst0 (i1:=ke iB B) (i2:=iB) n hH',
  Rel.oQ (Aw m<|Heap.iZ (i1:=ke iB B) hH') _ _ A (Rel.inst (i1:=ke iB B) (i2:=iB) rfl _ _ hrel)⟩
def rI.trans {a b c:Value} (h:rI a b) (k:rI b c):rI a c:=by
 rcases h with rfl|⟨i,n,m,rfl,rfl,j⟩|⟨s,t,rfl,rfl,j⟩
 ·exact k
 ·rcases k with rfl|⟨o,q,r,f,rfl,l⟩|⟨_,_,f,_⟩
  ·exact .inr<|.inl ⟨_,_,_,rfl,rfl,j⟩
  ·cases f;exact .inr<|.inl ⟨_,_,_,rfl,rfl,l⟩
  ·cases f
 ·rcases k with rfl|⟨_,_,_,f,_⟩|⟨u,t',f,rfl,l⟩
  ·exact .inr<|.inr ⟨_,_,rfl,rfl,j⟩
  ·cases f
  ·cases f;exact .inr<|.inr ⟨_,_,rfl,rfl,l⟩
def Uq.trans {a b c:World} (h:Uq a b) (k:Uq b c):Uq a c:=⟨Aw h.size k.size,λx o v f =>
 let ⟨⟨i,j,l⟩,m⟩:=h.cell x o v f
 let ⟨⟨n,q,r⟩,s⟩:=k.cell x o i j
 ⟨⟨n,q,l.trans r⟩,s.trans m⟩⟩
def JJ {w:World} {b o:Nat} {v:Value} (h:w.cell? ⟨b,o,none⟩=some v):b<w.heap.size:=by
 unfold World.cell? at h;split at h
 ·rename_i f;exact cz f
 ·cases h
def Uq.below {w w':World} (h:Below w.heap.size w w'):Uq w w':=⟨h.size,λb o v f =>
 have i:=h.block b<|JJ f
 ⟨⟨v,(World.cell?_of_block (w:=w) i).trans f,.inl rfl⟩,jc i⟩⟩
structure YK (dr:Bool) (B:Nat) (X:Nat->Prop) (w w':World):Prop where
 Wq:Uq w w'
 low:∀ b,b<w.heap.size->(b<B∨X b)->w'.heap[b]?=w.heap[b]?
 mark:∀ r:Nat,w.heap[r]?=some (Obj.deferred (some []))->w'.heap[r]?=w.heap[r]?
 os:w'.os=w.os
 tape:w'.tape=w.tape
 output:w'.output=w.output
 drawn:dr=true->w.drawn<=w'.drawn
section
variable {dr : Bool} {B : Nat} {X : Nat -> Prop} {a b c : World}
def YK.below (h:W4 dr a.heap.size a b):YK dr B X a b:=⟨Uq.below h.toBelow,λx f _=>h.block x f,λr i=>h.block r (cz i),h.os,h.tape,h.output,h.drawn⟩
def YK.refl:YK dr B X a a:=YK.below<|W4.refl dr _ a
def YK.trans (h:YK dr B X a b) (k:YK dr B X b c):YK dr B X a c:=⟨h.Wq.trans k.Wq,λx i j=>(k.low x (As i h.Wq.size) j).trans (h.low x i j),
 λr f=>(k.mark r<|(h.mark r f).trans f).trans (h.mark r f),k.os.trans h.os,k.tape.trans h.tape,k.output.trans h.output,λl=>Aw (h.drawn l)<|k.drawn l⟩
end
def DU (dr:Bool) (P:Program) (f:FuncId) (B:Nat) (args:List SV):Prop:=eu P f=true /\
 ∀ (X:Nat->Prop) (e:Env) (w:World) (h:List Value),(∀ b,X b->b<w.heap.size)->Y0.B<=B->Y0.F<=B->B<=w.heap.size->O0 X e w args h ->
  Calls P f h.toArray w (λi j=>∃ v,i=.returned v/\YK dr B X w j)
section
variable {Γ : Ctx} {k : Nat} {L : Sl} {H : Hp} {K : cn} {Q : ey} {ops : List Oper} {rest : List Oper}
def J0.spo {k:Nat->Prop} {e:Env} {a:Act} {w w':World} {B:Nat} (m:J0 Γ k L H e a w) (q:Γ.w0.heap.size<=B) (r:Sl.safe B L) (hH:Hp.safe B H) (h:YK Γ.dr B (Γ.X e H) w w') (s:B<=w.heap.size):J0 Γ k L H e a w':=by
 have l:∀ b,b<B->w'.heap[b]?=w.heap[b]?:=λb f=>h.low b (As f s)<|.inl f
 have u:∀ p∈H,e.U4 p.1/\I4 (Γ.X e H) e w' p:=by
  intro p n;obtain⟨j,v⟩:=m.heap p n;refine⟨j,?_⟩
  obtain⟨i,T,G,rfl,z⟩:=Hp.Yt hH p n;obtain⟨A,o,C,E⟩:=v;exact⟨A,(h.low _ (cz o)<|.inr<|.inr<|List.mem_filterMap.2 ⟨_,n,rfl⟩).trans o,O0.Wq h.Wq l _ _ z C,E⟩
 exact⟨⟨m.top,u,m.ids,m.nodup,m.M3,h.os.trans m.os,h.tape.trans m.tape,h.output.trans m.output,λj=>Aw (m.drawn j) (h.drawn j),Aw m.size h.Wq.size,λb f F=>(l b<|As f q).trans (m.block b f F),m.T1,m.S4,m.L8,m.anchor⟩,
  m.defers.N1 h.mark,m.len,λt=>Rel.Wq h.Wq l _ _ (Sl.Y8 r t)<|m.slot t⟩
def wj {f:FuncId} {xs:List Operand} {o:Array TypeId} {ty:TypeId} {pos:String} {af:Array Edge} {g:Option (Nat×Bool)} {d:Nat} {args:List SV} {B:Nat} (hc:DU Γ.dr Γ.P f B args) (i:Γ.w0.heap.size<=B) (q:ap ops L g=some true)
  (r:mt L xs=args) (u:Vj B args) (z:dz xs=true) (A:Av d Γ.n=true) (C:Sl.safe B L) (hH:Hp.safe B H) (E:DS false Γ ops rest K k ((d,.V1)::L) H) :
  DS false Γ ops (⟨some d,.call { callee:=.value (.func f),args:=xs.toArray,argTypes:=o },ty,pos,af,g⟩::rest) K k L H:=by
 refine gj q λe a w m=>?_
 unfold Oper.wp;rw [io hc.1];rw [Oper.upon_enter];have j:=r▸ga m xs z;have l:B<=w.heap.size:=u.le j;have F:∀ b,Γ.X e H b->b<w.heap.size:=λb G=>G.elim (λh=>As (m.T1 b h).1 m.size)<|m.lt b
 refine (hc.2 (Γ.X e H) e w _ F (Aw m.S4.1 i) (Aw m.S4.2.1 i) l j).mono ?_;rintro en w' ⟨v,rfl,hsp⟩;exact⟨k,_,H,e,(m.spo i C hH hsp l).put (s:=.V1) (Ab A) trivial,E⟩
end
def ZV (Γ:Ctx) (I:World->Prop) (Q:ey):Exit->Act->World->Prop:=λx a w=>I w/\∃ (k:Nat) (L:Sl) (H:Hp) (e:Env),J0 Γ k L H e a w/\Q x k L H
def sI (Γ:Ctx) (I:World->Prop) (c:Code) (Q:ey) (k:Nat) (L:Sl) (H:Hp):Prop:=∀ e a w,J0 Γ k L H e a w->I w->c.wpIn (ob Γ.rd) 0 Γ.P (ZV Γ I Q) a w
def IA (Γ:Ctx) (I:World->Prop) (ops:List Oper) (rest:List Oper) (K:cn) (k:Nat) (L:Sl) (H:Hp):Prop:=
 ∀ e a w,J0 Γ k L H e a w->I w->wpList Γ.P ops.toArray (ZV Γ I<|ep K) rest a w
section
variable {Γ : Ctx} {I : World -> Prop} {k : Nat} {L : Sl} {H : Hp} {Q : ey} {K : cn} {ops : List Oper} {rest : List Oper}
def Ra (h:Q .normal k L H):sI Γ I .skip Q k L H:=λe _ _ m f=>wpIn_skip ⟨f,k,L,H,e,m,h⟩
def Ta {id} (h:Q (.exit id) k L H):sI Γ I (.exit id) Q k L H:=λe _ _ m f=>wpIn_exit ⟨f,k,L,H,e,m,h⟩
def ly {x y:Code} (h:sI Γ I x (du (sI Γ I y Q) Q) k L H):sI Γ I (.seq x y) Q k L H:=by
 intro e a w m f;refine wpIn_seq<|wpIn_mono (h e a w m f) ?_;rintro i a' w' ⟨hi',k',L',H',e',m',hq⟩;cases i with
 | normal=>exact hq e' a' w' m' hi'
 | _=>exact⟨hi',k',L',H',e',m',hq⟩
def v6 {c:Operand} {x y:Code} {p:Prop} {_:Decidable p} (hc:aj L c=.d (.bool (decide p))) (l:p->sI Γ I x Q k L H) (n:¬ p->sI Γ I y Q k L H):sI Γ I (.cond c x y) Q k L H:=by
 intro e a w m i;have h:Rel (Γ.X e H) e w (aj L c) (a.eval c):=by
  cases c with
  | const v =>
   refine m.op _ ?_;cases v<;>first|trivial|(simp [aj,S6] at hc)
  | _=>exact m.op _ trivial
 rw [hc] at h;have j:a.eval c=.bool (decide p):=by
  generalize a.eval c=v at h;cases h;rfl
 by_cases f:p
 ·exact wpIn_cond_true (by rw [j,decide_eq_true f])<|l f e a w m i
 ·exact wpIn_cond_false (by rw [j,decide_eq_false f])<|n f e a w m i
def mz {id:Nat} {c:Code} (h:sI Γ I c (bl id Q) k L H):sI Γ I (.block id c) Q k L H:=by
 intro e a w m i;refine wpIn_block<|wpIn_mono (h e a w m i) ?_;rintro j a' w' ⟨hi',k',L',H',e',m',hq⟩;cases j with
 | exit l =>
  simp only [Exit.inBlock];simp only [bl] at hq;cases f:Az l id with
  | true=>rw [f] at hq;rw [if_pos<|Ao f];exact⟨hi',k',L',H',e',m',hq⟩
  | false=>rw [f] at hq;rw [if_neg<|Nat.ne_of_beq_eq_false f];exact⟨hi',k',L',H',e',m',hq⟩
 | _=>exact⟨hi',k',L',H',e',m',hq⟩
def Sa {ι:Type} {c:Code} (S:ι->St) (pre:ι->Prop) (h:ι->Nat) (f:ι) (j:pre f) (l:X7 Γ k L H (S f).k (S f).L (S f).H)
  (o:∀ x,pre x->sI Γ I c (du (λk' L' H'=>∃ y,pre y/\X7 Γ k' L' H' (S y).k (S y).L (S y).H/\h y<h x) Q) (S x).k (S x).L (S x).H):sI Γ I (.loop c) Q k L H:=by
 intro e a w m i;obtain⟨e0,q⟩:=l e a w m;refine wpIn_loop_ghost (λn a w=>∃ x,pre x/\h x=n/\I w/\∃ e,J0 Γ (S x).k (S x).L (S x).H e a w) (h f) ⟨f,j,rfl,i,e0,q⟩ ?_;rintro n a w ⟨x,px,rfl,i,e,m⟩;refine wpIn_mono (o x px e a w m i) ?_;rintro r a' w' ⟨hi',k',L',H',e',m',hq⟩;cases r with
 | normal =>
  obtain⟨y,s,u,v⟩:=hq;obtain⟨z,A⟩:=u e' a' w' m';exact⟨_,v,y,s,rfl,hi',z,A⟩
 | _=>exact⟨hi',k',L',H',e',m',hq⟩
def yD:¬ LetsOut (ZV Γ I (ep K)):=by rintro⟨a,w,_,k,L,H,e,m,f,_⟩;cases f
def d7 {id:Nat} {l:List Oper} (f:d8 l=true) (h:IA Γ I l l (Q .normal) k L H):sI Γ I (.region id l.toArray false) Q k L H:=by intro e a w m i;refine wpIn_mono (wpIn_region_lit<|Rb yD l f _ _<|h e a w m i) ?_;rintro ex a' w' ⟨hi',k',L',H',e',m',rfl,hq⟩;exact⟨hi',k',L',H',e',m',hq⟩
def kn (h:K k L H):IA Γ I ops [] K k L H:=λe _ _ m f=>wpList_nil ⟨f,k,L,H,e,m,rfl,h⟩
def sE {op:Op} {ty:TypeId} {pos:String} {af:Array Edge} {g:Option (Nat×Bool)} {d:Option Nat} (i:ap ops L g=some true)
  (h:∀ e a w,J0 Γ k L H e a w->I w->(Oper.mk d op ty pos af g).wp Γ.P a w (λf w'=>I w'/\∃ (k':Nat) (L':Sl) (H':Hp) (e':Env),J0 Γ k' L' H' e' f w'/\IA Γ I ops rest K k' L' H') (ZV Γ I (ep K))) :
  IA Γ I ops (⟨d,op,ty,pos,af,g⟩::rest) K k L H:=by
 intro e a w m j;refine wpList_step λn l=>?_
 rw [if_pos<|kv m i];refine Oper.wp_mono ?_<|h e a w m j;rintro f w' ⟨hi',k',L',H',e',m',hd⟩;exact l _ _<|hd e' f w' m' hi'
def Py {d:Nat} {op:Op} {ty:TypeId} {pos:String} {af:Array Edge} {g:Option (Nat×Bool)} {s:SV} (h:Ev Γ k L H op ty s) (f:IA Γ I ops rest K k ((d,s)::L) H) (i:ap ops L g=some true:=by exact rfl) (j:Av d Γ.n=true:=by exact rfl) :
  IA Γ I ops (⟨some d,op,ty,pos,af,g⟩::rest) K k L H:=by
 refine sE i λe a w m l=>?_
 obtain⟨v,o,q⟩:=h e a w m;unfold Oper.wp;rw [o (some d) pos af g w<|Below.refl _ _];exact⟨l,k,_,H,e,m.put (Ab j) q,f⟩
def fx {d:Nat} {op:Op} {ty:TypeId} {pos:String} {af:Array Edge} {g:Option (Nat×Bool)} {p:Prop} {s f:SV} (h:IA Γ I ops rest K k ((d,f)::L) H) (i:p) (j:Z7 Γ.τ (aj L) (Hp.get H) op=some (p,s):=by exact rfl) (l:s=f:=by exact rfl) (m:cx op=true:=by exact rfl)
  (o:ap ops L g=some true:=by exact rfl) (q:Av d Γ.n=true:=by exact rfl):IA Γ I ops (⟨some d,op,ty,pos,af,g⟩::rest) K k L H:=by
 subst l;exact Py (vz j i m) h o q
end
structure SpF (Γ:Ctx) (B:Nat):Prop where
 E0:Γ.E0=λb=>B<=b/\¬ Γ.O b
 hF:Y0.F<=B
abbrev KZ (Γ:Ctx) (B:Nat):World->Prop:=λw=>YK Γ.dr B Γ.O Γ.w0 w/\B<=w.heap.size
section
variable {Γ : Ctx} {B : Nat} {k : Nat} {L : Sl} {Q : ey} {K : cn} {ops : List Oper} {rest : List Oper} {t t' : TypeId}
def wq {te ty:TypeId} {x y:Operand} {pos:String} {af:Array Edge} {g:Option (Nat×Bool)} {d0 y0:D} {ds:List D} (v:SpF Γ B) (W:IA Γ (KZ Γ B) ops rest K k L []) (Y:ap ops L g=some true:=by exact rfl) (Z:aj L x=.rg B 2 (.ptr (d0::ds)):=by exact rfl) (hy:aj L y=.d y0:=by exact rfl) (a0:de y=true:=by exact rfl) (hl:JB d0 y0=true:=by exact rfl)
  (a1:(Γ.sh te).known=true:=by exact rfl) (hn:Az 1 (Γ.cells te)=true:=by exact rfl) (hs:Sl.safe B L:=by (repeat' (first|exact trivial|exact Af _|refine⟨?_,?_⟩))):IA Γ (KZ Γ B) ops (⟨none,.store te x y,ty,pos,af,g⟩::rest) K k L []:=by
 refine sE Y λe a w m z=>?_
 obtain⟨b6,b7,a2,_,a3,_⟩:=Ctx.info<|Sh.Y1 a1;have f:Zm (Γ.X e []) w B 2 (a.eval x) (.ptr (d0::ds)):=by
  have:=Q5 m Z (Pg · _ _ _)
  exact this
 have f:=f.XQ;have j:Q0 (Γ.X e []) w (a.eval y) y0:=by
  have:=m.op y<|cd a0
  rw [hy] at this;exact this
 have a4:=Ao hn;generalize hv:a.eval x=c0 at f;cases f with
 | ptr c A hb a5 a9 hz =>
  rename_i b off;have q:=a5 0 (by simp);have b0:=IB hl (a9 0<|by simp) j;have s:B<=b:=Nat.le_of_not_lt λh=>A<|.inr h
  have C:¬ Γ.O b:=λh=>A<|.inl<|.inl h
  have E:=hz (Aw v.hF s) 0 (by simp);rw [Nat.add_zero] at q E;obtain⟨l,b1,F,n,⟨c1,t1,p1,G⟩,J,M,N,R,S⟩:=vF q b0;have T:(a.eval y).oneCell'=true/\(a.eval y).cells = #[a.eval y]:=Q0.one j;have b2:(execOp a.eval ⟨none,.store te x y,ty,pos,af,g⟩).run Γ.P w=.ok .skip l:=by
   have b3:(store (⟨b,off,none⟩:Addr)<|a.eval y).run Γ.P w=.ok () l:=by
    rw [run_store Γ.P w _ _ _ T.1,q];simp [E,b1]
   have b4:(⟨b,off,none⟩:Addr).add 0=⟨b,off,none⟩:=by rw [Addr.Y3,Nat.add_zero]
   simp only [execOp,Instr.storeAt,hv,Instr.sureAddr];simp [storeVar,c9 a2,a3,<- a4,T.2,storeCells,b4,b3]
  unfold Oper.wp;rw [b2];have U:∀ r:Nat,w.heap[r]?=some (Obj.deferred<|some [])->l.heap[r]?=w.heap[r]?:=λr j=>n r λu=>by
   subst u;rw [j] at G;cases G
  have b5:YK Γ.dr B Γ.O w l:=⟨F,λi _ o=>n i λu=>by subst u;exact o.elim (λh=>Nat.not_lt.2 s h) C,U,M,N,R,λ_=>Nat.le_of_eq S.symm⟩
  refine⟨⟨z.1.trans b5,J▸z.2⟩,k,L,[],e,⟨⟨m.top,λp f=>(nomatch f),m.ids,m.nodup,m.M3,M.trans m.os,N.trans m.tape,R.trans m.output,λhd=>S▸m.drawn hd,J▸m.size,λi o V=>(n i ?_).trans (m.block i o V),m.T1,m.S4,m.L8,m.anchor⟩,
   m.defers.N1 U,m.len,λt=>Rel.Wq F (λi o=>n i<|by omega) _ _ (Sl.Y8 hs t)<|m.slot t⟩,W⟩
  rintro rfl;exact V<|by rw [v.E0];exact⟨s,C⟩
def vX (Γ:Ctx) (k:Nat) (L:Sl) (H:Hp) (op:Op) (ty:TypeId) (s:SV):Prop:=
 ∀ e a w,J0 Γ k L H e a w->∃ v f,(∀ (h:Option Tmp) pos i guard,(execOp a.eval ⟨h,op,ty,pos,i,guard⟩).run Γ.P w=.ok (.value v) f)/\W4 Γ.dr w.heap.size w f/\Rel (Γ.X e H) e f s v
def JY {d:Nat} {H:Hp} {op:Op} {ty:TypeId} {pos:String} {af:Array Edge} {g:Option (Nat×Bool)} {s:SV} (h:vX Γ k L H op ty s) (f:DS false Γ ops rest K k ((d,s)::L) H) (i:ap ops L g=some true:=by exact rfl) (j:Av d Γ.n=true:=by exact rfl) :
  DS false Γ ops (⟨some d,op,ty,pos,af,g⟩::rest) K k L H:=by
 refine gj i λe a w m=>?_
 obtain⟨v,r,l,o,q⟩:=h e a w m;unfold Oper.wp;rw [l (some d) pos af g];exact⟨k,_,H,e,(m.below o).put (Ab j) q,f⟩
def DK {f:FuncId} {xs:List Operand} {u:Array TypeId} {ty:TypeId} {pos:String} {af:Array Edge} {g:Option (Nat×Bool)} {d:Nat} {args:List SV} (r:SpF Γ B) (hc:DU Γ.dr Γ.P f B args) (z:Y0.B<=B) (A:IA Γ (KZ Γ B) ops rest K k ((d,.V1)::L) []) (C:ap ops L g=some true:=by exact rfl)
  (E:mt L xs=args:=by exact rfl) (F:dz xs=true:=by exact rfl) (j:Av d Γ.n=true:=by exact rfl) (G:Sl.safe B L:=by (repeat' (first|exact trivial|exact Af _|refine⟨?_,?_⟩))) :
  IA Γ (KZ Γ B) ops (⟨some d,.call { callee:=.value (.func f),args:=xs.toArray,argTypes:=u },ty,pos,af,g⟩::rest) K k L []:=by
 refine sE C λe a w m l=>?_
 unfold Oper.wp;rw [io hc.1];rw [Oper.upon_enter];have T:∀ b,Γ.X e [] b↔Γ.O b:=λb=>⟨λh=>h.elim id λh=>(nomatch h),.inl⟩
 have J:O0 Γ.O e w args (xs.map a.eval):=O0.N1 (Af _) (λ_ _ _=>rfl) (λb _ h=>.inl h) _ _<|E▸ga m xs F;refine (hc.2 Γ.O e w _ (λb i=>As (m.T1 b i).1 m.size) z r.hF l.2 J).mono ?_;rintro en w' ⟨v,rfl,h⟩;have M:∀ b,b<B->w'.heap[b]?=w.heap[b]?:=λb i=>h.low b (As i l.2)<|.inl i
 have N:J0 Γ k L [] e a w':=⟨⟨m.top,λp R=>(nomatch R),m.ids,m.nodup,m.M3,h.os.trans m.os,h.tape.trans m.tape,h.output.trans m.output,λj=>Aw (m.drawn j) (h.drawn j),Aw m.size h.Wq.size,λb i o=>(h.low b (As i m.size) (by
   rw [r.E0] at o;rcases Nat.lt_or_ge b B with q|q
   ·exact .inl q
   ·exact .inr<|Classical.byContradiction λS=>o ⟨q,S⟩)).trans (m.block b i o),m.T1,m.S4,m.L8,m.anchor⟩,
  m.defers.N1 h.mark,m.len,λt=>Rel.Wq h.Wq M _ _ (Sl.Y8 G t)<|m.slot t⟩
 exact⟨⟨l.1.trans h,Aw l.2 h.Wq.size⟩,k,_,[],e,N.put (s:=.V1) (Ab j) trivial,A⟩
end
def Mx {dr:Bool} {P:Program} {τ:List (Nat×TI)} {τok:c8 P τ} {f:FuncId} {i:Func} {c:Code} {args:List SV} {B:Nat} (N:Nat) (G:P.funcs[f]?=some i) (hb:i.body=some c) (J:i.results.toList=[])
  (M:args.length+(i.ntmps-args.length)=N) (R:eu P f=true) (S:SV.U1 0 args=true)
  (h:∀ (O:Nat->Prop) (m:World) (o:Nat->Prop) (q:Nat->Nat×Value),Y0.B<=B->SpF ⟨P,τ,τok,O,m,o,N,0,q,none,da,false,dr⟩ B ->
   sI ⟨P,τ,τok,O,m,o,N,0,q,none,da,false,dr⟩ (KZ ⟨P,τ,τok,O,m,o,N,0,q,none,da,false,dr⟩ B) c (λx _ _ H=>(x=.ret∨x=.normal)/\H=[]) 0 (n8 0 args) []):DU dr P f B args:=by
 refine⟨R,?_⟩
 intro X e w l T r A s C;have U:=O0.length _ _ C;have V:∀ b,Ctx.X ⟨P,τ,τok,X,w,λb=>B<=b/\¬ X b,N,0,e.an,none,da,false,dr⟩ (e.V2 id 0) [] b↔X b:=λb=>⟨λh=>h.elim id λh=>(nomatch h),.inl⟩
 have W:∀ b,X b->b<w.heap.size/\¬ (B<=b/\¬ X b):=λb hb=>⟨T b hb,λh=>h.2 hb⟩
 have Y:J0 ⟨P,τ,τok,X,w,λb=>B<=b/\¬ X b,N,0,e.an,none,da,false,dr⟩ (0:Nat) (n8 0 args) [] (e.V2 id 0) { tmps:=l.toArray++Fj (i.ntmps-l.toArray.size) undef,defers:=[] } w:=by
  refine⟨⟨λ_=>Iff.rfl,λp Z=>(nomatch Z),.nil,.nil,λb hb=>(nomatch hb),rfl,rfl,rfl,λ_=>Af _,Af _,λ_ _ _=>rfl,W,⟨Aw r s,Aw A s,λb hb=>Aw r hb.1⟩,λj u=>absurd u (A2 j),λj u=>absurd u<|A2 j⟩,Marks.nil,?_,λt=>?_⟩
  ·simp [<- M,U]
  ·have:=Na args l (Aq (i.ntmps-l.length) undef) 0 [] rfl (O0.env (e':=e.V2 id 0) _ _ S C) t
   have he:l.toArray++Fj (i.ntmps-l.toArray.size) undef=([]++l++Aq (i.ntmps-l.length) undef).toArray:=by simp
   rw [he];exact Rel.N1 (Af _) (λ_ _ _=>rfl) (λb _ hy=>(V b).1 hy) _ _ this
 refine callsIn_wide.1<|callsIn_of_wp_marks (F:=Fence.wide) (n:=0) G hb trivial<|wpIn_mono (h X w (λb=>B<=b/\¬ X b) e.an r ⟨rfl,A⟩ (e.V2 id 0) _ w Y ⟨YK.refl,s⟩) ?_;rintro ex a' z ⟨⟨hsp,_⟩,k',L',H',e',m',hx,rfl⟩;obtain⟨rs,a0,a1,a3,hm⟩:=m'.defers;have a2:rs=[]:=a1 rfl;subst a2;have hd:a'.defers=[]:=a0;obtain⟨v,g7,_⟩:=so m' i (.M2 []) (by rw [J];rfl);have E:LeavesInM Fence.wide 0 P i a'.tmps (λen z=>∃ v,en=.returned v/\YK dr B X w z) a'.defers .returning z:=by
  rw [hd];exact⟨v,g7,v,rfl,hsp⟩
 rcases hx with rfl|rfl
 ·exact E
 ·exact E
def EL (B:Nat):List SV->List D->Prop
 | [],[]=>True
 | s::f,d::h=>(s=.rg B 1 d∨s=.rg B 2 d∨(s=.d d/\d.flat=true))/\EL B f h
 | _,_=>False
def U3.flat {X Y:Nat->Prop} {w:World} {v:Value} {x:D} (f:x.flat=true) (h:Q0 X w v x):U3 Y w v x:=(Q0.YR f h).XQ
def nB {B:Nat} {X:Nat->Prop} {e:Env} {w:World}:∀ {ss:List SV} {ds:List D} {vs:List Value},EL B ss ds->O0 X e w ss vs->vs.length=ds.length/\∀ j (f:j<ds.length),∃ u,vs[j]?=some u/\U3 (lim X B 2) w u ds[j]
 | [],[],[],_,_=>⟨rfl,λj f=>(nomatch f)⟩
 | [],[],_::_,_,h=>h.elim
 | [],_::_,_,h,_=>h.elim
 | _::_,[],_,h,_=>h.elim
 | _::_,_::_,[],_,h=>h.elim
 | s::ss,d::ds,v::vs,h,i=>by
  obtain⟨l,m⟩:=nB h.2 i.2
  refine⟨by simp [l],λj f=>?_⟩
  cases j with
  | zero =>
   refine⟨v,rfl,?_⟩
   rcases h.1 with rfl|rfl|⟨rfl,n⟩
   ·exact Zm.XQ (q:=1) i.1
   ·exact Zm.XQ (q:=2) i.1
   ·exact U3.flat n i.1
  | succ j=>simpa using m j (by simpa using f)
def Nx {es:Nat} {α:Type}:∀ (xs:List (List α)),(∀ x∈xs,x.length=es)->∀ i (hi:i<xs.length) j (f:j<(xs[i]'hi).length),∃ h:i*es+j<xs.flatten.length,xs.flatten[i*es+j]=(xs[i]'hi)[j]
 | [],_,i,hi,_,_=>absurd hi (A2 i)
 | x::xs,l,i,hi,j,f=>by
  have m:x.length=es:=l x (List.mem_cons_self ..);cases i with
  | zero =>
   simp only [Ee] at f;refine⟨by simp;omega,?_⟩
   simp only [Ds,Nat.zero_mul,Nat.zero_add,Ee];rw [List.getElem_append_left]
  | succ i =>
   simp only [Ef] at f;obtain⟨r,n⟩:=Nx xs (λy o=>l y (List.mem_cons_of_mem _ o)) i (Nat.lt_of_succ_lt_succ hi) j f;have q:(i+1)*es+j=x.length+(i*es+j):=by rw [m,Nat.succ_mul];omega
   refine⟨by simp only [Ds,Ag];omega,?_⟩
   simp only [Ds,Ef];rw [List.getElem_append_right<|by omega];simp only [q,Nat.add_sub_cancel_left];exact n
section
variable {Γ : Ctx} {B : Nat} {k : Nat} {L : Sl} {H : Hp} {Q : ey} {K : cn} {ops : List Oper} {rest : List Oper} {t ty : TypeId}
def PY {te es len:Nat} {ps:List (Nat×Operand)} {cs':List SV} (xs:List (List D)) (M:CU B L H) (N:Γ.sh t=.slice te) (O:(Γ.sh te).known=true) (P:Γ.cells te=es) (A:Av 0 es=true) (R:gp (ai Γ.τ te).zero=true) (S:Az (ai Γ.τ te).zero.length (Γ.cells te)=true) (T:mr ps=true)
  (C:Nat.ble (len*es) 16777216=true) (U:qm (λi=>some (i*es,es)) (ux (o6 Γ.τ te) (len*es)) (mq L ps)=some cs') (V:EL B cs' xs.flatten) (E:∀ x∈xs,x.length=es) (W:xs.length=len) :
  vX Γ k L H (.buildSlice t len ps.toArray) ty (.rg B 2 (.slice es xs)):=by
 intro e a w m;have F:=M.le m;obtain⟨l,f2,f3,Y⟩:=o9 (ty:=ty) N O P A R S T C U m;have q:=eh Γ.dr w<|.cells l te;refine⟨_,_,Y,q,Aw F q.size,?_⟩
 have Z:len<=maxLen:=by
  have G:=Ab C;have s:=Ab A;have:len<=len*es:=Nat.le_mul_of_pos_right _ s
  unfold maxLen;omega
 obtain⟨a3,a0⟩:=nB V f2;have a1:∀ b,Γ.X e H b->b<w.heap.size:=λb v=>v.elim (λh=>As (m.T1 b h).1 m.size)<|m.lt b
 have z:(w.alloc<|.cells l te).heap[w.heap.size]?=some (.cells l te):=heap_alloc_new w _;have J:∀ i (f:i<xs.length) j (n:j<(xs[i]'f).length),∃ u,l.toList[i*es+j]?=some u/\U3 (lim (Γ.X e H) B 2) w u (xs[i]'f)[j]:=by
  intro i f j n;obtain⟨G,s⟩:=Nx xs E i f j n;obtain⟨u,o,r⟩:=a0 _ G;exact⟨u,o,s▸r⟩
 have a2:U3 (lim (Γ.X e H) B 2) (w.alloc<|.cells l te) (.slice (some ⟨w.heap.size,0,none⟩) len len) (.slice es xs):=by
  refine .slice (λi j=>(l.toList[i*es+j]?).getD undef) W.symm (Af _) Z (λhx=>hx.elim (λh=>Nat.lt_irrefl _<|a1 _ h)<|λh=>Nat.not_lt.2 F h) (cz z) (λi f=>E _<|Ah f) (λi f j n=>?_) (λi f j n=>?_)<|λ_ i f j n=>ky z
  ·obtain⟨u,o,r⟩:=J i f j n;rw [cell_of_row _ _ _ l te (0,0) z,o];simpa using o
  ·obtain⟨u,o,r⟩:=J i f j n;rw [o];exact U3.N1 q.size (λb v _=>q.block b v) (λb _ hy=>hy) r
 exact a2
def TT {te es len d:Nat} {pos:String} {af:Array Edge} {g:Option (Nat×Bool)} {ps:List (Nat×Operand)} {cs':List SV} (xs:List (List D)) (f:CU B L H) (h:Γ.sh t=.slice te) (j:(Γ.sh te).known=true) (l:Γ.cells te=es) (m:Av 0 es=true) (o:gp (ai Γ.τ te).zero=true) (q:Az (ai Γ.τ te).zero.length (Γ.cells te)=true) (r:mr ps=true)
  (s:Nat.ble (len*es) 16777216=true) (u:qm (λi=>some (i*es,es)) (ux (o6 Γ.τ te) (len*es)) (mq L ps)=some cs') (v:EL B cs' xs.flatten) (z:∀ x∈xs,x.length=es) (A:xs.length=len) (C:ap ops L g=some true) (E:Av d Γ.n=true)
  (F:DS false Γ ops rest K k ((d,.rg B 2 (.slice es xs))::L) H):DS false Γ ops (⟨some d,.buildSlice t len ps.toArray,ty,pos,af,g⟩::rest) K k L H:=
 JY (PY xs f h j l m o q r s u v z A) F C E
def GH {I:World->Prop} {c:Code} {es q:Nat} {xs:List (List D)} (t:Nat) (h:L.get t=.rg B q (.slice es xs)) (i:VY xs->sI Γ I c Q k L H):sI Γ I c Q k L H:=λe a w m j=>by
 have f:=m.slot t
 rw [h] at f
 have f:Zm _ _ _ _ _ _:=f
 exact i f.XQ.lens e a w m j
end
section
variable {Γ : Ctx} {I : World -> Prop} {k : Nat} {L : Sl} {H : Hp} {K : cn} {ops : List Oper} {rest : List Oper} {t t' ty : TypeId} {pos : String} {af : Array Edge} {g : Option (Nat×Bool)} {d : Nat} {B p es : Nat} {x y : Operand}
def Xi {xs:List (List D)} (f:IA Γ I ops rest K k ((d,.d (.int .i64 xs.length))::L) H) (h:Γ.sh t=.slice t':=by exact rfl) (i:aj L x=.rg B p (.slice es xs):=by exact rfl) (j:ap ops L g=some true:=by exact rfl) (l:Av d Γ.n=true:=by exact rfl) :
  IA Γ I ops (⟨some d,.call { callee:=.builtin .len,args:=#[x],argTypes:=#[t] },ty,pos,af,g⟩::rest) K k L H:=Py (XB h i) f j l
def je {α:Type} {f:α->List D} {l:List α} {n:Int} {j:Nat} {h1:j<l.length} (h:IA Γ I ops rest K k ((d,.rg B 2 (.ptr (f (l[j]'h1))))::L) H) (i:Γ.sh t=.slice t':=by exact rfl) (hc:Γ.cells t'=es:=by exact rfl) (m:(Γ.sh t').known=true:=by exact rfl)
  (o:aj L x=.rg B 2 (.slice es<|l.map f):=by exact rfl) (q:aj L y=.d (.int .i64 n):=by exact rfl) (r:n=j:=by exact rfl) (s:ap ops L g=some true:=by exact rfl) (u:Av d Γ.n=true:=by exact rfl) :
  IA Γ I ops (⟨some d,.indexAddr t x y,ty,pos,af,g⟩::rest) K k L H:=Py (Ri i hc m o q r h1) h s u
def m6 {s:TypeId} {f off i h:Nat} {l} {ds:List D} (j:IA Γ I ops rest K k ((d,.rg B 2 (.ptr (ds.drop off)))::L) H) (m:Γ.sh s=.struct l:=by exact rfl) (o:l[f]?=some (off,i,h):=by exact rfl) (q:Az h 0=false:=by exact rfl)
  (r:aj L x=.rg B 2 (.ptr ds):=by exact rfl) (u:ap ops L g=some true:=by exact rfl) (v:Av d Γ.n=true:=by exact rfl):IA Γ I ops (⟨some d,.fieldAddr s x f,ty,pos,af,g⟩::rest) K k L H:=Py (Qp m o q r) j u v
def tn {d0:D} {ds:List D} (f:IA Γ I ops rest K k ((d,.rg B 2 d0)::L) H) (h:(Γ.sh t).known=true:=by exact rfl) (i:(Γ.sh t).isAgg=false:=by exact rfl) (j:aj L x=.rg B 2 (.ptr (d0::ds)):=by exact rfl) (l:ap ops L g=some true:=by exact rfl) (m:Av d Γ.n=true:=by exact rfl) :
  IA Γ I ops (⟨some d,.load t x,ty,pos,af,g⟩::rest) K k L H:=Py (Ux h i j) f l m
end
end
section
open Go
def U5:List (Nat×TI):=[
 (2,⟨.int .i64,1,8,[.int .i64 0],false⟩),
 (3,⟨.int .i64,1,8,[.int .i64 0],false⟩),
 (4,⟨.bool,1,1,[.bool false],false⟩),
 (5,⟨.int .u8,1,1,[.int .u8 0],false⟩),
 (6,⟨.int .u8,1,1,[.int .u8 0],false⟩),
 (7,⟨.struct [(0,2,1),(1,3,1),(2,4,1),(3,6,1)],4,24,[.int .i64 0,.int .i64 0,.bool false,.int .u8 0],true⟩),
 (8,⟨.struct [(0,2,1),(1,3,1),(2,4,1),(3,6,1)],4,24,[.int .i64 0,.int .i64 0,.bool false,.int .u8 0],true⟩),
 (9,⟨.str,1,16,[.string ⟨#[]⟩],false⟩),
 (10,⟨.str,1,16,[.string ⟨#[]⟩],false⟩),
 (11,⟨.str,1,16,[.string ⟨#[]⟩],false⟩),
 (12,⟨.int .u64,1,8,[.int .u64 0],false⟩),
 (13,⟨.struct [(0,9,1),(1,12,1)],2,24,[.string ⟨#[]⟩,.int .u64 0],false⟩),
 (14,⟨.struct [(0,9,1),(1,12,1)],2,24,[.string ⟨#[]⟩,.int .u64 0],false⟩),
 (15,⟨.ptr 323,1,8,[.pointer none],false⟩),
 (16,⟨.ptr 326,1,8,[.pointer none],false⟩),
 (17,⟨.ptr 335,1,8,[.pointer none],false⟩),
 (18,⟨.struct [(0,17,1)],1,8,[.pointer none],false⟩),
 (19,⟨.struct [(0,17,1)],1,8,[.pointer none],false⟩),
 (21,⟨.int .i32,1,4,[.int .i32 0],false⟩),
 (22,⟨.slice 3,1,24,[.slice none 0 0],false⟩),
 (23,⟨.slice 9,1,24,[.slice none 0 0],false⟩),
 (24,⟨.slice 87,1,24,[.slice none 0 0],false⟩),
 (25,⟨.struct [(0,22,1),(1,23,1),(2,24,1)],3,72,[.slice none 0 0,.slice none 0 0,.slice none 0 0],true⟩),
 (26,⟨.struct [(0,22,1),(1,23,1),(2,24,1)],3,72,[.slice none 0 0,.slice none 0 0,.slice none 0 0],true⟩),
 (27,⟨.slice 35,1,24,[.slice none 0 0],false⟩),
 (28,⟨.struct [(0,27,1),(1,27,1)],2,48,[.slice none 0 0,.slice none 0 0],true⟩),
 (29,⟨.struct [(0,27,1),(1,27,1)],2,48,[.slice none 0 0,.slice none 0 0],true⟩),
 (30,⟨.struct [(0,3,1),(1,3,1)],2,16,[.int .i64 0,.int .i64 0],true⟩),
 (31,⟨.struct [(0,3,1),(1,3,1)],2,16,[.int .i64 0,.int .i64 0],true⟩),
 (32,⟨.slice 31,1,24,[.slice none 0 0],false⟩),
 (33,⟨.slice 95,1,24,[.slice none 0 0],false⟩),
 (34,⟨.struct [(0,31,2),(2,32,1),(3,33,1),(4,32,1)],5,88,[.int .i64 0,.int .i64 0,.slice none 0 0,.slice none 0 0,.slice none 0 0],true⟩),
 (35,⟨.struct [(0,31,2),(2,32,1),(3,33,1),(4,32,1)],5,88,[.int .i64 0,.int .i64 0,.slice none 0 0,.slice none 0 0,.slice none 0 0],true⟩),
 (38,⟨.int .i64,1,8,[.int .i64 0],false⟩),
 (47,⟨.slice 64,1,24,[.slice none 0 0],false⟩),
 (60,⟨.slice 27,1,24,[.slice none 0 0],false⟩),
 (63,⟨.struct [(0,33,1),(1,33,1)],2,48,[.slice none 0 0,.slice none 0 0],true⟩),
 (64,⟨.struct [(0,33,1),(1,33,1)],2,48,[.slice none 0 0,.slice none 0 0],true⟩),
 (77,⟨.slice 22,1,24,[.slice none 0 0],false⟩),
 (84,⟨.slice 154,1,24,[.slice none 0 0],false⟩),
 (85,⟨.slice 156,1,24,[.slice none 0 0],false⟩),
 (86,⟨.struct [(0,3,1),(1,84,1),(2,3,1),(3,85,1),(4,3,1)],5,72,[.int .i64 0,.slice none 0 0,.int .i64 0,.slice none 0 0,.int .i64 0],true⟩),
 (87,⟨.struct [(0,3,1),(1,84,1),(2,3,1),(3,85,1),(4,3,1)],5,72,[.int .i64 0,.slice none 0 0,.int .i64 0,.slice none 0 0,.int .i64 0],true⟩),
 (94,⟨.struct [(0,3,1),(1,22,1)],2,32,[.int .i64 0,.slice none 0 0],true⟩),
 (95,⟨.struct [(0,3,1),(1,22,1)],2,32,[.int .i64 0,.slice none 0 0],true⟩),
 (103,⟨.ptr 107,1,8,[.pointer none],false⟩),
 (106,⟨.struct [(0,29,2),(2,26,3),(5,33,1)],6,144,[.slice none 0 0,.slice none 0 0,.slice none 0 0,.slice none 0 0,.slice none 0 0,.slice none 0 0],true⟩),
 (107,⟨.struct [(0,29,2),(2,26,3),(5,33,1)],6,144,[.slice none 0 0,.slice none 0 0,.slice none 0 0,.slice none 0 0,.slice none 0 0,.slice none 0 0],true⟩),
 (110,⟨.ptr 29,1,8,[.pointer none],false⟩),
 (111,⟨.slice 29,1,24,[.slice none 0 0],false⟩),
 (116,⟨.ptr 119,1,8,[.pointer none],false⟩),
 (117,⟨.slice 5,1,24,[.slice none 0 0],false⟩),
 (118,⟨.struct [(0,117,1)],1,24,[.slice none 0 0],true⟩),
 (119,⟨.struct [(0,117,1)],1,24,[.slice none 0 0],true⟩),
 (123,⟨.ptr 125,1,8,[.pointer none],false⟩),
 (124,⟨.struct [(0,9,1),(1,4,1)],2,24,[.string ⟨#[]⟩,.bool false],true⟩),
 (125,⟨.struct [(0,9,1),(1,4,1)],2,24,[.string ⟨#[]⟩,.bool false],true⟩),
 (147,⟨.struct [(0,87,5),(5,33,1),(6,77,1),(7,4,1)],8,128,[.int .i64 0,.slice none 0 0,.int .i64 0,.slice none 0 0,.int .i64 0,.slice none 0 0,.slice none 0 0,.bool false],true⟩),
 (148,⟨.struct [(0,87,5),(5,33,1),(6,77,1),(7,4,1)],8,128,[.int .i64 0,.slice none 0 0,.int .i64 0,.slice none 0 0,.int .i64 0,.slice none 0 0,.slice none 0 0,.bool false],true⟩),
 (150,⟨.slice 4,1,24,[.slice none 0 0],false⟩),
 (153,⟨.struct [(0,3,1),(1,3,1)],2,16,[.int .i64 0,.int .i64 0],true⟩),
 (154,⟨.struct [(0,3,1),(1,3,1)],2,16,[.int .i64 0,.int .i64 0],true⟩),
 (155,⟨.struct [(0,3,1),(1,3,1),(2,3,1),(3,84,1)],4,48,[.int .i64 0,.int .i64 0,.int .i64 0,.slice none 0 0],true⟩),
 (156,⟨.struct [(0,3,1),(1,3,1),(2,3,1),(3,84,1)],4,48,[.int .i64 0,.int .i64 0,.int .i64 0,.slice none 0 0],true⟩),
 (171,⟨.map 31 3,1,8,[.map none],false⟩),
 (174,⟨.int .u32,1,4,[.int .u32 0],false⟩),
 (175,⟨.int .u64,1,8,[.int .u64 0],false⟩),
 (181,⟨.ptr 183,1,8,[.pointer none],false⟩),
 (182,⟨.struct [(0,87,5),(5,33,1),(6,22,1),(7,150,1),(8,3,1),(9,77,1)],10,176,[.int .i64 0,.slice none 0 0,.int .i64 0,.slice none 0 0,.int .i64 0,.slice none 0 0,.slice none 0 0,.slice none 0 0,.int .i64 0,.slice none 0 0],true⟩),
 (183,⟨.struct [(0,87,5),(5,33,1),(6,22,1),(7,150,1),(8,3,1),(9,77,1)],10,176,[.int .i64 0,.slice none 0 0,.int .i64 0,.slice none 0 0,.int .i64 0,.slice none 0 0,.slice none 0 0,.slice none 0 0,.int .i64 0,.slice none 0 0],true⟩),
 (189,⟨.slice 191,1,24,[.slice none 0 0],false⟩),
 (191,⟨.ptr 193,1,8,[.pointer none],false⟩),
 (192,⟨.struct [(0,22,1),(1,22,1)],2,48,[.slice none 0 0,.slice none 0 0],true⟩),
 (193,⟨.struct [(0,22,1),(1,22,1)],2,48,[.slice none 0 0,.slice none 0 0],true⟩),
 (197,⟨.ptr 148,1,8,[.pointer none],false⟩),
 (214,⟨.ptr 216,1,8,[.pointer none],false⟩),
 (215,⟨.struct [(0,27,1),(1,171,1)],2,32,[.slice none 0 0,.map none],true⟩),
 (216,⟨.struct [(0,27,1),(1,171,1)],2,32,[.slice none 0 0,.map none],true⟩),
 (240,⟨.slice 309,1,24,[.slice none 0 0],false⟩),
 (244,⟨.slice 32,1,24,[.slice none 0 0],false⟩),
 (248,⟨.slice 85,1,24,[.slice none 0 0],false⟩),
 (253,⟨.int .i64,1,8,[.int .i64 0],false⟩),
 (261,⟨.int .u64,1,8,[.int .u64 0],false⟩),
 (273,⟨.int .u64,1,8,[.int .u64 0],false⟩),
 (277,⟨.ptr 3,1,8,[.pointer none],false⟩),
 (284,⟨.ptr 286,1,8,[.pointer none],false⟩),
 (285,⟨.struct [(0,26,3),(3,33,1),(4,240,1)],5,120,[.slice none 0 0,.slice none 0 0,.slice none 0 0,.slice none 0 0,.slice none 0 0],true⟩),
 (286,⟨.struct [(0,26,3),(3,33,1),(4,240,1)],5,120,[.slice none 0 0,.slice none 0 0,.slice none 0 0,.slice none 0 0,.slice none 0 0],true⟩),
 (288,⟨.ptr 273,1,8,[.pointer none],false⟩),
 (292,⟨.slice 296,1,24,[.slice none 0 0],false⟩),
 (295,⟨.struct [(0,3,1),(1,3,1),(2,9,1)],3,32,[.int .i64 0,.int .i64 0,.string ⟨#[]⟩],true⟩),
 (296,⟨.struct [(0,3,1),(1,3,1),(2,9,1)],3,32,[.int .i64 0,.int .i64 0,.string ⟨#[]⟩],true⟩),
 (301,⟨.ptr 303,1,8,[.pointer none],false⟩),
 (302,⟨.struct [(0,9,1),(1,3,1)],2,24,[.string ⟨#[]⟩,.int .i64 0],true⟩),
 (303,⟨.struct [(0,9,1),(1,3,1)],2,24,[.string ⟨#[]⟩,.int .i64 0],true⟩),
 (308,⟨.struct [(0,95,2),(2,3,1),(3,22,1)],4,64,[.int .i64 0,.slice none 0 0,.int .i64 0,.slice none 0 0],true⟩),
 (309,⟨.struct [(0,95,2),(2,3,1),(3,22,1)],4,64,[.int .i64 0,.slice none 0 0,.int .i64 0,.slice none 0 0],true⟩),
 (319,⟨.slice 33,1,24,[.slice none 0 0],false⟩),
 (322,⟨.struct [(0,17,1),(1,17,1),(2,17,1),(3,9,1)],4,40,[.pointer none,.pointer none,.pointer none,.string ⟨#[]⟩],false⟩),
 (323,⟨.struct [(0,17,1),(1,17,1),(2,17,1),(3,9,1)],4,40,[.pointer none,.pointer none,.pointer none,.string ⟨#[]⟩],false⟩),
 (325,⟨.struct [(0,324,0)],0,0,[],false⟩),
 (326,⟨.struct [(0,324,0)],0,0,[],false⟩),
 (328,⟨.int .u8,1,1,[.int .u8 0],false⟩),
 (329,⟨.int .u8,1,1,[.int .u8 0],false⟩),
 (331,⟨.ptr 5,1,8,[.pointer none],false⟩),
 (332,⟨.int .i32,1,4,[.int .i32 0],false⟩),
 (333,⟨.int .i32,1,4,[.int .i32 0],false⟩),
 (334,⟨.struct [(0,12,1),(1,12,1),(2,174,1),(3,328,1),(4,5,1),(5,5,1),(6,329,1),(7,330,1),(8,331,1),(9,332,1),(10,333,1)],11,48,[.int .u64 0,.int .u64 0,.int .u32 0,.int .u8 0,.int .u8 0,.int .u8 0,.int .u8 0,.nilFunc,.pointer none,.int .i32 0,.int .i32 0],false⟩),
 (335,⟨.struct [(0,12,1),(1,12,1),(2,174,1),(3,328,1),(4,5,1),(5,5,1),(6,329,1),(7,330,1),(8,331,1),(9,332,1),(10,333,1)],11,48,[.int .u64 0,.int .u64 0,.int .u32 0,.int .u8 0,.int .u8 0,.int .u8 0,.int .u8 0,.nilFunc,.pointer none,.int .i32 0,.int .i32 0],false⟩)]
def bt:c8 prog U5:=by unfold c8;kernel_rfl
variable [Y0]
def i4 (c:UInt8):Bool:=decide ((97:Int)<=c.toNat)&&decide ((c.toNat:Int)<=122)
def k5 (c:UInt8):Bool:=decide ((65:Int)<=c.toNat)&&decide ((c.toNat:Int)<=90)
def dc (c:UInt8):Bool:=decide ((48:Int)<=c.toNat)&&decide ((c.toNat:Int)<=57)
def gl (c:UInt8):Bool:=i4 c||k5 c
def ew (c:UInt8):Bool:=gl c||dc c
def dv (p:UInt8->Bool):List UInt8->Nat
 | []=>0
 | c::l=>if p c then dv p l+1 else 0
def zq (p:UInt8->Bool):∀ l,dv p l<=l.length
 | []=>Af _
 | c::l=>by
  unfold dv
  have:=zq p l
  split<;>simp<;>omega
def xg (p:UInt8->Bool) (l:List UInt8) (i:Nat) (h:i<l.length) (f:p l[i]=true):dv p (l.drop i)=dv p (l.drop (i+1))+1:=by rw [An h,dv,if_pos f]
def Re (p:UInt8->Bool) (l:List UInt8) (i:Nat) (h:i<l.length) (f:p l[i]=false):dv p (l.drop i)=0:=by rw [An h,dv,if_neg<|by rw [f];exact C7]
def Mk (p:UInt8->Bool) (l:List UInt8) (i:Nat) (h:l.length<=i):dv p (l.drop i)=0:=by rw [Ar h];rfl
def K6:List UInt8:=[40,41,44,46,60,61,43,45,42]
def og:List UInt8->Bool
 | a::b::_=>(a==58&&b==45)||(a==60&&b==61)||(a==33&&b==61)
 | _=>false
def ct:List UInt8->Int×Nat
 | []=>(0,0)
 | c::l=>if gl c then (if i4 c then 1 else 2,1+dv ew l)
  else if dc c then (3,1+dv dc l)
  else if og (c::l) then (4,2)
  else if K6.contains c then (4,1)
  else (0,0)
structure Zz where
 R0:Int
 at_:Int
 text:ByteArray
def yL {α:Type} (p:α->α->Bool):List α->List α->Bool
 | [],[]=>true
 | x::f,y::h=>p x y&&yL p f h
 | _,_=>false
def Zz.same (f:Bool) (x y:Zz):Bool:=decide (x.R0=y.R0)&&decide (x.text=y.text)&&(!f||decide (x.at_=y.at_))
def gq (c:UInt8) (l:List UInt8):ct (c::l)=(if gl c then (if i4 c then 1 else 2,1+dv ew l)
  else if dc c then (3,1+dv dc l)
  else if og (c::l) then (4,2)
  else if K6.contains c then (4,1)
  else (0,0)):=rfl
def bF (l:List UInt8):(ct l).2<=l.length:=by
 cases l with
 | nil=>simp [ct]
 | cons c l =>
  have f:=zq ew l;have h:=zq dc l;rw [gq];by_cases a:gl c=true
  ·rw [if_pos a];simp only [Ba];omega
  ·rw [if_neg a];by_cases b:dc c=true
   ·rw [if_pos b];simp only [Ba];omega
   ·rw [if_neg b];by_cases d:og (c::l)=true
    ·rw [if_pos d];cases l with
     | nil=>simp [og] at d
     | cons b l=>simp
    ·rw [if_neg d];by_cases e:K6.contains c=true
     ·rw [if_pos e];simp
     ·rw [if_neg e];simp
def Jk (l:List UInt8) (h:(ct l).1≠0):1<=(ct l).2:=by
 cases l with
 | nil=>simp [ct] at h
 | cons c l =>
  rw [gq] at h ⊢;by_cases a:gl c=true
  ·rw [if_pos a];simp
  ·rw [if_neg a] at h ⊢;by_cases b:dc c=true
   ·rw [if_pos b];simp
   ·rw [if_neg b] at h ⊢;by_cases d:og (c::l)=true
    ·rw [if_pos d];simp
    ·rw [if_neg d] at h ⊢;by_cases e:K6.contains c=true
     ·rw [if_pos e];simp
     ·rw [if_neg e] at h;simp at h
def fj (f:Int) (n:Nat) (c:UInt8):Int:=
 if f=0 then 1
 else if ((f=1∨f=2)/\12<n)∨(f=3/\7<n) then 2
 else if f=3/\1<n/\c=48 then 1
 else 0
def i5 (s:ByteArray):Nat->Bool->Nat->Except (Int×Int) (List Zz)
 | 0,_,_=>.ok []
 | f+1,j,i =>
  if h:i<s.size then
   if j||s[i]==37 then i5 s f (s[i] != 10) (i+1)
   else if s[i]==32||s[i]==9||s[i]==10 then i5 s f false (i+1)
   else
    let q:=ct (s.data.toList.drop i)
    if fj q.1 q.2 s[i]=0 then (i5 s f false<|i+q.2).map (Zz.mk q.1 i (s.extract i<|i+q.2)::·)
    else .error (i,fj q.1 q.2 s[i])
  else .ok []
def Un (s:ByteArray):∀ (f g:Nat) (j:Bool) (i:Nat),s.size-i<=f->s.size-i<=g->i5 s f j i=i5 s g j i:=by
 intro f;induction f with
 | zero =>
  intro g j i l m;cases g with
  | zero=>rfl
  | succ g=>simp only [i5];rw [dif_neg<|by omega]
 | succ f ih =>
  intro g j i l m;cases g with
  | zero=>simp only [i5];rw [dif_neg<|by omega]
  | succ g =>
   simp only [i5];by_cases h:i<s.size
   ·rw [dif_pos h,dif_pos h];split
    ·exact ih g _ _ (by omega)<|by omega
    ·split
     ·exact ih g _ _ (by omega)<|by omega
     ·split
      ·rename_i n;have o:(ct<|s.data.toList.drop i).1≠0:=λq=>by simp [fj,q] at n
       have:=Jk _ o
       rw [ih g _ _ (by omega)<|by omega]
      ·rfl
   ·rw [dif_neg h,dif_neg h]
def cy (s:ByteArray) (f:Bool) (i:Nat):Except (Int×Int) (List Zz):=i5 s (s.size-i) f i
def xk (s:ByteArray) (f:Bool) (i:Nat) (h:s.size<=i):cy s f i=.ok []:=by unfold cy;rw [show s.size-i=0 by omega];rfl
def zF (s:ByteArray) (f:Bool) (i:Nat) (h:i<s.size) (j:(f||s[i]==37)=true):cy s f i=cy s (s[i] != 10) (i+1):=by unfold cy;rw [show s.size-i=(s.size-(i+1))+1 by omega,i5,dif_pos h,if_pos j]
def eD (s:ByteArray) (i:Nat) (h:i<s.size) (f:(s[i]==37)=false) (hb:(s[i]==32||s[i]==9||s[i]==10)=true):cy s false i=cy s false (i+1):=by unfold cy;rw [show s.size-i=(s.size-(i+1))+1 by omega,i5,dif_pos h,if_neg (by simp [f]),if_pos hb]
def UI (s:ByteArray) (i:Nat) (h:i<s.size) (f:(s[i]==37)=false) (hb:(s[i]==32||s[i]==9||s[i]==10)=false) (j:fj (ct (s.data.toList.drop i)).1 (ct (s.data.toList.drop i)).2 s[i]≠0) :
  cy s false i=.error (i,fj (ct (s.data.toList.drop i)).1 (ct (s.data.toList.drop i)).2 s[i]):=by
 unfold cy;rw [show s.size-i=(s.size-(i+1))+1 by omega,i5,dif_pos h,if_neg (by simp [f]),if_neg<|by simp [hb]];exact if_neg j
def Ut (s:ByteArray) (i:Nat) (h:i<s.size) (j:(s[i]==37)=false) (hb:(s[i]==32||s[i]==9||s[i]==10)=false) (f:fj (ct (s.data.toList.drop i)).1 (ct (s.data.toList.drop i)).2 s[i]=0) :
  cy s false i=(cy s false (i+(ct (s.data.toList.drop i)).2)).map (Zz.mk (ct (s.data.toList.drop i)).1 i (s.extract i (i+(ct (s.data.toList.drop i)).2))::·):=by
 have l:(ct<|s.data.toList.drop i).1≠0:=λm=>by simp [fj,m] at f
 have:=Jk _ l
 unfold cy;rw [Un s (s.size-i) ((s.size-(i+1))+1) false i (Af _)<|by omega];rw [i5,dif_pos h,if_neg (by simp [j]),if_neg<|by simp [hb]];show (if _ then _ else _)=_;rw [if_pos f,Un s (s.size-(i+1)) (s.size-(i+(ct<|s.data.toList.drop i).2)) false _ (by omega)<|Af _]
def za (s:ByteArray):List Zz×Int×Int:=
 if 5000<s.size then ([],0,2) else match cy s false 0 with
  | .ok l=>(l,0,0)
  | .error (p,e)=>([],p,e)
attribute [irreducible] i4 k5 dc gl ew og dv ct fj i5 cy za yL Zz.same
open Go Go.RowKit
def AT (t:Zz):List D:=[.int .i64 t.R0,.int .i64 t.at_,.str t.text]
def xM (l:List Zz):D:=.slice 3<|l.map AT
abbrev NZ (dr:Bool) (f:FuncId) (args:List SV) (R:SV->Prop):Prop:=I3 dr prog U5 bt f args R
abbrev Fn (f:FuncId) (args:List SV) (R:SV->Prop):Prop:=I3 false prog U5 bt f args R
def qt (s:ByteArray) (i:Nat) (h:i<s.size):s.data.toList[i]'(by simpa using h)=s[i]'h:=by simp [ByteArray.getElem_eq_getElem_data]
structure Z1 where
 J1:Int
 L1:Int
structure U0 where
 N0:Int
 args:List Int
structure X0 where
 id:Z1
 P0:List Z1
 F1:List U0
 V0:List Z1
def fi (a b:Int):Int:=if a<b then -1 else if b<a then 1 else 0
def b9 (a b:Z1):Int:=if fi a.J1 b.J1=0 then fi a.L1 b.L1 else fi a.J1 b.J1
def dy:List Int->List Int->Int
 | [],[]=>0
 | [],_::_=>-1
 | _::_,[]=>1
 | a::l,b::m=>if fi a b=0 then dy l m else fi a b
def dg (a b:U0):Int:=if fi a.N0 b.N0=0 then dy a.args b.args else fi a.N0 b.N0
def dl {α:Type} (o:α->α->Int):List α->Bool
 | a::b::l=>decide (o a b<0)&&dl o (b::l)
 | _=>true
def L5 (n a b:Int):Bool:=decide (a<=n)&&decide (n<=b)
def Q3 (n:Int):Bool:=L5 n (-1000000) 1000000
def Zo (i:Z1):Bool:=L5 i.J1 0 5&&L5 i.L1 1 200
def Z1.same (a b:Z1):Bool:=decide (a.J1=b.J1)&&decide (a.L1=b.L1)
def J5 (f:U0):Bool:=L5 f.N0 0 9&&(decide (f.args.length<=3)&&f.args.all Q3)
def cp (u:X0):Int:=
 if Zo u.id=false then 3
 else if 6<u.P0.length∨6<u.F1.length∨6<u.V0.length then 2
 else if u.P0.all Zo=false∨u.V0.all Zo=false then 3
 else if dl b9 u.P0=false∨dl b9 u.V0=false then 4
 else if 1<u.id.L1/\(u.P0.any λi=>i.same ⟨u.id.J1,u.id.L1-1⟩)=false then 5
 else if u.F1.all J5=false then 3
 else if dl dg u.F1=false then 4
 else 0
def Lq (n:Nat):Nat->List UInt8
 | 0=>[]
 | k+1=>UInt8.ofNat n::Lq (n/256) k
def put (n:Int) (k:Nat):List UInt8:=Lq (n%4294967296).toNat k
def kg (i:Z1):List UInt8:=put i.J1 1++put i.L1 2
def l9 (l:List Z1):List UInt8:=put l.length 1++l.flatMap kg
def pf (f:U0):List UInt8:=put f.N0 1++put f.args.length 1++f.args.flatMap λn=>put n 4
def r6 (u:X0):List UInt8:=kg u.id++l9 u.P0++put u.F1.length 1++u.F1.flatMap pf++l9 u.V0
def QG:List UInt8->Nat
 | []=>0
 | b::l=>b.toNat+256*QG l
def pN (n:Nat):Int:=if 2147483647<n then (n:Int)-4294967296 else n
abbrev Rd:=Option (List UInt8)
def tk (k:Nat):Rd->Int×Rd
 | none=>(0,none)
 | some l=>if l.length<k then (0,none) else (pN (QG (l.take k)),some (l.drop k))
def fF (k:Nat) (l:List UInt8):tk k (some l)=if l.length<k then (0,none) else (pN (QG (l.take k)),some (l.drop k)):=rfl
def f9 (r:Rd):Z1×Rd:=(⟨(tk 1 r).1,(tk 2 (tk 1 r).2).1⟩,(tk 2 (tk 1 r).2).2)
def f8 {α:Type} (f:Rd->α×Rd):Nat->Rd->List α×Rd
 | 0,r=>([],r)
 | _+1,none=>([],none)
 | n+1,some l=>((f (some l)).1::(f8 f n (f (some l)).2).1,(f8 f n (f (some l)).2).2)
def di {α:Type} (f:Rd->α×Rd) (r:Rd):List α×Rd:=f8 f (tk 1 r).1.toNat (tk 1 r).2
def ip (r:Rd):U0×Rd:=(⟨(tk 1 r).1,(di (tk 4) (tk 1 r).2).1⟩,(di (tk 4) (tk 1 r).2).2)
def rB (r:Rd):X0×Rd:=
 let a:=f9 r
 let b:=di f9 a.2
 let c:=di ip b.2
 let d:=di f9 c.2
 (⟨a.1,b.1,c.1,d.1⟩,d.2)
def TL:X0:=⟨⟨0,0⟩,[],[],[]⟩
def qy (s:List UInt8):X0×Int:=
 match rB (some s) with
 | (u,some [])=>if cp u=0 then (u,0) else (TL,cp u)
 | _=>(TL,1)
def e8 {α:Type} (p:α->α->Bool):List α->List α->Bool
 | [],[]=>true
 | x::f,y::h=>p x y&&e8 p f h
 | _,_=>false
def U0.same (x y:U0):Bool:=decide (dg x y=0)
def X0.same (a b:X0):Bool:=a.id.same b.id&&(e8 Z1.same a.P0 b.P0&&(e8 U0.same a.F1 b.F1&&e8 Z1.same a.V0 b.V0))
def Vc (a:Int):fi a a=0:=by unfold fi;rw [if_neg (by omega),if_neg<|by omega]
def sg {a b:Int} (h:fi a b=0):a=b:=by
 unfold fi at h;split at h
 ·cases h
 ·split at h
  ·cases h
  ·omega
def Ol:∀ l:List Int,dy l l=0
 | []=>rfl
 | a::l=>by unfold dy;rw [if_pos (Vc a)];exact Ol l
def ol (f:U0):dg f f=0:=by unfold dg;rw [if_pos<|Vc _];exact Ol _
def eo {α:Type} {p:α->α->Bool} (f:∀ x,p x x=true):∀ l,e8 p l l=true
 | []=>rfl
 | x::l=>by unfold e8;rw [f x,eo f l];rfl
def Z1.T3 (a:Z1):a.same a=true:=by unfold Z1.same;simp
def X0.T3 (u:X0):u.same u=true:=by unfold X0.same;rw [Z1.T3,eo Z1.T3,eo Z1.T3,eo λx=>by unfold U0.same;simp [ol]];rfl
def xm {α:Type} (p:α->α->Bool) (xs ys:List α) (k:Nat) (h1:k<xs.length) (f:k<ys.length) :
  e8 p (xs.drop k) (ys.drop k)=(p xs[k] ys[k]&&e8 p (xs.drop (k+1)) (ys.drop (k+1))):=by
 rw [An h1,An f];rfl
def Vb {α:Type} (p:α->α->Bool) (xs ys:List α) (k:Nat) (h1:xs.length<=k) (f:ys.length<=k) :
  e8 p (xs.drop k) (ys.drop k)=true:=by
 rw [Ar h1,Ar f];rfl
def vb {α:Type} (p:α->α->Bool):∀ (xs ys:List α),xs.length≠ys.length->e8 p xs ys=false
 | [],[],h=>absurd rfl h
 | [],_::_,_=>rfl
 | _::_,[],_=>rfl
 | x::xs,y::ys,h=>by rw [e8,vb p xs ys (λe=>h (by simp [e])),Bool.and_false]
def pc:∀ (k n:Nat),(Lq n k).length=k
 | 0,_=>rfl
 | k+1,n=>by simp [Lq,pc k]
def gM:∀ (k n:Nat),QG (Lq n k)=n%256 ^ k
 | 0,n=>by simp [Lq,QG,Nat.mod_one]
 | k+1,n=>by
  have e:(UInt8.ofNat n).toNat=n%256:=by simp
  simp only [Lq,QG,gM k,e];rw [Nat.pow_succ,Nat.mul_comm (256 ^ k) 256,Nat.mod_mul]
def BI (k:Nat) (n:Int) (r:List UInt8):tk k (some (put n k++r))=(pN ((n%4294967296).toNat%256 ^ k),some r):=by have f:(put n k).length=k:=pc k _;rw [fF,if_neg (by rw [Ag,f];omega),List.take_append_of_le_length (by omega),List.take_of_length_le (by omega),List.drop_append_of_le_length (by omega),Ar<|by omega];unfold put;rw [gM];rfl
def F' (n:Int) (r:List UInt8) (f:0<=n) (h1:n<256):tk 1 (some (put n 1++r))=(n,some r):=by
 rw [BI];have:((n%4294967296).toNat%256 ^ 1:Nat)=n.toNat:=by omega
 rw [this];unfold pN;rw [if_neg (by omega),B9 f]
def tk2 (n:Int) (r:List UInt8) (f:0<=n) (h1:n<65536):tk 2 (some (put n 2++r))=(n,some r):=by
 rw [BI];have:((n%4294967296).toNat%256 ^ 2:Nat)=n.toNat:=by omega
 rw [this];unfold pN;rw [if_neg (by omega),B9 f]
def tk4 (n:Int) (r:List UInt8) (h:Q3 n=true):tk 4 (some (put n 4++r))=(n,some r):=by
 rw [BI];unfold Q3 L5 at h;simp only [Ae,decide_eq_true_eq] at h;have:(((n%4294967296).toNat%256 ^ 4:Nat):Int)=n%4294967296:=by omega
 unfold pN;congr 1;split<;>omega
def Uu {α:Type} {f:Rd->α×Rd} {p:α->List UInt8} {ok:α->Bool} (h:∀ x r,ok x=true->f (some (p x++r))=(x,some r)):∀ (l:List α) (r:List UInt8),l.all ok=true->f8 f l.length (some (l.flatMap p++r))=(l,some r)
 | [],r,_=>rfl
 | x::l,r,i=>by
  simp only [List.all_cons,Ae] at i
  simp only [List.flatMap_cons,Bm,Ba,f8]
  rw [h x _ i.1]
  dsimp only
  rw [Uu h l r i.2]
def xr {α:Type} {f:Rd->α×Rd} {p:α->List UInt8} {ok:α->Bool} (h:∀ x r,ok x=true->f (some (p x++r))=(x,some r)) (l:List α) (r:List UInt8) (i:l.all ok=true) (j:l.length<256) :
  di f (some (put l.length 1++l.flatMap p++r))=(l,some r):=by
 unfold di;rw [Bm,F' _ _ (by omega)<|by omega];dsimp only;rw [Int.toNat_natCast];exact Uu h l r i
def vv {i:Z1} (h:Zo i=true):0<=i.J1/\i.J1<=5/\1<=i.L1/\i.L1<=200:=by unfold Zo L5 at h;simp only [Ae,decide_eq_true_eq] at h;omega
def Vu (i:Z1) (r:List UInt8) (h:Zo i=true):f9 (some (kg i++r))=(i,some r):=by obtain⟨f,j,l,m⟩:=vv h;unfold f9 kg;rw [Bm,F' _ _ f<|by omega];dsimp only;rw [tk2 _ _ (by omega)<|by omega]
def Vn {f:U0} (h:J5 f=true):0<=f.N0/\f.N0<=9/\f.args.length<=3/\f.args.all Q3=true:=by unfold J5 L5 at h;simp only [Ae,decide_eq_true_eq] at h;exact⟨h.1.1,h.1.2,h.2.1,h.2.2⟩
def lJ (f:U0) (r:List UInt8) (h:J5 f=true):ip (some (pf f++r))=(f,some r):=by
 obtain⟨i,m,o,j⟩:=Vn h;unfold ip pf;have e:put f.N0 1++put f.args.length 1++(f.args.flatMap λn=>put n 4)++r=put f.N0 1++(put f.args.length 1++(f.args.flatMap λn=>put n 4)++r):=by simp
 rw [e,F' _ _ i<|by omega];dsimp only;rw [xr (f:=tk 4) (p:=λn=>put n 4) (ok:=Q3) (λx r l=>tk4 x r l) f.args r j<|by omega]
structure MZ (u:X0):Prop where
 id:Zo u.id=true
 np:u.P0.length<=6
 ns:u.F1.length<=6
 nt:u.V0.length<=6
 P0:u.P0.all Zo=true
 V0:u.V0.all Zo=true
 F1:u.F1.all J5=true
def Bb {u:X0} (h:cp u=0):MZ u:=by
 unfold cp at h;split at h
 ·cases h
 split at h
 ·cases h
 split at h
 ·cases h
 split at h
 ·cases h
 split at h
 ·cases h
 split at h
 ·cases h
 rename_i i l f m n j;simp only [Bool.not_eq_false,not_or] at i l f j;exact⟨i,by omega,by omega,by omega,f.1,f.2,j⟩
def CA {u:X0} (h:cp u=0):qy (r6 u)=(u,0):=by
 have g:=Bb h;have i:rB (some<|r6 u)=(u,some []):=by
  have e:r6 u=kg u.id++(put u.P0.length 1++u.P0.flatMap kg++(put u.F1.length 1++u.F1.flatMap pf++(put u.V0.length 1++u.V0.flatMap kg++[]))):=by
   unfold r6 l9;simp
  unfold rB;rw [e,Vu _ _ g.id];dsimp only;rw [xr (λx r f=>Vu x r f) u.P0 _ g.P0<|by have:=g.np;omega];dsimp only;rw [xr (λx r f=>lJ x r f) u.F1 _ g.F1<|by have:=g.ns;omega];dsimp only;rw [xr (λx r f=>Vu x r f) u.V0 _ g.V0<|by have:=g.nt;omega]
 unfold qy;rw [i];dsimp only;rw [if_pos h]
def zD:∀ l:List UInt8,QG l<256 ^ l.length
 | []=>by simp [QG]
 | b::l=>by
  have f:=b.toNat_lt
  have:=zD l
  simp only [QG,Ba,Nat.pow_succ]
  omega
def SU {k:Nat}:tk k none=(0,none):=rfl
def RU {k:Nat} {r:Rd} {n:Int} {q:List UInt8} (h:tk k r=(n,some q)):∃ l,r=some l:=by
 cases r with
 | none=>rw [SU] at h;cases h
 | some l=>exact⟨l,rfl⟩
def aN {r:Rd} {n:Int} {q:List UInt8} (h:tk 1 r=(n,some q)):0<=n/\n<256:=by
 obtain⟨l,rfl⟩:=RU h;rw [fF] at h;split at h
 ·cases h
 ·injection h with h1 h2
  have f:=zD<|l.take 1;rw [List.length_take] at f;have:min 1 l.length=1:=by omega
  rw [this] at f;rw [<- h1];unfold pN;split<;>omega
def mv {α:Type} (p:α->Bool) (l:List α):Int:=match l.findIdx? p with
 | some i=>i
 | none=>-1
def kr {α:Type} {p:α->Bool} {l:List α} {i:Nat} (h:∀ j (f:j<l.length),j<i->p l[j]=false) (hi:i<l.length) (m:p l[i]=true):mv p l=i:=by
 unfold mv;have:l.findIdx? p=some i:=by
  rw [E7];exact⟨hi,m,λj f=>by simpa using h j (by omega) f⟩
 rw [this]
def j7 {α:Type} {p:α->Bool} {l:List α} (h:∀ j (n:j<l.length),p l[j]=false):mv p l = -1:=by
 unfold mv;have:l.findIdx? p=none:=by
  rw [F7];intro x f;obtain⟨i,m,rfl⟩:=List.mem_iff_getElem.1 f;exact h i m
 rw [this]
def ra {α:Type} (p:α->Bool) (l:List α):decide (mv p l ≥ 0)=l.any p:=by
 unfold mv;cases h:l.findIdx? p with
 | none =>
  rw [F7] at h;have:l.any p=false:=by
   rw [Hr];intro x f;rw [h x f];exact C7
  rw [this];rfl
 | some i =>
  rw [E7] at h;obtain⟨j,m,_⟩:=h;have:l.any p=true:=List.any_eq_true.2 ⟨l[i],Ah j,m⟩
  rw [this];exact decide_eq_true<|by show (0:Int)<=(i:Int);omega
def ja {α:Type} {p:α->Bool} {l:List α} {i:Nat} (h:∀ j (f:j<l.length),j<i->p l[j]=false) (hi:i<l.length) (m:p l[i]=false):∀ j (f:j<l.length),j<i+1->p l[j]=false:=by
 intro j f o;by_cases n:j=i
 ·subst n;exact m
 ·exact h j f<|by omega
def any_none {α:Type} {p:α->Bool} {l:List α} (h:∀ j (n:j<l.length),p l[j]=false):l.any p=false:=by rw [Hr];intro x f;obtain⟨i,m,rfl⟩:=List.mem_iff_getElem.1 f;rw [h i m];exact C7
def RW {α:Type} {p:α->Bool} {l:List α} {i:Nat} (hi:i<l.length) (f:p l[i]=true):l.any p=true:=List.any_eq_true.2 ⟨l[i],Ah hi,f⟩
def Yr {α:Type} (p:α->Bool) (l:List α):l.all p = !l.any λx=>!p x:=by
 induction l with
 | nil=>rfl
 | cons x l ih=>simp [ih]
attribute [local irreducible] DW DS DL DQ Ev X1 I3 du bl DT
def aq (n:Int):List D:=[.int .i64 n]
def ay (i:Z1):List D:=[.int .i64 i.J1,.int .i64 i.L1]
def aa (f:U0):List D:=[.int .i64 f.N0,.slice 1<|f.args.map aq]
def ak (u:X0):List D:=[.int .i64 u.id.J1,.int .i64 u.id.L1,.slice 2 (u.P0.map ay),.slice 2 (u.F1.map aa),.slice 2<|u.V0.map ay]
abbrev elI (n:Int):SV:=.i n
abbrev o5 (i:Z1):SV:=.agg [.i i.J1,.i i.L1]
abbrev jt (f:U0):SV:=.agg [.i f.N0,.s 1 (f.args.map aq)]
abbrev fg (u:X0):SV:=.agg [.i u.id.J1,.i u.id.L1,.s 2 (u.P0.map ay),.s 2 (u.F1.map aa),.s 2 (u.V0.map ay)]
def Tw {f:FuncId} {caps:List SV} (p:Z1->Bool) (l:List (Z1)) (o:SV.U1 0 caps=true) (u:∀ x∈l,Fn f (o5 x::caps) (λr=>r=.b (p x))):Fn 155 [.s 2 (l.map ay),.fn f caps] (λr=>r=.i (mv p l)):=by
 refine J2 func155 ?_;intro O z A C;refine cm (t:=0) rfl λm=>?_
 refine zS ?_;refine ae (ι:=Nat) (λi=>⟨0,[(0,.s 2<|l.map ay),(1,.fn f caps),(7,.i l.length),(8,.i i)],[]⟩)
  (λi=>i<=l.length/\∀ j (q:j<l.length),j<i->p l[j]=false) (λi=>l.length-i) 0 ⟨Ai _,λj _ h=>absurd h<|A2 j⟩
  (bk id ⟨rfl,congrArg (SV.fn f) (SV.O4 caps).symm,by simp;rfl,rfl,trivial⟩ trivial (by simp [Sl.low,SV.low,o]) rfl rfl rfl rfl rfl) ?_
 rintro i ⟨h1,h2⟩;refine zS ?_;refine a6 rfl (λh=>?_)<|λh=>?_
 ·have n:i<l.length:=by omega
  have v:=u l[i]<|Ah n;repeat' (first|refine zs ?_|(apply mi;(iterate 4 exact rfl);apply v;exact rfl;(assumption);exact rfl;rintro _ rfl))
  refine ee rfl (λm=>?_)<|λm=>?_
  ·refine zR ?_;exact bh rfl (kr h2 n m).symm
  ·refine zS ?_;exact⟨i+1,⟨n,ja h2 n m⟩,bk id ⟨rfl,congrArg (SV.fn f) (SV.O4 caps).symm,rfl,rfl,trivial⟩ trivial (by simp [Sl.low,SV.low,o]) rfl rfl rfl rfl rfl,by omega⟩
 ·refine zR ?_;exact bh rfl (j7 λj q=>h2 j q<|by omega).symm
def Pq {f:FuncId} {caps:List SV} (p:U0->Bool) (l:List (U0)) (o:SV.U1 0 caps=true) (u:∀ x∈l,Fn f (jt x::caps) (λr=>r=.b (p x))):Fn 159 [.s 2 (l.map aa),.fn f caps] (λr=>r=.i (mv p l)):=by
 refine J2 func159 ?_;intro O z A C;refine cm (t:=0) rfl λm=>?_
 refine zS ?_;refine ae (ι:=Nat) (λi=>⟨0,[(0,.s 2<|l.map aa),(1,.fn f caps),(7,.i l.length),(8,.i i)],[]⟩)
  (λi=>i<=l.length/\∀ j (q:j<l.length),j<i->p l[j]=false) (λi=>l.length-i) 0 ⟨Ai _,λj _ h=>absurd h<|A2 j⟩
  (bk id ⟨rfl,congrArg (SV.fn f) (SV.O4 caps).symm,by simp;rfl,rfl,trivial⟩ trivial (by simp [Sl.low,SV.low,o]) rfl rfl rfl rfl rfl) ?_
 rintro i ⟨h1,h2⟩;refine zS ?_;refine a6 rfl (λh=>?_)<|λh=>?_
 ·have n:i<l.length:=by omega
  have v:=u l[i]<|Ah n;repeat' (first|refine zs ?_|(apply mi;(iterate 4 exact rfl);apply v;exact rfl;(assumption);exact rfl;rintro _ rfl))
  refine ee rfl (λm=>?_)<|λm=>?_
  ·refine zR ?_;exact bh rfl (kr h2 n m).symm
  ·refine zS ?_;exact⟨i+1,⟨n,ja h2 n m⟩,bk id ⟨rfl,congrArg (SV.fn f) (SV.O4 caps).symm,rfl,rfl,trivial⟩ trivial (by simp [Sl.low,SV.low,o]) rfl rfl rfl rfl rfl,by omega⟩
 ·refine zR ?_;exact bh rfl (j7 λj q=>h2 j q<|by omega).symm
def Oq {f:FuncId} {caps:List SV} (p:Int->Bool) (l:List (Int)) (o:SV.U1 0 caps=true) (u:∀ x∈l,Fn f (elI x::caps) (λr=>r=.b (p x))):Fn 202 [.s 1 (l.map aq),.fn f caps] (λr=>r=.i (mv p l)):=by
 refine J2 func202 ?_;intro O z A C;refine cm (t:=0) rfl λm=>?_
 refine zS ?_;refine ae (ι:=Nat) (λi=>⟨0,[(0,.s 1<|l.map aq),(1,.fn f caps),(7,.i l.length),(8,.i i)],[]⟩)
  (λi=>i<=l.length/\∀ j (q:j<l.length),j<i->p l[j]=false) (λi=>l.length-i) 0 ⟨Ai _,λj _ h=>absurd h<|A2 j⟩
  (bk id ⟨rfl,congrArg (SV.fn f) (SV.O4 caps).symm,by simp;rfl,rfl,trivial⟩ trivial (by simp [Sl.low,SV.low,o]) rfl rfl rfl rfl rfl) ?_
 rintro i ⟨h1,h2⟩;refine zS ?_;refine a6 rfl (λh=>?_)<|λh=>?_
 ·have n:i<l.length:=by omega
  have v:=u l[i]<|Ah n;repeat' (first|refine zs ?_|(apply mi;(iterate 4 exact rfl);apply v;exact rfl;(assumption);exact rfl;rintro _ rfl))
  refine ee rfl (λm=>?_)<|λm=>?_
  ·refine zR ?_;exact bh rfl (kr h2 n m).symm
  ·refine zS ?_;exact⟨i+1,⟨n,ja h2 n m⟩,bk id ⟨rfl,congrArg (SV.fn f) (SV.O4 caps).symm,rfl,rfl,trivial⟩ trivial (by simp [Sl.low,SV.low,o]) rfl rfl rfl rfl rfl,by omega⟩
 ·refine zR ?_;exact bh rfl (j7 λj q=>h2 j q<|by omega).symm
def pp {f:FuncId} {caps:List SV} (p:Z1->Bool) (l:List (Z1)) (h:SV.U1 0 caps=true) (i:∀ x∈l,Fn f (o5 x::caps) (λr=>r=.b (p x))):Fn 107 [.s 2 (l.map ay),.fn f caps] (λr=>r=.b (l.any p)):=by
 refine J2 func107 ?_;intro O m n o;have j:=Tw p l h i;have q:SV.U1 0 [.s 2 (l.map ay),.fn f caps]=true:=by simp [SV.U1,SV.low,h]
 repeat' (first|refine zr ?_|refine z21 ?_ j|fail)
 exact bi rfl<|ra p l
def Lg {f:FuncId} {caps:List SV} (p:U0->Bool) (l:List (U0)) (h:SV.U1 0 caps=true) (i:∀ x∈l,Fn f (jt x::caps) (λr=>r=.b (p x))):Fn 111 [.s 2 (l.map aa),.fn f caps] (λr=>r=.b (l.any p)):=by
 refine J2 func111 ?_;intro O m n o;have j:=Pq p l h i;have q:SV.U1 0 [.s 2 (l.map aa),.fn f caps]=true:=by simp [SV.U1,SV.low,h]
 repeat' (first|refine zr ?_|refine z21 ?_ j|fail)
 exact bi rfl<|ra p l
def tp {f:FuncId} {caps:List SV} (p:Int->Bool) (l:List (Int)) (h:SV.U1 0 caps=true) (i:∀ x∈l,Fn f (elI x::caps) (λr=>r=.b (p x))):Fn 160 [.s 1 (l.map aq),.fn f caps] (λr=>r=.b (l.any p)):=by
 refine J2 func160 ?_;intro O m n o;have j:=Oq p l h i;have q:SV.U1 0 [.s 1 (l.map aq),.fn f caps]=true:=by simp [SV.U1,SV.low,h]
 repeat' (first|refine zr ?_|refine z21 ?_ j|fail)
 exact bi rfl<|ra p l
def vh {α:Type} {o:α->α->Int} {l:List α} {i:Nat} (hi:i+1<l.length) (h:0<=o (l[i]'(by omega)) l[i+1]):dl o (l.drop i)=false:=by rw [An (by omega),An hi,dl,decide_eq_false<|by omega];rfl
def K9 {α:Type} {o:α->α->Int} {l:List α} {i:Nat} (hi:i+1<l.length) (h:o (l[i]'(by omega)) l[i+1]<0):dl o (l.drop i)=dl o (l.drop (i+1)):=by rw [An (show i<l.length by omega),An hi,dl,decide_eq_true h];rfl
def vg {α:Type} {o:α->α->Int} {l:List α} {i:Nat} (hi:l.length<=i+1):dl o (l.drop i)=true:=by
 by_cases h:i<l.length
 ·rw [An h,Ar hi];unfold dl;rfl
 ·rw [Ar<|by omega];unfold dl;rfl
def xO (dr:Bool) (a:Int):NZ dr 201 [.i a] (λr=>r=.b false):=by refine J2 func201 ?_;intro O f h j;refine zR ?_;exact bi rfl<|by simp
def Ya (dr:Bool) (a b:Int):NZ dr 157 [.i a,.i b] (λr=>r=.i (fi a b)):=by
 refine J2 func157 ?_;intro O f h j;repeat' (first|refine zr ?_|refine z31 ?_ (hc:=by apply xO)|(refine zm ?_ ?_<;>intro l)|fail)
 all_goals exact bh rfl<|by unfold fi;simp [*]
def IK (a b:Int):Fn 157 [.i a,.i b] (λr=>r=.i (fi a b)):=Ya false a b
def SR:List Int->Int
 | []=>0
 | a::l=>if a=0 then SR l else a
def RR (dr:Bool) (l:List Int):NZ dr 156 [.s 1 (l.map aq)] (λr=>r=.i (SR l)):=by
 refine J2 func156 ?_;intro O n o q;refine cm (t:=0) rfl λf=>?_
 refine zS ?_;refine ae (ι:=Nat) (λi=>⟨0,[(3,.i 0),(6,.s 1<|l.map aq),(7,.i l.length),(8,.i i)],[]⟩)
  (λi=>i<=l.length/\SR l=SR (l.drop i)) (λi=>l.length-i) 0 ⟨Ai _,rfl⟩
  (er id ⟨rfl,rfl,by simp;rfl,rfl,trivial⟩) ?_
 rintro i ⟨h1,h2⟩;refine zS ?_;refine a6 rfl (λh=>?_)<|λh=>?_
 ·have j:i<l.length:=by omega
  have m:=An j;refine zS ?_;refine a6 rfl (λf=>?_)<|λf=>?_
  ·refine zR ?_;exact bh rfl<|by rw [h2,m,SR,if_neg f]
  ·refine zS ?_;exact⟨i+1,⟨j,by rw [h2,m,SR,if_pos<|Decidable.not_not.1 f]⟩,er id,by omega⟩
 ·refine zR ?_;exact bh rfl<|by rw [h2,Ar<|by omega];rfl
def qZ (l:List Int):Fn 156 [.s 1 (l.map aq)] (λr=>r=.i (SR l)):=RR false l
def PR (a b:Z1):b9 a b=SR [fi a.J1 b.J1,fi a.L1 b.L1]:=by
 unfold b9;simp only [SR];split
 ·split
  ·assumption
  ·rfl
 ·rfl
def Th (a b:Z1):Fn 109 [o5 a,o5 b] (λr=>r=.i (b9 a b)):=by
 refine J2 func109 ?_;intro O h j l;have f:=qZ [fi a.J1 b.J1,fi a.L1 b.L1];repeat' (first|refine zr ?_|refine z32 ?_ (hc:=by apply IK)|refine z22 ?_ f|fail)
 exact bh rfl (PR a b).symm
def Kc {l m:List Int} {i:Nat} (h1:i<l.length) (f:i<m.length):dy (l.drop i) (m.drop i)=if fi l[i] m[i]=0 then dy (l.drop (i+1)) (m.drop (i+1)) else fi l[i] m[i]:=by rw [An h1,An f,dy]
def wB {l m:List Int} {i:Nat} (h1:i<l.length) (f:m.length<=i):dy (l.drop i) (m.drop i)=1:=by rw [An h1,Ar f];unfold dy;rfl
def xB {l m:List Int} {i:Nat} (h1:l.length<=i) (f:i<m.length):dy (l.drop i) (m.drop i) = -1:=by rw [An f,Ar h1];unfold dy;rfl
def lG {l m:List Int} {i:Nat} (h1:l.length<=i) (f:m.length<=i):dy (l.drop i) (m.drop i)=0:=by rw [Ar h1,Ar f];unfold dy;rfl
def zc (dr:Bool) (l m:List Int):NZ dr 142 [.s 1 (l.map aq),.s 1 (m.map aq)] (λr=>r=.i (dy l m)):=by
 refine J2 func142 ?_;intro O u v z;refine cm (t:=0) rfl λf=>?_
 refine cm (t:=1) rfl λA=>?_
 refine zS ?_;refine ae (ι:=Nat) (λi=>⟨0,[(0,.s 1<|l.map aq),(1,.s 1<|m.map aq),(9,.s 1<|l.map aq),(10,.i l.length),(11,.i i)],[]⟩)
  (λi=>i<=l.length/\i<=m.length/\dy l m=dy (l.drop i) (m.drop i)) (λi=>l.length-i) 0 ⟨Ai _,Ai _,rfl⟩
  (er id ⟨rfl,rfl,rfl,by simp;rfl,rfl,trivial⟩) ?_
 rintro i ⟨h1,h2,h3⟩;refine zS ?_;refine a6 rfl (λh=>?_)<|λh=>?_
 ·have n:i<l.length:=by omega
  refine zS ?_;refine a6 rfl (λf=>?_)<|λf=>?_
  ·refine zR ?_;exact bh rfl<|by rw [h3,wB n<|by rw [Aa] at f;omega]
  ·have o:i<m.length:=by rw [Aa] at f;omega
   have q:=Kc n o;repeat' (first|refine zs ?_|refine z31 ?_ (hc:=by apply Ya)|fail)
   refine a6 rfl (λj=>?_)<|λj=>?_
   ·refine zR ?_;exact bh rfl<|by rw [h3,q,if_neg j]
   ·refine zS ?_;exact⟨i+1,⟨n,o,by rw [h3,q,if_pos<|Decidable.not_not.1 j]⟩,er id,by omega⟩
 ·refine zS ?_;refine a6 rfl (λf=>?_)<|λf=>?_
  ·refine zR ?_;exact bh rfl<|by rw [h3,xB (by omega)<|by rw [Aa,Aa] at f;omega]
  ·refine zR ?_;exact bh rfl<|by rw [h3,lG (by omega)<|by rw [Aa,Aa] at f;omega]
def GV (a b:U0):dg a b=SR [fi a.N0 b.N0,dy a.args b.args]:=by
 unfold dg;simp only [SR];split
 ·split
  ·assumption
  ·rfl
 ·rfl
def Iv (dr:Bool) (a b:U0):NZ dr 115 [jt a,jt b] (λr=>r=.i (dg a b)):=by
 refine J2 func115 ?_;intro O h j l;have f:=RR dr [fi a.N0 b.N0,dy a.args b.args];repeat' (first|refine zr ?_|refine z32 ?_ (hc:=by apply Ya)|refine z32 ?_ (hc:=by apply zc)|refine z22 ?_ f|fail)
 exact bh rfl (GV a b).symm
def Jc (a b:U0):Fn 115 [jt a,jt b] (λr=>r=.i (dg a b)):=Iv false a b
def Ku {f:FuncId} (o:Z1->Z1->Int) (l:List (Z1)) (u:∀ x y,Fn f [o5 x,o5 y] (λr=>r=.i (o x y))):Fn 108 [.s 2 (l.map ay),.fn f []] (λr=>r=.b (dl o l)):=by
 refine J2 func108 ?_;intro O z A C;refine cm (t:=0) rfl λm=>?_
 refine zS ?_;refine ae (ι:=Nat) (λi=>⟨0,[(0,.s 2<|l.map ay),(1,.fn f []),(5,.i<|(i:Int)+1)],[]⟩)
  (λi=>i<=l.length/\dl o l=dl o (l.drop i)) (λi=>l.length-i) 0 ⟨Ai _,rfl⟩
  (er id) ?_
 rintro i ⟨h1,h2⟩;refine zS ?_;refine a6 rfl (λh=>?_)<|λh=>?_
 ·have n:i+1<l.length:=by have:=h;rw [Aa] at this;omega
  have e0:∀ (j:Nat) (q:j<l.length),j=i->l[j]'q=l[i]'(by omega):=by rintro j q rfl;rfl
  have v:=u (l[((i:Int)+1-1).toNat]'(by omega))<|l[i+1]'n;repeat' (first|refine zs ?_|(apply kb;(iterate 4 exact rfl);apply v;exact rfl;(exact rfl);exact rfl;exact rfl;exact⟨_,rfl⟩;rintro _ rfl))
  refine a6 rfl (λm=>?_)<|λm=>?_
  ·refine zR ?_;rw [e0 _ _<|by omega] at m;exact bi rfl<|by rw [h2,vh n<|by omega]
  ·refine zS ?_;rw [e0 _ _<|by omega] at m;exact⟨i+1,⟨by omega,by rw [h2,K9 n<|by omega]⟩,er id,by omega⟩
 ·refine zR ?_;exact bi rfl<|by rw [h2,vg<|by have:=h;rw [Aa] at this;omega]
def NF {f:FuncId} (o:U0->U0->Int) (l:List (U0)) (u:∀ x y,Fn f [jt x,jt y] (λr=>r=.i (o x y))):Fn 114 [.s 2 (l.map aa),.fn f []] (λr=>r=.b (dl o l)):=by
 refine J2 func114 ?_;intro O z A C;refine cm (t:=0) rfl λm=>?_
 refine zS ?_;refine ae (ι:=Nat) (λi=>⟨0,[(0,.s 2<|l.map aa),(1,.fn f []),(5,.i<|(i:Int)+1)],[]⟩)
  (λi=>i<=l.length/\dl o l=dl o (l.drop i)) (λi=>l.length-i) 0 ⟨Ai _,rfl⟩
  (er id) ?_
 rintro i ⟨h1,h2⟩;refine zS ?_;refine a6 rfl (λh=>?_)<|λh=>?_
 ·have n:i+1<l.length:=by have:=h;rw [Aa] at this;omega
  have e0:∀ (j:Nat) (q:j<l.length),j=i->l[j]'q=l[i]'(by omega):=by rintro j q rfl;rfl
  have v:=u (l[((i:Int)+1-1).toNat]'(by omega))<|l[i+1]'n;repeat' (first|refine zs ?_|(apply kb;(iterate 4 exact rfl);apply v;exact rfl;(exact rfl);exact rfl;exact rfl;exact⟨_,rfl⟩;rintro _ rfl))
  refine a6 rfl (λm=>?_)<|λm=>?_
  ·refine zR ?_;rw [e0 _ _<|by omega] at m;exact bi rfl<|by rw [h2,vh n<|by omega]
  ·refine zS ?_;rw [e0 _ _<|by omega] at m;exact⟨i+1,⟨by omega,by rw [h2,K9 n<|by omega]⟩,er id,by omega⟩
 ·refine zR ?_;exact bi rfl<|by rw [h2,vg<|by have:=h;rw [Aa] at this;omega]
def KA (n a b:Int):Fn 154 [.i n,.i a,.i b] (λr=>r=.b (L5 n a b)):=by
 refine J2 func154 ?_;intro O f h j;repeat' (first|refine zr ?_|(refine zm ?_ ?_<;>intro l)|fail)
 all_goals exact bi rfl<|by unfold L5;first|(simp_all;done)|(simp_all;omega)
def vI (n a b:Int):Fn 181 [.i n,.i a,.i b] (λr=>r=.b (L5 n a b)):=by
 refine J2 func181 ?_;intro O f h j;repeat' (first|refine zr ?_|(refine zm ?_ ?_<;>intro l)|fail)
 all_goals exact bi rfl<|by unfold L5;first|(simp_all;done)|(simp_all;omega)
def aO (n:Int):Fn 162 [.i n] (λr=>r=.b (Q3 n)):=by
 refine J2 func162 ?_;intro O f h j;repeat' (first|refine zr ?_|refine z31 ?_ (hc:=by apply vI)|fail)
 exact bi rfl rfl
def rR (i:Z1):Fn 106 [o5 i] (λr=>r=.b (Zo i)):=by
 refine J2 func106 ?_;intro O f h j;repeat' (first|refine zr ?_|refine z31 ?_ (hc:=by apply KA)|(refine zm ?_ ?_<;>intro l)|fail)
 all_goals exact bi rfl<|by unfold Zo;simp [*]
def Js (i:Z1):Fn 105 [o5 i] (λr=>r=.b (!Zo i)):=by
 refine J2 func105 ?_;intro O f h j;repeat' (first|refine zr ?_|refine z31 ?_ (hc:=by apply rR)|fail)
 exact bi rfl rfl
def aS (n:Int):Fn 161 [elI n] (λr=>r=.b (!Q3 n)):=by
 refine J2 func161 ?_;intro O f h i;repeat' (first|refine zr ?_|refine z31 ?_ (hc:=by apply aO)|fail)
 exact bi rfl rfl
def mV (f:U0):Fn 113 [jt f] (λr=>r=.b (J5 f)):=by
 refine J2 func113 ?_;intro O i j l;have h:=tp (λn=>!Q3 n) f.args rfl λx _=>aS x
 repeat' (first|refine zr ?_|refine z31 ?_ (hc:=by apply KA)|refine z21 ?_ h|(refine zm ?_ ?_<;>intro m)|fail)
 all_goals exact bi rfl<|by unfold J5;rw [Yr];first|(simp_all;done)|(simp_all;omega)|(simp_all;intros;omega)
def dO (f:U0):Fn 112 [jt f] (λr=>r=.b (!J5 f)):=by
 refine J2 func112 ?_;intro O h i j;repeat' (first|refine zr ?_|refine z31 ?_ (hc:=by apply mV)|fail)
 exact bi rfl rfl
def EF {x y:Z1} {b:Bool} (h:(decide (y.J1=x.J1)&&(decide (y.L1=x.L1)&&true))=b):Z1.same x y=b:=by rw [<- h];unfold Z1.same;rw [Bool.and_true];congr 1<;>(rw [D6];simp;exact eq_comm)
def XJ (y:Z1) (l:List (Z1)):Fn 158 [.s 2 (l.map ay),o5 y] (λr=>r=.i (mv (λx=>Z1.same x y) l)):=by
 refine J2 func158 ?_;intro O o q u;refine cm (t:=0) rfl λf=>?_
 refine zS ?_;refine ae (ι:=Nat) (λi=>⟨1,[(0,.s 2<|l.map ay),(3,.loc 0 0),(7,.i l.length),(8,.i i)],[(0,.M1 31 [.i y.J1,.i y.L1])]⟩)
  (λi=>i<=l.length/\∀ j (n:j<l.length),j<i->Z1.same l[j] y=false) (λi=>l.length-i) 0 ⟨Ai _,λj _ h=>absurd h<|A2 j⟩
  (er id ⟨rfl,rfl,by simp;rfl,rfl,trivial⟩) ?_
 rintro i ⟨h1,h2⟩;refine zS ?_;refine a6 rfl (λh=>?_)<|λh=>?_
 ·have m:i<l.length:=by omega
  refine zS ?_;refine ee rfl (λf=>?_)<|λf=>?_
  ·refine zR ?_;exact bh rfl (kr (p:=λx=>Z1.same x y) h2 m<|EF f).symm
  ·refine zS ?_;exact⟨i+1,⟨m,ja (p:=λx=>Z1.same x y) h2 m<|EF f⟩,er id,by omega⟩
 ·refine zR ?_;exact bh rfl (j7 λj n=>h2 j n<|by omega).symm
def DA (y:Z1) (l:List Z1):Fn 110 [.s 2 (l.map ay),o5 y] (λr=>r=.b (l.any λx=>x.same y)):=by
 refine J2 func110 ?_;intro O f h i;repeat' (first|refine zr ?_|refine z31 ?_ (hc:=by apply XJ)|fail)
 exact bi rfl<|ra _ l
def si (u:X0):Fn 50 [fg u] (λr=>r=.i (cp u)):=by
 refine J2 func50 ?_;intro O F G J;have j:=pp (λi=>!Zo i) u.P0 rfl λx _=>Js x
 have l:=pp (λi=>!Zo i) u.V0 rfl λx _=>Js x
 have q:=Ku b9 u.P0 Th;have s:=Ku b9 u.V0 Th;have v:=DA ⟨u.id.J1,u.id.L1-1⟩ u.P0;have m:=Lg (λf=>!J5 f) u.F1 rfl λx _=>dO x
 have z:=NF dg u.F1 Jc;have n:=Js u.id;rw [<- Ht (b:=u.P0.any _),<- Yr] at j;rw [<- Ht (b:=u.V0.any _),<- Yr] at l;rw [<- Ht (b:=u.F1.any _),<- Yr] at m;unfold cp;have A:=λh=>(vv (i:=u.id) h).2.2.2
 have C:=λh=>(vv (i:=u.id) h).2.2.1
 generalize Zo u.id=o at *;have E:o=false∨(o=true/\1<=u.id.L1/\u.id.L1<=200):=by
  cases o with
  | false=>exact .inl rfl
  | true=>exact .inr ⟨rfl,C rfl,A rfl⟩
 clear A C;rcases E with rfl|⟨rfl,M,N⟩
 ·repeat' (first|refine zr ?_|(apply mi;(iterate 4 exact rfl);apply n;exact rfl;(exact rfl);exact rfl;rintro _ rfl))
  all_goals exact bh rfl<|by simp
 generalize (u.P0.all λx=>Zo x)=P at *;generalize (u.V0.all λx=>Zo x)=R at *;generalize dl b9 u.P0=S at *;generalize dl b9 u.V0=T at *;generalize (u.P0.any λx=>x.same ⟨u.id.J1,u.id.L1-1⟩)=U at *;generalize (u.F1.all λx=>J5 x)=V at *;generalize dl dg u.F1=W at *;repeat' (first|refine zr ?_|(apply mi;(iterate 4 exact rfl);apply n;exact rfl;(exact rfl);exact rfl;rintro _ rfl)|refine z21 ?_ j|refine z21 ?_ l|refine z21 ?_ q|refine z21 ?_ s|refine z21 ?_ v|refine z21 ?_ m|refine z21 ?_ z|(refine zm ?_ ?_<;>intro Y)|fail)
 all_goals
  refine bh rfl ?_;clear j l q s v m z n;first|(simp_all;done)|(simp_all;omega)|(simp_all;intros;omega)
def tq (n a b:Int):Fn 80 [.i n,.i a,.i b] (λr=>r=.b (decide (a<=n)&&decide (n<=b))):=by
 refine J2 func80 ?_;intro O f h j;repeat' (first|refine zr ?_|(refine zm ?_ ?_<;>intro l)|fail)
 all_goals exact bi rfl<|by first|(simp_all;done)|(simp_all;omega)
def Qw (c:UInt8):Fn 233 [.d (.int .u8 (c.toNat:Int))] (λr=>r=.b (i4 c)):=by
 refine J2 func233 ?_;intro O f h i;repeat' (first|refine zr ?_|refine z31 ?_ (hc:=by apply tq)|fail)
 all_goals exact bi rfl<|by unfold i4;rfl
def Wo (c:UInt8):Fn 231 [.d (.int .u8 (c.toNat:Int))] (λr=>r=.b (gl c)):=by
 refine J2 func231 ?_;intro O h i j;repeat' (first|refine zr ?_|refine z31 ?_ (hc:=by apply tq)|refine z31 ?_ (hc:=by apply Qw)|(refine zm ?_ ?_<;>intro f)|fail)
 all_goals exact bi rfl<|by unfold gl k5;rw [f];rfl
def Vf (c:UInt8):Fn 232 [.d (.int .u8 (c.toNat:Int))] (λr=>r=.b (dc c)):=by
 refine J2 func232 ?_;intro O f h i;repeat' (first|refine zr ?_|refine z31 ?_ (hc:=by apply tq)|fail)
 all_goals exact bi rfl<|by unfold dc;rfl
def ext2 (s:ByteArray) (i:Nat) (h:i+1<s.size):s.extract i (i+2)=⟨#[s[i],s[i+1]]⟩:=by
 apply ByteArray.ext;simp only [ByteArray.data_extract];apply Array.toList_inj.1;rw [Array.toList_extract];have f:s.data.toList.length=s.size:=by simp
 rw [List.extract_eq_take_drop,show i+2-i=2 by omega,An (by omega),An (by omega),qt _ _ (by omega),qt _ _<|by omega];rfl
def fG (s:ByteArray) (i:Nat) (h:i+1<s.size):og (s[i]::s.data.toList.drop (i+1))=(decide (s.extract i (i+2)=⟨#[58,45]⟩)||decide (s.extract i (i+2)=⟨#[60,61]⟩)||decide (s.extract i (i+2)=⟨#[33,61]⟩)):=by
 have j:s.data.toList.length=s.size:=by simp
 have f:∀ a b c d:UInt8,decide ((⟨#[a,b]⟩:ByteArray)=⟨#[c,d]⟩)=(a==c&&b==d):=λa b c d=>by
  rw [D6];simp
 rw [ext2 s i h,f,f,f,An (by omega),qt _ _ (by omega),og]
def Kt (c:UInt8) (i:Nat) (h:i<(⟨#[40,41,44,46,60,61,43,45,42]⟩:ByteArray).size):(K6.drop i).contains c=(decide ((((⟨#[40,41,44,46,60,61,43,45,42]⟩:ByteArray)[i]'h).toNat:Int)=(c.toNat:Int))||(K6.drop (i+1)).contains c):=by have f:i<K6.length:=h;have e:K6[i]=(⟨#[40,41,44,46,60,61,43,45,42]⟩:ByteArray)[i]'h:=qt _ i h;rw [An f,List.contains_cons,e];congr 1;rw [D6];simp only [beq_iff_eq,decide_eq_true_eq];exact⟨λh=>by rw [h],λh=>(UInt8.toNat_inj.1<|by omega).symm⟩
def zI (s:ByteArray) (at_:Nat) (N:at_<s.size) (P:s.size<=5000) :
  Fn 203 [.t s,.i at_] (λr=>r=.M2 [.i (ct (s.data.toList.drop at_)).1,.i ((ct (s.data.toList.drop at_)).2:Nat)]):=by
 refine J2 func203 ?_;intro O R S T;repeat' (first|refine zs ?_|refine z31 ?_ (hc:=by apply Wo)|fail)
 have U:s.data.toList.length=s.size:=by simp
 have m:ct (s.data.toList.drop at_)=ct (s[at_]::s.data.toList.drop (at_+1)):=by
  rw [An (by omega),qt]
 refine ee rfl (λv=>?_)<|λv=>?_
 ·have f:ct (s.data.toList.drop at_)=(if i4 s[at_] then 1 else 2,1+dv ew (s.data.toList.drop<|at_+1)):=by
   rw [m,gq,if_pos v]
  refine zS ?_;refine ae (ι:=Nat) (λn=>⟨0,[(0,.t s),(1,.i at_),(6,.d<|.int .u8 s[at_].toNat),(7,.i n)],[]⟩)
   (λn=>1<=n/\at_+n<=s.size/\n+dv ew (s.data.toList.drop<|at_+n)=1+dv ew (s.data.toList.drop<|at_+1)) (λn=>s.size-n) 1 ⟨by omega,by omega,rfl⟩
   (er id) ?_
  rintro n ⟨h1,z,h3⟩;have A:(h:(at_:Int)+n<s.size)->ew (s[at_+n]'(by omega))=true->n+1+dv ew (s.data.toList.drop<|at_+(n+1))=1+dv ew (s.data.toList.drop<|at_+1):=λh j=>by
   have o:=xg ew s.data.toList (at_+n) (by omega) (by rw [qt _ _<|by omega];exact j);rw [<- Ew at_ n 1];omega
  have C:(h:(at_:Int)+n<s.size)->ew (s[at_+n]'(by omega))=false->1+dv ew (s.data.toList.drop<|at_+1)=n:=λh j=>by
   have o:=Re ew s.data.toList (at_+n) (by omega) (by rw [qt _ _<|by omega];exact j);omega
  have E:¬ (at_:Int)+n<s.size->1+dv ew (s.data.toList.drop<|at_+1)=n:=λh=>by
   have o:=Mk ew s.data.toList (at_+n) (by omega);omega
  clear m;repeat' (first|refine zr ?_|refine z31 ?_ (hc:=by apply Wo)|refine z31 ?_ (hc:=by apply Vf)|refine z31 ?_ (hc:=by apply Qw)|(refine zm ?_ ?_<;>intro u)|fail)
  all_goals first
   | (refine⟨n+1,⟨?_,?_,?_⟩,er id,?_⟩
      ·omega
      ·omega
      ·apply A<;>first|assumption|(unfold ew;simp [*])
      ·omega)
   | (refine vm rfl ⟨?_,?_⟩
      ·rw [f,u];rfl
      ·rw [f];refine congrArg (λq:Nat=>D.int .i64 (q:Int))<|Eq.symm ?_;first
        | (apply E;assumption)
        | (apply C<;>first|assumption|(unfold ew;simp [*])))
 ·repeat' (first|refine zs ?_|refine z31 ?_ (hc:=by apply Vf)|fail)
  refine ee rfl (λF=>?_)<|λF=>?_
  ·have f:ct (s.data.toList.drop at_)=(3,1+dv dc (s.data.toList.drop<|at_+1)):=by
    rw [m,gq,if_neg (by rw [v];exact C7),if_pos F]
   refine zS ?_;refine ae (ι:=Nat) (λn=>⟨0,[(0,.t s),(1,.i at_),(6,.d<|.int .u8 s[at_].toNat),(7,.i n)],[]⟩)
    (λn=>1<=n/\at_+n<=s.size/\n+dv dc (s.data.toList.drop<|at_+n)=1+dv dc (s.data.toList.drop<|at_+1)) (λn=>s.size-n) 1 ⟨by omega,by omega,rfl⟩
    (er id) ?_
   rintro n ⟨h1,z,h3⟩;have A:(h:(at_:Int)+n<s.size)->dc (s[at_+n]'(by omega))=true->n+1+dv dc (s.data.toList.drop<|at_+(n+1))=1+dv dc (s.data.toList.drop<|at_+1):=λh j=>by
    have o:=xg dc s.data.toList (at_+n) (by omega) (by rw [qt _ _<|by omega];exact j);rw [<- Ew at_ n 1];omega
   have C:(h:(at_:Int)+n<s.size)->dc (s[at_+n]'(by omega))=false->1+dv dc (s.data.toList.drop<|at_+1)=n:=λh j=>by
    have o:=Re dc s.data.toList (at_+n) (by omega) (by rw [qt _ _<|by omega];exact j);omega
   have E:¬ (at_:Int)+n<s.size->1+dv dc (s.data.toList.drop<|at_+1)=n:=λh=>by
    have o:=Mk dc s.data.toList (at_+n) (by omega);omega
   clear m;repeat' (first|refine zr ?_|refine z31 ?_ (hc:=by apply Vf)|(refine zm ?_ ?_<;>intro u)|fail)
   all_goals first
    | (refine⟨n+1,⟨?_,?_,?_⟩,er id,?_⟩
       ·omega
       ·omega
       ·apply A<;>assumption
       ·omega)
    | (refine vm rfl ⟨?_,?_⟩
       ·rw [f]
       ·rw [f];refine congrArg (λq:Nat=>D.int .i64 (q:Int))<|Eq.symm ?_;first
         | (apply E;assumption)
         | (apply C<;>assumption))
  ·have f:ct (s.data.toList.drop at_)=if og (s[at_]::s.data.toList.drop (at_+1)) then (4,2) else if K6.contains s[at_] then (4,1) else (0,0):=by
    rw [m,gq,if_neg (by rw [v];exact C7),if_neg<|by rw [F];exact C7]
   refine zS ?_;refine a6 rfl (λz=>?_)<|λz=>?_
   ·have j:=fG s at_ (by omega);repeat' (first|refine zr ?_|(refine zm ?_ ?_<;>intro u)|fail)
    all_goals first
     | (refine vm rfl ⟨?_,?_⟩<;>(rw [f,j];simp [*];done))
     | skip
    have G:og (s[at_]::s.data.toList.drop (at_+1))=false:=by rw [j];simp [*]
    rw [G] at f;refine ae (ι:=Nat) (λi=>⟨0,[(6,.d<|.int .u8 s[at_].toNat),(9,.t ⟨#[40,41,44,46,60,61,43,45,42]⟩),(10,.i i)],[]⟩)
     (λi=>i<=9/\K6.contains s[at_]=(K6.drop i).contains s[at_]) (λi=>9-i) 0 ⟨by omega,rfl⟩ (er id) ?_
    rintro i ⟨hi,hc⟩;have l:=λh=>Kt s[at_] i h
    have M:((⟨#[40,41,44,46,60,61,43,45,42]⟩:ByteArray).size:Int)=9:=rfl;repeat' (first|refine zr ?_|(refine zm ?_ ?_<;>intro u)|fail)
    all_goals first
     | (refine vm rfl ⟨?_,?_⟩
        ·rw [f,hc,l (by rw [<- E8];assumption),decide_eq_true ‹_›];rfl
        ·rw [f,hc,l (by rw [<- E8];assumption),decide_eq_true ‹_›];rfl)
     | (refine⟨i+1,⟨?_,?_⟩,er id,?_⟩
        ·omega
        ·rw [hc,l (by rw [<- E8];assumption),decide_eq_false ‹_›];rfl
        ·omega)
     | (have J:i=9:=by omega
        subst J;refine vm rfl ⟨?_,?_⟩
        ·rw [f,hc];rfl
        ·rw [f,hc];rfl)
   ·refine zS ?_;have G:og (s[at_]::s.data.toList.drop (at_+1))=false:=by
     rw [Ar<|by omega];unfold og;rfl
    rw [G] at f;refine ae (ι:=Nat) (λi=>⟨0,[(6,.d<|.int .u8 s[at_].toNat),(9,.t ⟨#[40,41,44,46,60,61,43,45,42]⟩),(10,.i i)],[]⟩)
     (λi=>i<=9/\K6.contains s[at_]=(K6.drop i).contains s[at_]) (λi=>9-i) 0 ⟨by omega,rfl⟩ (er id) ?_
    rintro i ⟨hi,hc⟩;have l:=λh=>Kt s[at_] i h
    have M:((⟨#[40,41,44,46,60,61,43,45,42]⟩:ByteArray).size:Int)=9:=rfl;repeat' (first|refine zr ?_|(refine zm ?_ ?_<;>intro u)|fail)
    all_goals first
     | (refine vm rfl ⟨?_,?_⟩
        ·rw [f,hc,l (by rw [<- E8];assumption),decide_eq_true ‹_›];rfl
        ·rw [f,hc,l (by rw [<- E8];assumption),decide_eq_true ‹_›];rfl)
     | (refine⟨i+1,⟨?_,?_⟩,er id,?_⟩
        ·omega
        ·rw [hc,l (by rw [<- E8];assumption),decide_eq_false ‹_›];rfl
        ·omega)
     | (have J:i=9:=by omega
        subst J;refine vm rfl ⟨?_,?_⟩
        ·rw [f,hc];rfl
        ·rw [f,hc];rfl)
end
end Go.Proofs.YtapciiffpnociabGreat
