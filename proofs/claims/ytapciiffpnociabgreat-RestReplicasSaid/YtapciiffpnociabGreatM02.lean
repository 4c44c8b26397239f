/- Several texts in one: GxCall GxImp GxSto GxApp GxApn GxBld GxFin. Condition: none. -/
import Derived.Test.YtapciiffpnociabGreatM01
import Derived.Deep.QuietTactic
import Derived.Laws.AppendOwnNone
set_option linter.all false
open Array renaming getElem?_toList→Bt,length_toList→A5,mapM_eq_mapM_toList→F6,range→Ig,replicate→Fj,toList_map→H0,toList_range→Hj
open Bool renaming and_eq_true→Ae
open List renaming append_nil→Bn,filterMap_cons→Br,getD→A4,getElem?_append_left→Bj,getElem?_append_right→A7,getElem?_eq_getElem→Ad,getElem?_map→Bh,getElem?_range→G6,getElem?_take→Bf,map→Iw,mapM_cons→Fz,map_cons→A3,mem_append→C0,mem_cons_of_mem→Ak,mem_cons_self→Ac,mem_of_mem_drop→B4,mem_of_mem_take→Bz,range→Eo,replicate→Aq
open Nat renaming add_mul→Bq,beq→Az,ble→Cj,blt→Av,eq_of_beq_eq_true→Ao,le_of_ble_eq_true→Ab,le_refl→Af,le_trans→Aw,lt_of_lt_of_le→As,mod_lt→F2,mul_le_mul_right→A8,ne_of_beq_eq_false→By,not_lt_zero→A2
open Option renaming getD_some→Cm,map_some→B1
namespace Go.Proofs.YtapciiffpnociabGreat
open Go Go.RowKit
variable {pos:String} {af:Array Edge} {g:Option (Nat×Bool)}
section
open Go Go.RowKit
variable [Y0]
def n8:Nat->List SV->Sl
 | _,[]=>[]
 | i,s::b=>(i,s)::n8 (i+1) b
def Nu (L:Sl) (H:Hp) (τ:List (Nat×TI)):ResultVar->Option SV
 | .tmp t=>some (L.get t)
 | .cell a t=>match L.get a with
  | .loc i o=>match Hp.get H i with
   | some (.M1 _ b)=>match (ai τ t).sh with
    | .struct _=>match Cj (o+(ai τ t).cells) b.length with
     | true=>some (.agg ((b.drop o).take (ai τ t).cells))
     | false=>none
    | .other=>none
    | _=>b[o]?
   | _=>none
  | _=>none
def dJ (L:Sl) (H:Hp) (τ:List (Nat×TI)):List ResultVar->Option (List SV)
 | []=>some []
 | r::rs=>match Nu L H τ r,dJ L H τ rs with
  | some s,some b=>some (s::b)
  | _,_=>none
def Mu (L:Sl) (H:Hp) (τ:List (Nat×TI)) (rs:List ResultVar):Option SV:=
 match dJ L H τ rs with
 | some [s]=>some s
 | some b=>some<|.M2 b
 | none=>none
def Cn (τ:List (Nat×TI)) (rs:List ResultVar) (R:Nat->SV->Hp->Prop):ey:=λx k L H =>
 (x=.ret∨x=.normal)/\∃ r,Mu L H τ rs=some r/\R k r H
def eu (P:Program) (f:FuncId):Bool:=match P.funcs[f]? with
 | some b => !(b.name == "runtime.NumGoroutine")&&b.body.isSome
 | none=>false
def X1 (d:Bool) (P:Program) (τ:List (Nat×TI)) (τok:c8 P τ) (f:FuncId) (args:List SV) (J k:Nat) (H:Hp) (R:Nat->SV->Hp->Prop):Prop:=
 eu P f=true /\
 ∀ (O:Nat->Prop) (e:Env) (w:World) (j:List Value),
  Heap ⟨P,τ,τok,O,w,λb=>b∈ah e H,0,J,e.an,none,da,true,d⟩ k H e w->O0 (Ctx.X ⟨P,τ,τok,O,w,λb=>b∈ah e H,0,J,e.an,none,da,true,d⟩ e H) e w args j ->
  Calls P f j.toArray w (λn l=>∃ m r h i v,R m r h/\n=.returned v/\Heap ⟨P,τ,τok,O,w,λb=>b∈ah e H,0,J,e.an,none,da,true,d⟩ m h i l /\
   Rel (Ctx.X ⟨P,τ,τok,O,w,λb=>b∈ah e H,0,J,e.an,none,da,true,d⟩ i h) i l r v)
def DC (d:Bool) (P:Program) (τ:List (Nat×TI)) (τok:c8 P τ) (f:FuncId) (args:List SV) (J k:Nat) (H:Hp) (R:Nat->SV->Hp->Prop) (E:Value->Prop):Prop:=
 eu P f=true /\
 ∀ (O:Nat->Prop) (e:Env) (w:World) (m:List Value),
  Heap ⟨P,τ,τok,O,w,λb=>b∈ah e H,0,J,e.an,none,da,true,d⟩ k H e w->O0 (Ctx.X ⟨P,τ,τok,O,w,λb=>b∈ah e H,0,J,e.an,none,da,true,d⟩ e H) e w args m ->
  Calls P f m.toArray w (λn j=>(∃ i r l h v,R i r l/\n=.returned v/\Heap ⟨P,τ,τok,O,w,λb=>b∈ah e H,0,J,e.an,none,da,true,d⟩ i l h j /\
   Rel (Ctx.X ⟨P,τ,τok,O,w,λb=>b∈ah e H,0,J,e.an,none,da,true,d⟩ h l) h j r v) ∨
   ∃ (v:Value) (i:Nat) (h:Env),E v/\n=.panicked [{ v,recovered:=false }]/\Heap ⟨P,τ,τok,O,w,λb=>b∈ah e H,0,J,e.an,none,da,true,d⟩ i [] h j)
def DC.ok {b:Bool} {P:Program} {τ:List (Nat×TI)} {τok:c8 P τ} {f:FuncId} {args:List SV} {J k:Nat} {H:Hp} {R:Nat->SV->Hp->Prop} (h:DC b P τ τok f args J k H R λ_=>False):X1 b P τ τok f args J k H R:=
 ⟨h.1,λO e w d i j=>(h.2 O e w d i j).mono λ_ _ l=>l.elim id fun⟨_,_,_,m,_⟩=>m.elim⟩
def Heap.lD {P τ τok O w0 E0 n n' J K1 rd rd' vB pan' mk mk' dr} {k:Nat->Prop} {H:Hp} {e:Env} {w:World} (h:Heap ⟨P,τ,τok,O,w0,E0,n,J,K1,rd,vB,mk,dr⟩ k H e w):Heap ⟨P,τ,τok,O,w0,E0,n',J,K1,rd',pan',mk',dr⟩ k H e w:=
 ⟨h.top,h.heap,h.ids,h.nodup,h.M3,h.os,h.tape,h.output,h.drawn,h.size,h.block,h.T1,h.S4,h.L8,h.anchor⟩
def Heap.bare {Γ:Ctx} {k:Nat->Prop} {H:Hp} {e:Env} {w:World} (h:Heap Γ k H e w):Heap Γ k [] e w:=
 ⟨h.top,λ_ b=>(nomatch b),.nil,.nil,λ_ d=>(nomatch d),h.os,h.tape,h.output,h.drawn,h.size,h.block,h.T1,h.S4,h.L8,h.anchor⟩
def U2 (w w':World):Prop:=∀ (b:Nat) (o:Obj),Yu o=true->w.heap[b]?=some o->w'.heap[b]?=some o
def U2.cell {w w':World} (h:U2 w w') {a:Addr} {v:Value} (hc:w.cell? a=some v):w'.cell? a=some v:=by
 unfold World.cell? at hc ⊢;split at hc
 ·rename_i c ty p b;rw [h _ _ rfl b];exact hc
 ·cases hc
def U2.XZ {w w':World} (h:U2 w w') {a:Addr} {v:Value} (hc:w.cell? a=some v) (d:w.frozen? a=false):w'.frozen? a=false:=by
 unfold World.cell? at hc;split at hc
 ·rename_i c ty p b;rw [<- d];simp only [World.frozen?,h _ _ rfl b,b]
 ·cases hc
def Q0.V3 {X:Nat->Prop} {w w':World} (f:w.heap.size<=w'.heap.size) (d:U2 w w') {v:Value} {x:D} (h:Q0 X w v x):Q0 X w' v x:=by
 induction h with
 | int h=>exact .int h
 | bool=>exact .bool
 | str h=>exact .str h
 | nil=>exact .nil
 | zero=>exact .zero
 | slice c r s u m n z l A o ih=>exact .slice c r s u m (As n f) z (λi h j b=>d.cell<|l i h j b) (λi h j b=>ih i h j b f d)<|λp i h j b=>d.XZ (l i h j b)<|o p i h j b
 | ptr c m n l A o ih=>exact .ptr c m (As n f) (λj b=>d.cell<|l j b) (λj b=>ih j b f d)<|λp j b=>d.XZ (l j b)<|o p j b
 | own h ih=>exact .own<|ih f d
def U3.V3 {X:Nat->Prop} {w w':World} (p:w.heap.size<=w'.heap.size) (f:U2 w w') {v:Value} {x:D} (h:U3 X w v x):U3 X w' v x:=by
 induction h with
 | int h=>exact .int h
 | bool=>exact .bool
 | str h=>exact .str h
 | nil=>exact .nil
 | zero=>exact .zero
 | slice c r s u l m z d A n ih=>exact .slice c r s u l (As m p) z (λi h j b=>f.cell<|d i h j b) ih<|λo i h j b=>f.XZ (d i h j b)<|n o i h j b
 | ptr c l m d A n ih=>exact .ptr c l (As m p) (λj b=>f.cell<|d j b) ih<|λo j b=>f.XZ (d j b)<|n o j b
 | own h ih=>exact .own ih
def Zm.V3 {X:Nat->Prop} {w w':World} {B q:Nat} (b:w.heap.size<=w'.heap.size) (f:U2 w w') {v:Value} {x:D} (h:Zm X w B q v x):Zm X w' B q v x:=by
 refine⟨Aw h.1 b,?_⟩
 have d:=h.2;split
 ·exact U3.V3 b f d
 ·split at d
  ·rename_i i;exact absurd rfl i
  ·exact Q0.V3 b f d
mutual
def Rel.V3 {X:Nat->Prop} {e:Env} {w w':World} (l:w.heap.size<=w'.heap.size) (m:U2 w w'):∀ (s:SV) (v:Value),Rel X e w s v->Rel X e w' s v
 | .V1,_,_=>trivial
 | .d _,_,h=>Q0.V3 l m h
 | .Q1,_,h=>h
 | .pd _,_,⟨b,off,f,i,o,p⟩=>⟨b,off,f,As i l,o,λj z =>
   let ⟨u,A,B⟩:=p j z
   ⟨u,m.cell A,Q0.V3 l m B⟩⟩
 | .loc _ _,_,h=>h
 | .row _,_,h=>h
 | .mp _,_,h=>h
 | .md _ _,_,⟨b,f,i,o,p⟩=>⟨b,f,As i l,o,p.N1 λ_ _ C=>m _ _ rfl C⟩
 | .P3 _ _ _ _,_,h=>h
 | .sl _ _ _ _,_,h=>h
 | .R5 _ _ _ _,_,h=>h
 | .rg _ _ _,_,h=>Zm.V3 l m h
 | .fn _ E,_,⟨n,f,i⟩=>⟨n,f,O0.V3 l m E n i⟩
 | .agg r,_,⟨n,f,i⟩=>⟨n,f,O0.V3 l m r n i⟩
 | .M2 r,_,⟨n,f,i⟩=>⟨n,f,O0.V3 l m r n i⟩
 | .val _,_,h=>h
def O0.V3 {X:Nat->Prop} {e:Env} {w w':World} (b:w.heap.size<=w'.heap.size) (d:U2 w w'):∀ (ss:List SV) (vs:List Value),O0 X e w ss vs->O0 X e w' ss vs
 | [],[],_=>trivial
 | [],_::_,h=>h.elim
 | _::_,[],h=>h.elim
 | s::ss,v::vs,⟨f,i⟩=>⟨Rel.V3 b d s v f,O0.V3 b d ss vs i⟩
end
def I4.V3 {X:Nat->Prop} {e:Env} {w w':World} (n:w.heap.size<=w'.heap.size) (d:U2 w w') (p:Nat×HB) (h:I4 X e w p):I4 X e w' p:=by
 obtain⟨id,o⟩:=p;cases o with
 | M1 ty N =>
  obtain⟨f,b,l,m⟩:=h;exact⟨f,d _ _ rfl b,O0.V3 n d _ _ l,m⟩
 | row ty s O =>
  obtain⟨f,b,l,m,u⟩:=h;refine⟨f,⟨b.1,?_⟩,l,m,λi z j A=>?_⟩
  ·rcases b.2 with B|⟨g,C,E,F,G,I,r⟩
   ·exact Or.inl B
   ·exact Or.inr ⟨g,C,E,F,G,d _ _ rfl I,r⟩
  ·obtain⟨v,J,M⟩:=u i z j A;exact⟨v,J,Q0.V3 n d M⟩
 | map P R=>exact W6.N1 h λs S b=>d _ _ rfl b
def Heap.V3 {Γ:Ctx} {k:Nat->Prop} {H:Hp} {e:Env} {w w':World} (h:Heap Γ k H e w) (d:w.heap.size<=w'.heap.size) (f:U2 w w') (i:w'.os=w.os) (j:w'.tape=w.tape) (l:w'.output=w.output) (m:w'.drawn=w.drawn)
  (hb:∀ b,b<Γ.w0.heap.size->¬ Γ.E0 b->w'.heap[b]?=w.heap[b]?):Heap Γ k H e w' where
 top:=h.top
 heap p hp:=⟨(h.heap p hp).1,I4.V3 d f p (h.heap p hp).2⟩
 ids:=h.ids
 nodup:=h.nodup
 M3:=h.M3
 os:=i.trans h.os
 tape:=j.trans h.tape
 output:=l.trans h.output
 drawn hd:=m▸h.drawn hd
 size:=Aw h.size d
 block b h1 h2:=(hb b h1 h2).trans<|h.block b h1 h2
 T1:=h.T1
 S4:=h.S4
 L8:=h.L8
 anchor:=h.anchor
def pj {w:World} {r:Nat} {o j:Obj} (h:w.heap[r]?=some o) (l:Yu o=false):U2 w (w.putObj r j):=by
 intro b m f d;by_cases i:b=r
 ·subst i;rw [h] at d;cases d;rw [l] at f;cases f
 ·rw [World.putObj_heap_other i];exact d
def Ca {Γ:Ctx} {j:Func} {u:FrameMode} (l:u≠.run) {R:Ending->World->Prop} {m:Array Value}:∀ (rs:List Nat) (w:World),rs.Nodup->(∀ r∈rs,Γ.w0.heap.size<=r/\w.heap[r]?=some (Obj.deferred (some []))) ->
  (∀ w',w.heap.size<=w'.heap.size->U2 w w'->w'.os=w.os->w'.tape=w.tape->w'.output=w.output->w'.drawn=w.drawn->(∀ b,b<Γ.w0.heap.size->w'.heap[b]?=w.heap[b]?)->LeavesInM Fence.wide 0 Γ.P j m R [] u w') ->
  LeavesInM Fence.wide 0 Γ.P j m R (rs.map mark) u w
 | [],w,_,_,h=>h w (Af _) (λ_ _ _ h=>h) rfl rfl rfl rfl (λ_ _=>rfl)
 | r::rs,w,v,d,h=>by
  obtain⟨z,A⟩:=List.nodup_cons.1 v
  obtain⟨N,n⟩:=d r<|Ac ..
  refine⟨l,.inl ⟨r,_,rfl,run_takeDeferred n,?_⟩⟩
  have B:U2 w (w.putObj r<|.deferred none):=pj n rfl
  refine Ca l rs _ A (λx f=>⟨(d x<|Ak _ f).1,?_⟩) λw' p C E F G I J=>h w' (by rw [World.putObj_size] at p;exact p) (λb o s i=>C _ _ s<|B _ _ s i) E F G I λb i=>(J b i).trans ?_
  ·rw [World.putObj_heap_other<|λM=>z<|by rw [<- M];exact f];exact (d x<|Ak _ f).2
  ·rw [World.putObj_heap_other<|by omega]
def Na {X e w}:∀ (ss:List SV) (vs b:List Value) (i:Nat) (pre:List Value),pre.length=i->O0 X e w ss vs->∀ t,Rel X e w ((n8 i ss).get t) ((pre++vs++b).toArray.getD t undef)
 | [],_,_,_,_,_,_,_=>trivial
 | _::_,[],_,_,_,_,h,_=>h.elim
 | s::ss,v::vs,b,i,pre,d,⟨f,j⟩,t=>by
  simp only [n8,Sl.C1];split
  ·rename_i l;subst l;have:(pre++v::vs++b).toArray.getD i undef=v:=by
    simp [Array.getD_eq_getD_getElem?,<- d]
   rw [this];exact f
  ·have:=Na ss vs b (i+1) (pre++[v]) (by simp [d]) j t
   simpa using this
def cJ {Γ:Ctx} {k:Nat->Prop} {L H e a w} (m:J0 Γ k L H e a w) (r:ResultVar) (s:SV) (h:Nu L H Γ.τ r=some s) :
  ∃ v,(match r with|.tmp t=>(pure (a.tmps.getD t undef):Sem Value)|.cell p t=>do loadVar t (<- asAddr (a.tmps.getD p undef))).run Γ.P w=.ok v w/\Rel (Γ.X e H) e w s v:=by
 cases r with
 | tmp t =>
  simp only [Nu,Option.some.injEq] at h;exact⟨_,by simp,h▸m.slot t⟩
 | cell p t =>
  simp only [Nu] at h;have z:=m.slot p;cases A:L.get p with
  | loc i o =>
   simp only [A] at h z;obtain⟨_,B⟩:=z;cases f:Hp.get H i with
   | none=>simp [f] at h
   | some b =>
    cases b with
    | row ty R S=>simp [f] at h
    | map T U=>simp [f] at h
    | M1 ty C =>
     simp only [f] at h;have E:=(m.heap _<|Hp.mem_of f).2;have one:(ai Γ.τ t).sh≠.other->(ai Γ.τ t).sh.isAgg=false->C[o]?=some s->∃ v,(do loadVar t (<- asAddr (a.tmps.getD p undef)):Sem Value).run Γ.P w=.ok v w/\Rel (Γ.X e H) e w s v:=by
      intro I J M;obtain⟨v,j,n⟩:=I4.Lz E M;exact⟨v,by simp [B,asAddr,loadVar,Ctx.agg (Γ:=Γ) (t:=t) I,Ctx.sh,J,j],n⟩
     cases d:(ai Γ.τ t).sh with
     | struct l =>
      simp only [d] at h;cases u:Cj (o+(ai Γ.τ t).cells) C.length with
      | false=>simp [u] at h
      | true =>
       simp only [u,Option.some.injEq] at h;obtain⟨F,j,n,N,_⟩:=I4.qC E o (Γ.cells t)<|Ab u;have G:Γ.sh t=.struct l:=d;have O:=rv (Γ:=Γ) (t:=t) (w':=w) (p:=⟨e.β i,o,none⟩) (by rw [G];intro h;cases h) (by rw [G];rfl) j n;exact⟨.agg F.toArray,by simp [B,asAddr,O],h▸⟨F,rfl,N⟩⟩
     | other=>simp [d] at h
     | int _=>simp only [d] at h;exact one (by simp [d]) (by simp [d,Sh.isAgg]) h
     | bool=>simp only [d] at h;exact one (by simp [d]) (by simp [d,Sh.isAgg]) h
     | str=>simp only [d] at h;exact one (by simp [d]) (by simp [d,Sh.isAgg]) h
     | slice _=>simp only [d] at h;exact one (by simp [d]) (by simp [d,Sh.isAgg]) h
     | ptr _=>simp only [d] at h;exact one (by simp [d]) (by simp [d,Sh.isAgg]) h
     | map _ _=>simp only [d] at h;exact one (by simp [d]) (by simp [d,Sh.isAgg]) h
  | _=>simp [A] at h
def so {Γ:Ctx} {k:Nat->Prop} {L H e a w} (m:J0 Γ k L H e a w) (i:Func) (s:SV) (h:Mu L H Γ.τ i.results.toList=some s) :
  ∃ v,(results i a.tmps).run Γ.P w=.ok v w/\Rel (Γ.X e H) e w s v:=by
 have z:∀ (rs:List ResultVar) (d:List SV),dJ L H Γ.τ rs=some d->∃ b:List Value,(rs.mapM λ(r:ResultVar)=>match r with|.tmp t=>(pure (a.tmps.getD t undef):Sem Value)|.cell p t=>do loadVar t (<- asAddr (a.tmps.getD p undef))).run Γ.P w=.ok b w/\O0 (Γ.X e H) e w d b:=by
  intro rs;induction rs with
  | nil=>intro d h;simp only [dJ,Option.some.injEq] at h;subst h;exact⟨[],by simp,trivial⟩
  | cons r rs ih =>
   intro d h;simp only [dJ] at h;cases j:Nu L H Γ.τ r with
   | none=>simp [j] at h
   | some A =>
    cases n:dJ L H Γ.τ rs with
    | none=>simp [j,n] at h
    | some C =>
     simp only [j,n,Option.some.injEq] at h;subst h;obtain⟨v,o,f⟩:=cJ m r A j;obtain⟨b,I,E⟩:=ih C n;refine⟨v::b,?_,f,E⟩
     rw [Fz];simp only [Sem.run_bind,Sem.run_pure];cases r<;>simp_all
 unfold Mu at h;cases l:dJ L H Γ.τ i.results.toList with
 | none=>simp [l] at h
 | some d =>
  obtain⟨b,o,f⟩:=z _ _ l;have B:(results i a.tmps).run Γ.P w=.ok (if h:b.toArray.size=1 then b.toArray[0] else .tuple b.toArray) w:=by
   unfold results;rw [F6];rw [map_eq_pure_bind];simp only [Sem.run_bind,Sem.run_pure];exact congrArg (λr:Result (List Value)=>(r.andThen λa u=>Result.ok a.toArray u).andThen λa u=>Result.ok (if h:a.size=1 then a[0] else Value.tuple a) u) o
  have J:=O0.length _ _ f;rw [l] at h;refine⟨_,B,?_⟩
  clear B o l z;cases d with
  | nil =>
   cases b with
   | nil=>cases h;exact⟨[],rfl,trivial⟩
   | cons v b=>exact f.elim
  | cons A d =>
   cases b with
   | nil=>exact f.elim
   | cons F b =>
    cases d with
    | nil =>
     cases b with
     | nil=>cases h;exact f.1
     | cons v b=>exact f.2.elim
    | cons M d =>
     cases b with
     | nil=>exact f.2.elim
     | cons G b=>cases h;exact⟨F::G::b,by simp,f⟩
def ZO {i:Bool} {P:Program} {τ:List (Nat×TI)} {τok:c8 P τ} {f:FuncId} {d:Func} {c:Code} {args:List SV} {J k:Nat} {H:Hp} {R:Nat->SV->Hp->Prop} {E:Value->Prop} (N:Nat) (Y:P.funcs[f]?=some d) (hb:d.body=some c)
  (Z:args.length+(d.ntmps-args.length)=N) (a0:eu P f=true)
  (a1:∀ (O:Nat->Prop) (w0:World) (E0:Nat->Prop) (K1:Nat->Nat×Value),DW ⟨P,τ,τok,O,w0,E0,N,J,K1,none,⟨λv _ _=>E v,[]⟩,true,i⟩ c (Cn τ d.results.toList R) k (n8 0 args) H):DC i P τ τok f args J k H R E:=by
 refine⟨a0,?_⟩
 intro O e w l hH S;have hl:=O0.length _ _ S;have a2:J0 ⟨P,τ,τok,O,w,λb=>b∈ah e H,N,J,e.an,none,⟨λv _ _=>E v,[]⟩,true,i⟩ k (n8 0 args) H e { tmps:=l.toArray++Fj (d.ntmps-l.toArray.size) undef,defers:=[] } w:=by
  refine⟨hH.lD,Marks.nil,?_,λt=>?_⟩
  ·simp [<- Z,hl]
  ·have:=Na args l (Aq (d.ntmps-l.length) undef) 0 [] rfl S t
   have he:l.toArray++Fj (d.ntmps-l.toArray.size) undef=([]++l++Aq (d.ntmps-l.length) undef).toArray:=by simp
   rw [he];exact this
 refine callsIn_wide.1<|callsIn_of_wp_marks (F:=Fence.wide) (n:=0) Y hb trivial<|wpIn_mono (a1 O w (λb=>b∈ah e H) e.an e _ w a2) ?_;rintro ex a' m (⟨j,L',o,h,m',hx,r,hres,hR⟩|⟨v,j,L',o,h,rfl,hE,m'⟩)
 ·obtain⟨rs,u,_,z,A⟩:=m'.defers;have T:LeavesInM Fence.wide 0 P d a'.tmps (λU m=>(∃ j r o h v,R j r o/\U=.returned v/\Heap ⟨P,τ,τok,O,w,λb=>b∈ah e H,0,J,e.an,none,da,true,i⟩ j o h m /\
   Rel (Ctx.X ⟨P,τ,τok,O,w,λb=>b∈ah e H,0,J,e.an,none,da,true,i⟩ h o) h m r v) ∨
   ∃ (v:Value) (j:Nat) (h:Env),E v/\U=.panicked [{ v,recovered:=false }]/\Heap ⟨P,τ,τok,O,w,λb=>b∈ah e H,0,J,e.an,none,da,true,i⟩ j [] h m) a'.defers .returning m:=by
   rw [u,Bn];refine Ca (Γ:=⟨P,τ,τok,O,w,λb=>b∈ah e H,N,J,e.an,none,⟨λv _ _=>E v,[]⟩,true,i⟩) (by simp) rs m z A λV p s B C G I M=>?_
   have W:=m'.toHeap.V3 p s B C G I<|λb hb _=>M b hb;have m2:J0 ⟨P,τ,τok,O,w,λb=>b∈ah e H,N,J,e.an,none,⟨λv _ _=>E v,[]⟩,true,i⟩ j L' o h { a' with defers:=[] } V:=⟨W,Marks.nil,m'.len,λt=>Rel.V3 p s _ _<|m'.slot t⟩
   obtain⟨v,g7,g8⟩:=so m2 d r hres;exact⟨v,g7,.inl ⟨j,r,o,h,v,hR,rfl,W.lD,g8⟩⟩
  rcases hx with rfl|rfl
  ·exact T
  ·exact T
 ·obtain⟨rs,u,_,z,A⟩:=m'.defers;show LeavesInM Fence.wide 0 P d a'.tmps _ a'.defers (.panicking _) m;rw [u,Bn];refine Ca (Γ:=⟨P,τ,τok,O,w,λb=>b∈ah e H,N,J,e.an,none,⟨λv _ _=>E v,[]⟩,true,i⟩) (by simp) rs m z A λV p s B C G I M=>?_
  exact .inr ⟨v,j,h,hE,rfl,(m'.toHeap.bare.V3 p s B C G I<|λb hb _=>M b hb).lD⟩
def Ni {d:Bool} {P:Program} {τ:List (Nat×TI)} {τok:c8 P τ} {f:FuncId} {b:Func} {c:Code} {args:List SV} {J k:Nat} {H:Hp} {R:Nat->SV->Hp->Prop} (N:Nat) (i:P.funcs[f]?=some b) (hb:b.body=some c)
  (j:args.length+(b.ntmps-args.length)=N) (l:eu P f=true)
  (h:∀ (O:Nat->Prop) (m:World) (n:Nat->Prop) (o:Nat->Nat×Value),DW ⟨P,τ,τok,O,m,n,N,J,o,none,da,true,d⟩ c (Cn τ b.results.toList R) k (n8 0 args) H):X1 d P τ τok f args J k H R:=
 DC.ok (ZO N i hb j l h)
def dZ {d:Bool} {P:Program} {τ:List (Nat×TI)} {τok:c8 P τ} {f:FuncId} {b:Func} {c:Code} {args:List SV} {J k:Nat} {H:Hp} {R:Nat->SV->Hp->Prop} {N:Nat} (i:P.funcs[f]?=some b) (h:∀ (O:Nat->Prop) (j:World) (l:Nat->Prop) (m:Nat->Nat×Value),DW ⟨P,τ,τok,O,j,l,N,J,m,none,da,true,d⟩ c (Cn τ b.results.toList R) k (n8 0 args) H) (hb:b.body=some c:=by exact rfl) (n:args.length+(b.ntmps-args.length)=N:=by exact rfl) (o:eu P f=true:=by kernel_rfl):X1 d P τ τok f args J k H R:=Ni N i hb n o h
mutual
def Rel.env {X e e' w}:∀ (s:SV) (v:Value),s.low 0=true->Rel X e w s v->Rel X e' w s v
 | .V1,_,_,_=>trivial
 | .d _,_,_,h=>h
 | .Q1,_,_,h=>h
 | .pd _,_,_,h=>h
 | .loc _ _,_,b,_=>by simp [SV.low,Av] at b
 | .row _,_,b,_=>by simp [SV.low,Av] at b
 | .mp _,_,b,_=>by simp [SV.low,Av] at b
 | .md _ _,_,_,h=>h
 | .P3 _ _ _ _,_,b,_=>by simp [SV.low,Av] at b
 | .sl _ _ _ _,_,b,_=>by simp [SV.low,Av] at b
 | .R5 _ _ _ _,_,b,_=>by simp [SV.low,Av] at b
 | .rg _ _ _,_,_,h=>h
 | .fn _ m,_,b,⟨f,i,j⟩=>⟨f,i,O0.env m f b j⟩
 | .agg l,_,b,⟨f,i,j⟩=>⟨f,i,O0.env l f b j⟩
 | .M2 l,_,b,⟨f,i,j⟩=>⟨f,i,O0.env l f b j⟩
 | .val _,_,_,h=>h
def O0.env {X e e' w}:∀ (ss:List SV) (vs:List Value),SV.U1 0 ss=true->O0 X e w ss vs->O0 X e' w ss vs
 | [],[],_,_=>trivial
 | [],_::_,_,h=>h.elim
 | _::_,[],_,h=>h.elim
 | s::ss,v::vs,b,h=>by
  simp only [SV.U1,Ae] at b
  exact⟨Rel.env s v b.1 h.1,O0.env ss vs b.2 h.2⟩
end
mutual
def SV.X6:SV->SV
 | .rg _ 0 x=>.d x
 | .rg _ 1 x=>.d x
 | .d (.own _ x)=>.d x
 | .agg b=>.agg (SV.Q8 b)
 | .M2 b=>.M2 (SV.Q8 b)
 | s=>s
def SV.Q8:List SV->List SV
 | []=>[]
 | s::b=>SV.X6 s::SV.Q8 b
end
section
variable {X : Nat -> Prop} {e : Env} {w : World}
def Q0.Rg {X Y:Nat->Prop} {w:World} {v:Value} {x:D} (d:∀ b,b<w.heap.size->Y b->X b) (h:Q0 X w v x):Q0 Y w v x:=Q0.N1 (Af _) (λ_ _ _=>rfl) d h
mutual
def Rel.X6:∀ (s:SV) (v:Value),Rel X e w s v->Rel X e w s.X6 v
 | .rg _ 0 _,_,h=>Q0.Rg (λ_ _ b=>.inl b) h.2
 | .rg _ 1 _,_,h=>Q0.Rg (λ_ _ b=>.inl b) h.2
 | .rg _ (_+2) _,_,h=>h
 | .agg i,_,⟨f,j,l⟩=>⟨f,j,O0.X6 i f l⟩
 | .M2 i,_,⟨f,j,l⟩=>⟨f,j,O0.X6 i f l⟩
 | .V1,_,h=>h
 | .d (.own _ _),_,h=>by
  have h:Q0 _ _ _ _:=h
  cases h with
  | own h=>exact Q0.Rg (λ_ _ b=>.inl b) h
 | .d (.int _ _),_,h=>h
 | .d (.bool _),_,h=>h
 | .d (.str _),_,h=>h
 | .d (.slice _ _),_,h=>h
 | .d (.ptr _),_,h=>h
 | .Q1,_,h=>h
 | .pd _,_,h=>h
 | .loc _ _,_,h=>h
 | .row _,_,h=>h
 | .mp _,_,h=>h
 | .md _ _,_,h=>h
 | .P3 _ _ _ _,_,h=>h
 | .sl _ _ _ _,_,h=>h
 | .R5 _ _ _ _,_,h=>h
 | .fn _ _,_,h=>h
 | .val _,_,h=>h
def O0.X6:∀ (ss:List SV) (vs:List Value),O0 X e w ss vs->O0 X e w (SV.Q8 ss) vs
 | [],[],_=>trivial
 | [],_::_,h=>h.elim
 | _::_,[],h=>h.elim
 | s::ss,v::vs,h=>⟨Rel.X6 s v h.1,O0.X6 ss vs h.2⟩
end
end
def I3 (b:Bool) (P:Program) (τ:List (Nat×TI)) (τok:c8 P τ) (f:FuncId) (args:List SV) (R:SV->Prop):Prop:=X1 b P τ τok f args 0 0 []<|λ_ r d=>d=[]/\r.low 0=true/\R r
section
variable {Γ : Ctx} {k : Nat -> Prop} {L : Sl} {H : Hp} {K : cn} {ops : List Oper} {rest : List Oper}
def mt (L:Sl):List Operand->List SV
 | []=>[]
 | x::b=>aj L x::mt L b
def dz:List Operand->Bool
 | []=>true
 | x::b=>de x&&dz b
def ga {a w e} (m:J0 Γ k L H e a w):∀ (xs:List Operand),dz xs=true->O0 (Γ.X e H) e w (mt L xs) (xs.map a.eval)
 | [],_=>trivial
 | x::xs,h=>by
  simp only [dz,Ae] at h
  exact⟨m.op x (cd h.1),ga m xs h.2⟩
def I9 {P:Program} {f:FuncId} (hc:eu P f=true) (args:Array Value) (w:World):(callFunc f args).run P w=.ok (.enter f args) w:=by
 unfold eu at hc;cases b:P.funcs[f]? with
 | none=>simp [b] at hc
 | some d =>
  simp only [b,Ae,Bool.not_eq_true'] at hc;have h : d.name ≠ "runtime.NumGoroutine" := by simpa using hc.1
  have i:d.body≠none:=by intro j;simp [j] at hc
  simp [callFunc,b,h,i]
def io {P:Program} {f:FuncId} (hc:eu P f=true) (a:Act) (xs:List Operand) (b:Array TypeId) (dst:Option Tmp) (ty:TypeId) (pos) (after) (guard) (w:World) :
  (execOp a.eval ⟨dst,.call { callee:=.value (.func f),args:=xs.toArray,argTypes:=b },ty,pos,after,guard⟩).run P w=.ok (.enter f (xs.map a.eval).toArray) w:=by
 simp only [execOp,resolve];have:a.eval (.func f)=.func (.func f) #[] #[]:=rfl
 simp [this,Deferred.ofValue,invoke,I9 hc]
def I3.use {i:Bool} {Γ:Ctx} {τ:List (Nat×TI)} {τok:c8 Γ.P τ} {f:FuncId} {args:List SV} {R:SV->Prop} (hc:I3 i Γ.P τ τok f args R) {e:Env} {w:World} {a:Act} (m:J0 Γ k L H e a w) (u:SV.U1 0 args=true)
  (vs:List Value) (z:O0 (Γ.X e H) e w args vs) :
  Calls Γ.P f vs.toArray w (λp w'=>∃ r v,R r/\p=.returned v/\W4 i w.heap.size w w'/\r.low 0=true/\Rel (Γ.X e H) e w' r v):=by
 have A:∀ b,Γ.X e H b->b<w.heap.size:=λb d=>d.elim (λh=>As (m.T1 b h).1 m.size)<|m.lt b
 have s:∀ l b,Ctx.X ⟨Γ.P,τ,τok,Γ.X e H,w,λb=>b∈ah (e.V2 id 0) [],0,0,(e.V2 id 0).an,none,da,true,i⟩ l [] b↔Γ.X e H b:=by
  intro l b;unfold Ctx.X;simp [ah]
 refine (hc.2 (Γ.X e H) (e.V2 id 0) w vs ⟨λ_=>Iff.rfl,by simp,by simp,by simp [ah],by simp [ah],rfl,rfl,rfl,λ_=>Af _,Af _,λ_ _ _=>rfl,λb d=>⟨A b d,by simp [ah]⟩,m.U6.sub (by simp [ah]),λj n=>absurd n (A2 j),λj n=>absurd n<|A2 j⟩ ?_).mono ?_
 ·exact O0.N1 (Af _) (λ_ _ _=>rfl) (λb _ o=>(s _ b).1 o) _ _<|O0.env _ _ u z
 ·rintro p w' ⟨k',r,H',l,v,⟨rfl,hlr,hR⟩,rfl,hH,hrel⟩;refine⟨r,v,hR,rfl,⟨⟨hH.os,hH.tape,hH.output,hH.size,λb d=>hH.block b d<|by simp [ah]⟩,hH.drawn⟩,hlr,?_⟩
  exact Rel.N1 (Af _) (λ_ _ _=>rfl) (λb _ o=>(s _ b).2 o) _ _<|Rel.env _ _ hlr hrel
end
section
variable {Γ : Ctx} {k : Nat} {L : Sl} {H : Hp} {K : cn} {ops : List Oper} {rest : List Oper}
def JW {f:FuncId} {xs:List Operand} {b:Array TypeId} {ty:TypeId} {d:Nat} {args:List SV} {R:SV->Prop} (h:ap ops L g=some true)
  (hc:I3 Γ.dr Γ.P Γ.τ Γ.τok f args R) (i:mt L xs=args) (j:dz xs=true) (l:SV.U1 0 args=true) (o:Av d Γ.n=true)
  (p:∀ r,R r->DL Γ ops rest K k ((d,r)::L) H) :
  DL Γ ops (⟨some d,.call { callee:=.value (.func f),args:=xs.toArray,argTypes:=b },ty,pos,af,g⟩::rest) K k L H:=by
 refine gj h λe a w m=>?_
 unfold Oper.wp;rw [io hc.1];rw [Oper.upon_enter];refine (hc.use (τ:=Γ.τ) (τok:=Γ.τok) (Γ:=Γ) m l _<|i▸ga m xs j).mono ?_;rintro B C ⟨r,v,s,rfl,u,E,z⟩;exact⟨k,_,H,e,(m.below u).put (Ab o) (Rel.N1 (Af _) (λ_ _ _=>rfl) (λ_ _ A=>A) _ _ z),p r s⟩
def DQ (Γ:Ctx) (ops:List Oper) (rest:List Oper) (K:cn) (k:Nat) (L:Sl) (H:Hp):Prop:=
 ∀ e a w,J0 Γ k L H e a w->wpQuiet Γ.P ops.toArray (λd=>W4 Γ.dr w.heap.size w d) (λf=>∃ b,J0 Γ k b H e f w/\K k b H) rest a
def KY (h:K k L H):DQ Γ ops [] K k L H:=λ_ _ _ m=>wpQuiet_nil ⟨L,m,h⟩
def CZ {d:Nat} {op:Op} {ty:TypeId} {s:SV} (b:ap ops L g=some true) (h:Ev Γ k L H op ty s) (f:Av d Γ.n=true)
  (i:DQ Γ ops rest K k ((d,s)::L) H):DQ Γ ops (⟨some d,op,ty,pos,af,g⟩::rest) K k L H:=by
 intro e a w m;refine wpQuiet_step λu j=>?_
 rw [if_pos<|kv m b];obtain⟨v,l,o⟩:=h e a w m;refine⟨v,λp r=>?_,j _<|i e _ w<|m.put (Ab f) o⟩
 unfold Oper.quietAt;rw [l (some d) pos af g p r.toBelow];exact⟨rfl,rfl⟩
def HW {op:Op} {ty:TypeId} {d:Nat} (b:ap ops L g=some false) (f:Av d Γ.n=true)
  (h:DQ Γ ops rest K k ((d,.M2 [])::L) H):DQ Γ ops (⟨some d,op,ty,pos,af,g⟩::rest) K k L H:=by
 intro e a w m;refine wpQuiet_step λj i=>?_
 rw [if_neg<|by rw [kv m b];exact Bool.false_ne_true];exact i _ (h e _ w (m.put (s:=.M2 []) (Ab f) ⟨[],rfl,trivial⟩))
def Mo {k:Nat->Prop} {e a w} {t:Nat} {b:Bool} (m:J0 Γ k L H e a w) (hb:L.get t=.d (.bool b)) (b':Bool) (f:b=b'):J0 Γ k ((t,.d (.bool b'))::L) H e a w:=
 ⟨m.toHeap,m.defers,m.len,λt'=>by
  rw [Sl.C1]
  split
  ·rename_i h;subst h;rw [<- f,<- hb];exact m.slot t
  ·exact m.slot t'⟩
def UT {t:Nat} {b:Bool} (hb:L.get t=.d (.bool b)) (f:b=true->DQ Γ ops rest K k ((t,.d (.bool true))::L) H) (h:b=false->DQ Γ ops rest K k ((t,.d (.bool false))::L) H) :
  DQ Γ ops rest K k L H:=by
 intro e a w m;cases b with
 | true=>exact f rfl e a w<|Mo m hb true rfl
 | false=>exact h rfl e a w<|Mo m hb false rfl
def DS (q:Bool) (Γ:Ctx) (ops:List Oper) (rest:List Oper) (K:cn) (k:Nat) (L:Sl) (H:Hp):Prop:=match q with
 | true=>DQ Γ ops rest K k L H
 | false=>DL Γ ops rest K k L H
section
variable {q : Bool}
def i7 (h:K k L H):DS q Γ ops [] K k L H:=by
 cases q
 ·exact LY h
 ·exact KY h
def iv {d:Nat} {op:Op} {ty:TypeId} {s:SV} (h:Ev Γ k L H op ty s) (b:ap ops L g=some true) (f:Av d Γ.n=true)
  (i:DS q Γ ops rest K k ((d,s)::L) H):DS q Γ ops (⟨some d,op,ty,pos,af,g⟩::rest) K k L H:=by
 cases q
 ·exact DZ b h f i
 ·exact CZ b h f i
def GM {op:Op} {ty:TypeId} {d:Nat} (b:ap ops L g=some false) (f:Av d Γ.n=true)
  (h:DS q Γ ops rest K k ((d,.M2 [])::L) H):DS q Γ ops (⟨some d,op,ty,pos,af,g⟩::rest) K k L H:=by
 cases q
 ·exact IW b f h
 ·exact HW b f h
def JH {t:Nat} {b:Bool} (hb:L.get t=.d (.bool b)) (f:b=true->DS q Γ ops rest K k ((t,.d (.bool true))::L) H) (h:b=false->DS q Γ ops rest K k ((t,.d (.bool false))::L) H) :
  DS q Γ ops rest K k L H:=by
 cases q
 ·exact WT hb f h
 ·exact UT hb f h
def Qm {id:Nat} {l:List Oper} {Q:ey} (b:d8 l=true) (h:DS false Γ l l (Q .normal) k L H):DW Γ (.region id l.toArray false) Q k L H:=yP b h
def yq {f:FuncId} {xs:List Operand} {b:Array TypeId} {ty:TypeId} {d:Nat} {args:List SV} {R:SV->Prop} (h:ap ops L g=some true)
  (i:mt L xs=args) (hc:I3 Γ.dr Γ.P Γ.τ Γ.τok f args R) (j:dz xs=true) (l:SV.U1 0 args=true) (m:Av d Γ.n=true)
  (o:∀ r,R r->DS false Γ ops rest K k ((d,r)::L) H) :
  DS false Γ ops (⟨some d,.call { callee:=.value (.func f),args:=xs.toArray,argTypes:=b },ty,pos,af,g⟩::rest) K k L H:=JW h hc i j l m o
end
end
def jK {i:Bool} {P:Program} {τ:List (Nat×TI)} {τok:c8 P τ} {f:FuncId} {d:Func} {c:Code} {args:List SV} {R:SV->Prop} (N:Nat) (l:P.funcs[f]?=some d) (hb:d.body=some c)
  (m:args.length+(d.ntmps-args.length)=N) (n:eu P f=true)
  (h:∀ (O:Nat->Prop) (o:World) (p:Nat->Prop) (s:Nat->Nat×Value),DW ⟨P,τ,τok,O,o,p,N,0,s,none,da,true,i⟩ c (Cn τ d.results.toList λ_ r _=>r.low 0=true/\R r) 0 (n8 0 args) []):I3 i P τ τok f args R:=by
 have j:=Ni (J:=0) (k:=0) (H:=[]) N l hb m n (R:=λ_ r _=>r.low 0=true/\R r) h;refine⟨j.1,λO e w u z A=>(j.2 O e w u z A).mono ?_⟩
 rintro en w' ⟨k',r,H',e',v,⟨hl,hR⟩,rfl,hH',hrel⟩;obtain⟨B,C⟩:=hH'.V2 id 0 [] trivial rfl rfl rfl rfl rfl;exact⟨0,r,[],e'.V2 id 0,v,⟨rfl,hl,hR⟩,rfl,B,Rel.N1 (Af _) (λ_ _ _=>rfl) (λb _ E=>C b E) _ _<|Rel.env _ _ hl hrel⟩
def J2 {d:Bool} {P:Program} {τ:List (Nat×TI)} {τok:c8 P τ} {f:FuncId} {b:Func} {c:Code} {args:List SV} {R:SV->Prop} {N:Nat} (i:P.funcs[f]?=some b) (h:∀ (O:Nat->Prop) (j:World) (l:Nat->Prop) (m:Nat->Nat×Value),DW ⟨P,τ,τok,O,j,l,N,0,m,none,da,true,d⟩ c (Cn τ b.results.toList λ_ r _=>r.low 0=true/\R r) 0 (n8 0 args) []) (hb:b.body=some c:=by exact rfl) (n:args.length+(b.ntmps-args.length)=N:=by exact rfl) (o:eu P f=true:=by kernel_rfl):I3 d P τ τok f args R:=jK N i hb n o h
def ae {Γ:Ctx} {k:Nat} {L:Sl} {H:Hp} {Q:ey} {ι:Type} {c:Code} (I:ι->St) (pre:ι->Prop) (d:ι->Nat) (b:ι) (h:pre b) (i:X7 Γ k L H (I b).k (I b).L (I b).H)
  (j:∀ x,pre x->DW Γ c (du (λk' L' H'=>∃ y,pre y/\X7 Γ k' L' H' (I y).k (I y).L (I y).H/\d y<d x) Q) (I x).k (I x).L (I x).H):DW Γ (.loop c) Q k L H:=by
 refine AW (ι:={ x // pre x }) (λx=>I x.1) (λx=>d x.1) ⟨b,h⟩ i λx=>?_
 intro e a w m;refine wpIn_mono (j x.1 x.2 e a w m)<|sd ?_;intro l k' L' H' f;cases l with
 | normal =>
  obtain⟨y,n,o,p⟩:=f;exact⟨⟨y,n⟩,o,p⟩
 | _=>exact f
def a6 {Γ:Ctx} {k:Nat} {L:Sl} {H:Hp} {Q:ey} {c:Operand} {x y:Code} {p:Prop} {_:Decidable p} (hc:aj L c=.d (.bool (decide p))) (b:p->DW Γ x Q k L H) (f:¬ p->DW Γ y Q k L H):DW Γ (.cond c x y) Q k L H:=
 ee hc (λh=>b<|of_decide_eq_true h) (λh=>f<|of_decide_eq_false h)
def IT {Γ:Ctx} {k:Nat} {L:Sl} {H:Hp} {Q:ey} {c:Operand} {x y:Code} (hc:aj L c=.d (.bool true)) (h:DW Γ x Q k L H):DW Γ (.cond c x y) Q k L H:=ee hc (λ_=>h)<|λh=>by cases h
def JT {Γ:Ctx} {k:Nat} {L:Sl} {H:Hp} {Q:ey} {c:Operand} {x y:Code} (hc:aj L c=.d (.bool false)) (h:DW Γ y Q k L H):DW Γ (.cond c x y) Q k L H:=ee hc (λh=>by cases h)<|λ_=>h
section
variable {Γ : Ctx} {k : Nat} {L : Sl} {H : Hp} {Q : ey} {K : cn}
def CM {x y:Code} (h:DW Γ x (du (DW Γ y Q) Q) k L H):DW Γ (.seq x y) Q k L H:=AY λ_ d=>by
 intro e a w m
 refine wpIn_mono (h e a w m)<|sd ?_
 intro f i j l b
 cases f with
 | normal=>exact d _ _ _ b
 | _=>exact b
def ix (h:K k L H):du K Q .normal k L H:=h
def xd {id:Nat} (h:Q (.exit id) k L H):du K Q (.exit id) k L H:=h
def jL (h:Q .ret k L H):du K Q .ret k L H:=h
def Uw {id:Nat} (h:Q .normal k L H):bl id Q .normal k L H:=h
def oX {id:Nat} (h:Q .ret k L H):bl id Q .ret k L H:=h
def PB {id i:Nat} (hb:Az i id=true) (h:Q .normal k L H):bl id Q (.exit i) k L H:=by simp only [bl,hb];exact h
def nX {id i:Nat} (hb:Az i id=false) (h:Q (.exit i) k L H):bl id Q (.exit i) k L H:=by simp only [bl,hb];exact h
end
section
variable {Γ : Ctx} {k : Nat} {L : Sl} {H : Hp} {Q : ey} {c : Code}
def po {t es:Nat} {xs:List (List D)} (h:L.get t=.d (.slice es xs)) (f:xs.length<=9223372036854775807->DW Γ c Q k L H):DW Γ c Q k L H:=by intro e a w m;have b:=m.slot t;rw [h] at b;obtain⟨j,l,_,n,i,_⟩:=b.R4;exact f (by unfold maxLen at i;omega) e a w m
def cm {α:Type} {t es:Nat} {l:List α} {f:α->List D} (h:L.get t=.d (.slice es (l.map f))) (b:l.length<=9223372036854775807->DW Γ c Q k L H):DW Γ c Q k L H:=
 po h (by simpa using b)
end
section
variable {k : Nat} {L : Sl} {H : Hp} {τ : List (Nat×TI)} {rs : List ResultVar}
def bi {b b':Bool} (f:Mu L H τ rs=some (.d (.bool b))) (h:b=b'):Cn τ rs (λ_ r _=>r.low 0=true/\r=.d (.bool b')) .ret k L H:=⟨.inl rfl,_,f,rfl,by rw [h]⟩
def bh {i:IntKind} {n b:Int} (f:Mu L H τ rs=some (.d (.int i n))) (h:n=b):Cn τ rs (λ_ r _=>r.low 0=true/\r=.d (.int i b)) .ret k L H:=⟨.inl rfl,_,f,rfl,by rw [h]⟩
def vm {x y b f:D} (i:Mu L H τ rs=some (.M2 [.d x,.d y])) (h:x=b/\y=f):Cn τ rs (λ_ r _=>r.low 0=true/\r=.M2 [.d b,.d f]) .ret k L H:=⟨.inl rfl,_,i,rfl,by rw [h.1,h.2]⟩
def uR {x y z b f i:D} (j:Mu L H τ rs=some (.M2 [.d x,.d y,.d z])) (h:x=b/\y=f/\z=i):Cn τ rs (λ_ r _=>r.low 0=true/\r=.M2 [.d b,.d f,.d i]) .ret k L H:=⟨.inl rfl,_,j,rfl,by rw [h.1,h.2.1,h.2.2]⟩
end
end
section
open Go Go.RowKit
variable [Y0]
section
variable {Γ : Ctx} {k : Nat -> Prop} {L : Sl} {H : Hp} {K : cn} {ops : List Oper} {rest : List Oper} {a : Act} {w : World} {e : Env} {t t' ty : TypeId} {x y : Operand}
mutual
def Rel.ext {X} {e e':Env} {w} (b:∀ i,e.U4 i->e'.U4 i) (f:∀ i,e.U4 i->e'.β i=e.β i/\e'.η i=e.η i):∀ (s:SV) (v:Value),Rel X e w s v->Rel X e' w s v
 | .V1,_,_=>trivial
 | .d _,_,h=>h
 | .Q1,_,h=>h
 | .pd _,_,h=>h
 | .loc i _,_,h=>⟨b i h.1,by rw [(f i h.1).1];exact h.2⟩
 | .mp i,_,h=>⟨b i h.1,by rw [(f i h.1).1];exact h.2⟩
 | .md _ _,_,h=>h
 | .sl i _ _ _,_,h=>⟨b i h.1,by rw [(f i h.1).1];exact h.2⟩
 | .row i,_,h=>⟨b i h.1,by rw [(f i h.1).2];exact h.2⟩
 | .R5 i _ _ _,_,h=>⟨b i h.1,by rw [(f i h.1).2];exact h.2⟩
 | .rg _ _ _,_,h=>h
 | .P3 i _ _ _,_,h=>⟨b i h.1,by rw [(f i h.1).2];exact h.2⟩
 | .fn _ o,_,⟨j,l,m⟩=>⟨j,l,O0.ext b f o j m⟩
 | .agg n,_,⟨j,l,m⟩=>⟨j,l,O0.ext b f n j m⟩
 | .M2 n,_,⟨j,l,m⟩=>⟨j,l,O0.ext b f n j m⟩
 | .val _,_,h=>h
def O0.ext {X} {e e':Env} {w} (b:∀ i,e.U4 i->e'.U4 i) (d:∀ i,e.U4 i->e'.β i=e.β i/\e'.η i=e.η i):∀ (ss:List SV) (vs:List Value),O0 X e w ss vs->O0 X e' w ss vs
 | [],[],_=>trivial
 | [],_::_,h=>h.elim
 | _::_,[],h=>h.elim
 | s::ss,v::vs,⟨f,j⟩=>⟨Rel.ext b d s v f,O0.ext b d ss vs j⟩
end
def I4.ext {X} {e e':Env} {w} (n:∀ i,e.U4 i->e'.U4 i) (d:∀ i,e.U4 i->e'.β i=e.β i/\e'.η i=e.η i) (p:Nat×HB) (f:e.U4 p.1) (h:I4 X e w p):I4 X e' w p:=by
 obtain⟨i,b⟩:=p;cases b with
 | M1 ty u =>
  obtain⟨j,l,m,o⟩:=h;exact⟨j,by rw [(d i f).1];exact l,O0.ext n d _ _ m,o⟩
 | row ty v z =>
  obtain⟨j,l,m⟩:=h;exact⟨j,by rw [(d i f).2];exact l,m⟩
 | map r s=>show W6 w (e'.β i) r s;rw [(d i f).1];exact h
def Gc {e e':Env} (d:∀ i,e.U4 i->e'.β i=e.β i/\e'.η i=e.η i) (p:Nat×HB) (f:e.U4 p.1):HB.owned e' p=HB.owned e p:=by
 obtain⟨i,b⟩:=p;cases b with
 | M1 ty h=>simp [HB.owned,(d i f).1]
 | row ty j l=>simp [HB.owned,(d i f).2]
 | map m n=>simp [HB.owned,(d i f).1]
def n3 {e e':Env} (b:∀ i,e.U4 i->e'.β i=e.β i/\e'.η i=e.η i):∀ (H:Hp),(∀ p∈H,e.U4 p.1)->ah e' H=ah e H
 | [],_=>rfl
 | p::H,h=>by
  have ih:=n3 b H λq d=>h q (Ak _ d)
  unfold ah at ih ⊢
  rw [Br,Br,Gc b p (h p<|Ac ..),ih]
def Env.bind (e:Env) (x b:Nat):Env:=⟨λi=>if i=x then b else e.β i,e.η,λi=>e.U4 i∨i=x⟩
def Env.Q2 (e:Env) (x:Nat) (v:Value):Env:=⟨e.β,λi=>if i=x then v else e.η i,λi=>e.U4 i∨i=x⟩
def oa (k:Nat->Prop) (x:Nat):Nat->Prop:=λi=>k i∨i=x
def gv (k i:Nat):oa (lo k) k i↔lo (k+1) i:=by unfold oa lo;omega
def Env.Nz (e:Env) (x b:Nat) (d:¬ e.U4 x):∀ i,e.U4 i->(e.bind x b).β i=e.β i/\(e.bind x b).η i=e.η i:=λi f=>⟨if_neg (λh:i=x=>d<|h▸f),rfl⟩
def Env.N3 (e:Env) (x:Nat) (v:Value) (b:¬ e.U4 x):∀ i,e.U4 i->(e.Q2 x v).β i=e.β i/\(e.Q2 x v).η i=e.η i:=λi d=>⟨rfl,if_neg<|λh:i=x=>b<|h▸d⟩
def Heap.cast {k k':Nat->Prop} (h:Heap Γ k H e w) (b:∀ i,k i↔k' i):Heap Γ k' H e w:=
 ⟨λi=>(h.top i).trans (b i),h.heap,h.ids,h.nodup,h.M3,h.os,h.tape,h.output,h.drawn,h.size,h.block,h.T1,h.S4,λj d=>(b j).1 (h.L8 j d),h.anchor⟩
def J0.cast {k k':Nat->Prop} (m:J0 Γ k L H e a w) (b:∀ i,k i↔k' i):J0 Γ k' L H e a w:=⟨m.toHeap.cast b,m.defers,m.len,m.slot⟩
def J0.new (m:J0 Γ k L H e a w) {x:Nat} (l:¬ k x) {e':Env} {w':World} {hb:HB} (z:∀ i,e'.U4 i↔oa k x i) (r:∀ i,e.U4 i->e'.β i=e.β i/\e'.η i=e.η i) (d:W4 Γ.dr w.heap.size w w')
  (A:∀ b,HB.owned e' (x,hb)=some b->w.heap.size<=b)
  (R:(∀ b,b<w.heap.size->Γ.X e' ((x,hb)::H) b->Γ.X e H b)->I4 (Γ.X e' ((x,hb)::H)) e' w' (x,hb)) :
  J0 Γ (oa k x) L ((x,hb)::H) e' a w':=by
 have s:∀ p∈H,e.U4 p.1:=λp f=>(m.heap p f).1
 have B:∀ i,e.U4 i->e'.U4 i:=λi S=>(z i).2<|.inl<|(m.top i).1 S
 have u:ah e' H=ah e H:=n3 r H s;have G:∀ b,b∈ah e' ((x,hb)::H)->HB.owned e' (x,hb)=some b∨b∈ah e H:=by
  intro b n;unfold ah at n;rw [Br] at n;split at n
  ·exact .inr<|u▸n
  ·rename_i c C;rcases List.mem_cons.1 n with rfl|h
   ·exact .inl C
   ·exact .inr<|u▸h
 have E:∀ b,b<w.heap.size->Γ.X e' ((x,hb)::H) b->Γ.X e H b:=by
  intro b I l;rcases l with l|l
  ·exact .inl l
  ·rcases G b l with h|h
   ·have:=A b h;omega
   ·exact .inr h
 have T:=R E;have J:∀ b,b<w.heap.size->¬ Γ.X e H b->w'.heap[b]?=w.heap[b]?:=λb I _=>d.block b I
 refine⟨⟨z,λp f=>?_,?_,?_,λb n=>?_,d.os.trans m.os,d.tape.trans m.tape,d.output.trans m.output,λM=>Aw (m.drawn M) (d.drawn M),Aw m.size d.size,λb o N=>(d.block b<|As o m.size).trans (m.block b o N),m.T1,m.S4,λj v=>.inl (m.L8 j v),λj v=>(Env.WK<|r j<|(m.top j).2<|m.L8 j v).trans<|m.anchor j v⟩,m.defers.below d.toBelow,m.len,λt=>?_⟩
 ·rcases List.mem_cons.1 f with rfl|f
  ·exact⟨(z x).2 (.inr rfl),T⟩
  ·refine⟨B _ (s p f),?_⟩
   have o:=I4.ext B r p (s p f) (m.heap p f).2;refine I4.N1 d.size J E p (λb O=>?_) o;rw [Gc r p<|s p f] at O;exact d.block b<|m.lt b<|List.mem_filterMap.2 ⟨p,f,O⟩
 ·refine List.nodup_cons.2 ⟨λF=>?_,m.ids⟩;obtain⟨p,f,P⟩:=List.mem_map.1 F;have:=(m.top _).1 (s p f)
  simp at P;exact l<|P▸this
 ·unfold ah;rw [Br];split
  ·exact (show (ah e' H).Nodup from u▸m.nodup)
  ·rename_i c C;refine List.nodup_cons.2 ⟨λF=>?_,(show (ah e' H).Nodup from u▸m.nodup)⟩;have o:=A c C;have N:=m.lt c<|show c∈ah e H from u▸F;omega
 ·rcases G b n with h|h
  ·have o:=A b h;exact⟨.inr (Aw m.size o),λU=>by have:=(m.T1 b U).1;have:=m.size;omega⟩
  ·exact m.M3 b h
 ·exact Rel.N1 d.size J E _ _<|Rel.ext B r _ _<|m.slot t
def SV.cells:SV->List SV
 | .agg b=>b
 | s=>[s]
def SV.CD:SV->Bool
 | .d _|.Q1|.pd _|.loc _ _|.mp _|.md _ _|.P3 _ _ _ _|.fn _ _|.row _|.sl _ _ _ _|.R5 _ _ _ _|.rg _ _ _=>true
 | .val u=>u.oneCell'
 | _=>false
def Zr:List SV->Bool
 | []=>true
 | s::b=>s.CD&&Zr b
def SV.isVar:SV->Bool
 | .agg b=>Zr b
 | s=>s.CD
def Q0.one {X w v x} (h:Q0 X w v x):v.oneCell'=true/\v.cells = #[v]:=by
 induction h with
 | own h ih=>exact ih
 | _=>exact⟨rfl,rfl⟩
def U3.one {X w v x} (h:U3 X w v x):v.oneCell'=true/\v.cells = #[v]:=by
 induction h with
 | own h ih=>exact ih
 | _=>exact⟨rfl,rfl⟩
def Zm.one {X:Nat->Prop} {w:World} {B q:Nat} {v:Value} {x:D} (h:Zm X w B q v x):v.oneCell'=true/\v.cells = #[v]:=by
 have b:=h.2;split at b
 ·exact b.one
 ·exact Q0.one b
def uw {v:Value} (h:v.oneCell'=true):v.cells = #[v]:=by cases v<;>first|rfl|(simp [Value.oneCell'] at h)
def Xo {X e w} {s:SV} {v:Value} (l:s.CD=true) (h:Rel X e w s v):v.oneCell'=true/\v.cells = #[v]:=by
 cases s with
 | d x=>exact Q0.one h
 | Q1=>cases h;exact⟨rfl,rfl⟩
 | pd p=>obtain⟨b,off,rfl,_⟩:=h;exact⟨rfl,rfl⟩
 | loc i o=>obtain⟨_,rfl⟩:=h;exact⟨rfl,rfl⟩
 | mp i=>obtain⟨_,rfl⟩:=h;exact⟨rfl,rfl⟩
 | md r z=>obtain⟨_,rfl,_⟩:=h;exact⟨rfl,rfl⟩
 | P3 i j m o=>obtain⟨_,g,n,A,_,rfl⟩:=h;exact⟨rfl,rfl⟩
 | fn f C=>obtain⟨E,rfl,_⟩:=h;exact⟨rfl,rfl⟩
 | row i=>exact⟨h.2.2,uw h.2.2⟩
 | R5 i m k n=>exact⟨h.2.1,uw h.2.1⟩
 | rg B q x=>exact Zm.one h
 | sl i o n c=>obtain⟨_,_,_,_,rfl,_⟩:=h;exact⟨rfl,rfl⟩
 | val u=>have h:v=u:=h;subst h;exact⟨l,uw l⟩
 | _=>simp [SV.CD] at l
def Uj {X e w}:∀ {ss:List SV} {vs:List Value},Zr ss=true->O0 X e w ss vs->∀ v∈vs,v.oneCell'=true
 | [],[],_,_,_,h=>by simp at h
 | [],_::_,_,h,_,_=>h.elim
 | _::_,[],_,h,_,_=>h.elim
 | s::ss,v::vs,b,⟨f,i⟩,u,d=>by
  simp only [Zr,Ae] at b
  rcases List.mem_cons.1 d with rfl|d
  ·exact (Xo b.1 f).1
  ·exact Uj b.2 i u d
def Mg {X e w} {s:SV} {v:Value} (b:s.isVar=true) (h:Rel X e w s v):O0 X e w s.cells v.cells.toList/\∀ u∈v.cells.toList,u.oneCell'=true:=by
 cases s with
 | agg i =>
  obtain⟨j,rfl,d⟩:=h;exact⟨by simpa [SV.cells,Value.cells] using d,by simpa [Value.cells] using Uj b d⟩
 | _ =>
  have f:=Xo (by simpa [SV.isVar] using b) h;rw [f.2];exact⟨⟨h,trivial⟩,by simpa using f.1⟩
def eh (b:Bool) (w:World) (o:Obj):W4 b w.heap.size w (w.alloc o):=⟨(Below.refl _ _).alloc (Af _) o,λ_=>Af _⟩
def J0.alloc (m:J0 Γ k L H e a w) {x:Nat} (f:¬ k x) {cs:List SV} {vs:List Value} (te:TypeId) (n:O0 (Γ.X e H) e w cs vs) (h1:∀ v∈vs,v.oneCell'=true) :
  J0 Γ (oa k x) L ((x,.M1 te cs)::H) (e.bind x w.heap.size) a (w.alloc (.cells vs.toArray te)):=by
 have j:¬ e.U4 x:=λh=>f<|(m.top x).1 h
 have l:(e.bind x w.heap.size).β x=w.heap.size:=if_pos rfl;refine m.new f (λi=>or_congr (m.top i) Iff.rfl) (e.Nz _ _ j) (eh Γ.dr _ _) (λb d=>?_) ?_
 ·simp only [HB.owned,l,Option.some.injEq] at d;omega
 ·intro o;refine⟨vs,by rw [l];exact heap_alloc_new w _,?_,h1⟩
  exact O0.N1 (eh Γ.dr _ _).size (λb d _=>(eh Γ.dr _ _).block b d) (λb d f=>o b d f) _ _<|O0.ext (e:=e) (λi p=>Or.inl p) (e.Nz _ _ j) _ _ n
def ir (k:Nat):¬ lo k k:=Nat.lt_irrefl k
def o6 (τ:List (Nat×TI)) (t:TypeId):List SV:=(ai τ t).zero.map S6
def gp:List Value->Bool
 | []=>true
 | v::b=>GZ v&&(v.oneCell'&&gp b)
def ij {X e w}:∀ (vs:List Value),gp vs=true->O0 X e w (vs.map S6) vs/\∀ v∈vs,v.oneCell'=true
 | [],_=>⟨trivial,by simp⟩
 | v::vs,h=>by
  simp only [gp,Ae] at h
  obtain⟨d,f⟩:=ij (X:=X) (e:=e) (w:=w) vs h.2.2
  refine⟨⟨LM v (cd (x:=.const v) h.1),d⟩,λu b=>?_⟩
  rcases List.mem_cons.1 b with rfl|b
  ·exact h.2.1
  ·exact f u b
def VR {d x:Nat} {te ty:TypeId} {cs:List SV} (h:¬ k x) (i:(Γ.sh te).known=true) (j:gp (ai Γ.τ te).zero=true) (l:o6 Γ.τ te=cs) (o:Av d Γ.n=true) :
  P6 Γ ⟨some d,.alloc te,ty,pos,af,g⟩ k L H (oa k x) ((d,.loc x 0)::L) ((x,.M1 te cs)::H):=by
 intro e a w Q m;obtain⟨C,z,p,r,E,F,b⟩:=Ctx.info<|Sh.Y1 i;have u:(execOp a.eval ⟨some d,.alloc te,ty,pos,af,g⟩).run Γ.P w=.ok (.value<|.pointer<|some ⟨w.heap.size,0,none⟩) (w.alloc<|.cells z.cells te):=by
  simp [execOp,Instr.alloc,zeroValue,typeInfo,p,r,newVar,newRow]
 unfold Oper.wp;rw [u];obtain⟨A,B⟩:=ij (X:=Γ.X e H) (e:=e) (w:=w) _ j;have f:=m.alloc h te A B;rw [<- b] at f;subst l;unfold o6;rw [<- b];refine⟨_,f.put (s:=.loc x 0) (v:=.pointer<|some ⟨w.heap.size,0,none⟩) (Ab o) ⟨.inr rfl,?_⟩⟩
 show _=Value.pointer (some ⟨(if x=x then w.heap.size else e.β x),0,none⟩);rw [if_pos rfl]
def TX {d z:Nat} {te ty:TypeId} {x:Operand} {s:SV} (f:¬ k z) (h:aj L x=s) (i:de x=true) (j:s.isVar=true) (l:Av d Γ.n=true) :
  P6 Γ ⟨some d,.box te x,ty,pos,af,g⟩ k L H (oa k z) ((d,.loc z 0)::L) ((z,.M1 te s.cells)::H):=by
 intro e a w Q m;have o:(execOp a.eval ⟨some d,.box te x,ty,pos,af,g⟩).run Γ.P w=.ok (.value<|.pointer<|some ⟨w.heap.size,0,none⟩) (w.alloc<|.cells (a.eval x).cells te):=by
  simp [execOp,Instr.box,newVar,newRow]
 unfold Oper.wp;rw [o];have b:=m.op x<|cd i;rw [h] at b;obtain⟨p,r⟩:=Mg j b;have u:=m.alloc f te p r;refine⟨_,u.put (s:=.loc z 0) (v:=.pointer<|some ⟨w.heap.size,0,none⟩) (Ab l) ⟨.inr rfl,?_⟩⟩
 show _=Value.pointer (some ⟨(if z=z then w.heap.size else e.β z),0,none⟩);rw [if_pos rfl]
def P6.cast {o:Oper} {b d:Nat->Prop} {L':Sl} {H':Hp} (h:P6 Γ o k L H b L' H') (f:∀ i,b i↔d i):P6 Γ o k L H d L' H':=by intro e a w Q m;refine Oper.wp_mono ?_<|h e a w Q m;rintro a' w' ⟨e',m'⟩;exact⟨e',m'.cast f⟩
end
section
variable {Γ : Ctx} {k : Nat} {L : Sl} {H : Hp} {K : cn} {ops : List Oper} {rest : List Oper} {a : Act} {w : World} {e : Env} {t t' ty : TypeId} {x y : Operand}
end
end
section
open Go Go.RowKit
variable [Y0]
def Hp.set:Hp->Nat->HB->Hp
 | [],_,_=>[]
 | (d,s)::H,i,b=>match Az d i with|true=>(d,b)::H|false=>(d,s)::Hp.set H i b
def Hp.del:Hp->Nat->Hp
 | [],_=>[]
 | (d,s)::H,i=>match Az d i with|true=>H|false=>(d,s)::Hp.del H i
def Hp.tL (i:Nat) (b:HB):∀ (H:Hp),(Hp.set H i b).map (·.1)=H.map (·.1)
 | []=>rfl
 | (d,s)::H=>by
  simp only [Hp.set]
  cases h:Az d i with
  | true=>rfl
  | false=>simp [Hp.tL i b H]
def Hp.sL {i:Nat} {b:HB}:∀ (H:Hp),(H.map (·.1)).Nodup->∀ p∈Hp.set H i b,p=(i,b)∨(p∈H/\p.1≠i)
 | [],_,p,f=>by simp [Hp.set] at f
 | (d,s)::H,m,p,f=>by
  obtain⟨n,o⟩:=List.nodup_cons.1 m
  simp only [Hp.set] at f
  cases h:Az d i with
  | true =>
   have j:=Ao h
   subst j
   rw [h] at f
   rcases List.mem_cons.1 f with rfl|f
   ·exact .inl rfl
   ·refine .inr ⟨Ak _ f,λr=>n ?_⟩
    exact List.mem_map.2 ⟨p,f,r⟩
  | false =>
   have j:=By h
   rw [h] at f
   rcases List.mem_cons.1 f with rfl|f
   ·exact .inr ⟨Ac ..,j⟩
   ·rcases Hp.sL H o p f with l|⟨l,u⟩
    ·exact .inl l
    ·exact .inr ⟨Ak _ l,u⟩
def Hp.Sk {e:Env} {i:Nat} {b b':HB} (j:HB.owned e (i,b')=HB.owned e (i,b)):∀ (H:Hp),Hp.get H i=some b->ah e (Hp.set H i b')=ah e H
 | [],h=>by simp [Hp.get] at h
 | (d,s)::H,h=>by
  simp only [Hp.get] at h
  simp only [Hp.set]
  cases f:Az d i with
  | true =>
   have l:=Ao f
   subst l
   rw [f] at h
   cases h
   unfold ah
   rw [Br,Br,j]
  | false =>
   rw [f] at h
   have ih:=Hp.Sk j H h
   unfold ah at ih ⊢
   rw [Br,Br,ih]
def Hp.N6 {i:Nat}:∀ (H:Hp),(H.map (·.1)).Nodup->∀ p∈Hp.del H i,p∈H/\p.1≠i
 | [],_,p,b=>by simp [Hp.del] at b
 | (d,s)::H,f,p,b=>by
  obtain⟨j,l⟩:=List.nodup_cons.1 f
  simp only [Hp.del] at b
  cases h:Az d i with
  | true =>
   have m:=Ao h
   subst m
   rw [h] at b
   exact⟨Ak _ b,λn=>j<|List.mem_map.2 ⟨p,b,n⟩⟩
  | false =>
   rw [h] at b
   rcases List.mem_cons.1 b with rfl|b
   ·exact⟨Ac ..,By h⟩
   ·obtain⟨o,r⟩:=Hp.N6 H l p b
    exact⟨Ak _ o,r⟩
def Hp.Uc {i:Nat}:∀ (H:Hp),(H.map (·.1)).Nodup->((Hp.del H i).map (·.1)).Nodup
 | [],_=>by simp [Hp.del]
 | (d,s)::H,f=>by
  obtain⟨j,b⟩:=List.nodup_cons.1 f
  simp only [Hp.del]
  cases h:Az d i with
  | true=>exact b
  | false =>
   refine List.nodup_cons.2 ⟨λl=>j ?_,Hp.Uc H b⟩
   obtain⟨p,m,n⟩:=List.mem_map.1 l
   exact List.mem_map.2 ⟨p,(Hp.N6 H b p m).1,n⟩
section
variable {Γ : Ctx} {k : Nat -> Prop} {L : Sl} {H : Hp} {K : cn} {ops : List Oper} {rest : List Oper} {a : Act} {w : World} {e : Env} {t t' ty : TypeId} {x y : Operand}
def pg {l:Hp} (h:(l.map (·.1)).Nodup):l.Nodup:=
 List.Pairwise.of_map (f:=λp:Nat×HB=>p.1) (S:=(·≠·)) (λ_ _ b d=>b<|by rw [d]) h
def J0.O5 (m:J0 Γ k L H e a w) {p q:Nat×HB} (d:p∈H) (f:q∈H) (h:p.1≠q.1) {b:Nat} (h1:HB.owned e p=some b) (i:HB.owned e q=some b):False:=
 h (by rw [uy _ H m.nodup p q b d f h1 i])
def J0.Ck (m:J0 Γ k L H e a w) {i:Nat} {b b':HB} (hH:Hp.get H i=some b) {w':World} (n:w.heap.size<=w'.heap.size) (G:w'.os=w.os) (I:w'.tape=w.tape) (J:w'.output=w.output) (M:Γ.dr=true->w.drawn<=w'.drawn)
  (j:∀ c,c<w.heap.size->HB.owned e (i,b)≠some c->w'.heap[c]?=w.heap[c]?) (o:HB.owned e (i,b')=HB.owned e (i,b)) (l:I4 (Γ.X e H) e w' (i,b')):J0 Γ k L (Hp.set H i b') e a w':=by
 have s:=Hp.mem_of hH;have u:ah e (Hp.set H i b')=ah e H:=Hp.Sk o H hH;have z:Γ.X e (Hp.set H i b')=Γ.X e H:=by unfold Ctx.X;rw [u]
 have v:∀ c,HB.owned e (i,b)=some c->c∈ah e H:=λc d=>List.mem_filterMap.2 ⟨_,s,d⟩
 have A:∀ c,c<w.heap.size->¬ Γ.X e H c->w'.heap[c]?=w.heap[c]?:=λc d N=>j c d λh=>N<|.inr<|v c h
 refine⟨⟨m.top,λp f=>?_,by rw [Hp.tL];exact m.ids,by rw [u];exact m.nodup,λc d=>m.M3 c (u▸d),G.trans m.os,I.trans m.tape,J.trans m.output,λB=>Aw (m.drawn B) (M B),Aw m.size n,
  λc C E=>(j c (As C m.size) λh=>?_).trans (m.block c C E),m.T1,m.S4,m.L8,m.anchor⟩,m.defers.N1 λr l=>j r (cz l) λo=>m.K8 l (v r o),m.len,λt=>?_⟩
 ·rw [z];rcases Hp.sL H m.ids p f with rfl|⟨f,O⟩
  ·exact⟨(m.heap _ s).1,l⟩
  ·refine⟨(m.heap p f).1,I4.N1 n A (λ_ _ h=>h) p (λc d=>j c (m.lt c<|List.mem_filterMap.2 ⟨p,f,d⟩) λh=>m.O5 f s O d h) (m.heap p f).2⟩
 ·rcases (m.M3 c<|v c h).1 with F|F
  ·exact E F
  ·omega
 ·rw [z];exact Rel.N1 n A (λ_ _ h=>h) _ _<|m.slot t
def J0.M5 (m:J0 Γ k L H e a w) {i:Nat} {b:HB} (hH:Hp.get H i=some b) {x:Nat} (n:¬ k x) {e':Env} {w':World} {hb:HB} (I:∀ i,e'.U4 i↔oa k x i) (u:∀ i,e.U4 i->e'.β i=e.β i/\e'.η i=e.η i)
  (J:w.heap.size<=w'.heap.size) (a0:w'.os=w.os) (a1:w'.tape=w.tape) (a2:w'.output=w.output) (a3:Γ.dr=true->w.drawn<=w'.drawn)
  (E:∀ c,c<w.heap.size->HB.owned e (i,b)≠some c->w'.heap[c]?=w.heap[c]?)
  (v:∀ c,HB.owned e' (x,hb)=some c->HB.owned e (i,b)=some c∨w.heap.size<=c)
  (a4:(∀ c,c<w.heap.size->Γ.X e' ((x,hb)::Hp.del H i) c->Γ.X e H c)->I4 (Γ.X e' ((x,hb)::Hp.del H i)) e' w' (x,hb)):J0 Γ (oa k x) L ((x,hb)::Hp.del H i) e' a w':=by
 have M:=Hp.mem_of hH;have z:∀ p∈H,e.U4 p.1:=λp d=>(m.heap p d).1
 have l:=Hp.N6 (i:=i) H m.ids;have N:∀ i,e.U4 i->e'.U4 i:=λi hi=>(I i).2<|.inl<|(m.top i).1 hi
 have A:ah e' (Hp.del H i)=ah e (Hp.del H i):=n3 u _ λp d=>z p (l p d).1
 have O:∀ c,c∈ah e (Hp.del H i)->c∈ah e H/\HB.owned e (i,b)≠some c:=by
  intro c o;obtain⟨p,d,T⟩:=List.mem_filterMap.1 o;exact⟨List.mem_filterMap.2 ⟨p,(l p d).1,T⟩,λh=>m.O5 (l p d).1 M (l p d).2 T h⟩
 have B:∀ c,HB.owned e (i,b)=some c->c∈ah e H:=λc o=>List.mem_filterMap.2 ⟨_,M,o⟩
 have U:∀ c,c∈ah e' ((x,hb)::Hp.del H i)->HB.owned e' (x,hb)=some c∨c∈ah e (Hp.del H i):=by
  intro c s;unfold ah at s;rw [Br] at s;split at s
  ·exact .inr<|A▸s
  ·rename_i c' o;rcases List.mem_cons.1 s with rfl|h
   ·exact .inl o
   ·exact .inr<|A▸h
 have P:∀ c,c<w.heap.size->Γ.X e' ((x,hb)::Hp.del H i) c->Γ.X e H c:=by
  intro c a9 n;rcases n with n|n
  ·exact .inl n
  ·rcases U c n with h|h
   ·rcases v c h with h|h
    ·exact .inr<|B c h
    ·omega
   ·exact .inr (O c h).1
 have F:=a4 P;have V:∀ c,c<w.heap.size->¬ Γ.X e H c->w'.heap[c]?=w.heap[c]?:=λc o n=>E c o λh=>n<|.inr<|B c h
 have W:(ah e<|Hp.del H i).Nodup:=jd _ H m.nodup _ (pg<|Hp.Uc H m.ids) λp d=>(l p d).1
 refine⟨⟨I,λp d=>?_,?_,?_,λc s=>?_,a0.trans m.os,a1.trans m.tape,a2.trans m.output,λl=>Aw (m.drawn l) (a3 l),Aw m.size J,
  λc f C=>(E c (As f m.size) λh=>?_).trans (m.block c f C),m.T1,m.S4,λj G=>.inl (m.L8 j G),λj G=>(Env.WK<|u j<|(m.top j).2<|m.L8 j G).trans<|m.anchor j G⟩,m.defers.N1 λr F=>E r (cz F) λv=>m.K8 F (B r v),m.len,λt=>?_⟩
 ·rcases List.mem_cons.1 d with rfl|d
  ·exact⟨(I x).2 (.inr rfl),F⟩
  ·obtain⟨d,a5⟩:=l p d;refine⟨N _ (z p d),?_⟩
   have f:=I4.ext N u p (z p d) (m.heap p d).2;refine I4.N1 J V P p (λc R=>?_) f;rw [Gc u p<|z p d] at R;exact E c (m.lt c<|List.mem_filterMap.2 ⟨p,d,R⟩) λh=>m.O5 d M a5 R h
 ·refine List.nodup_cons.2 ⟨λS=>?_,Hp.Uc H m.ids⟩;obtain⟨p,d,Y⟩:=List.mem_map.1 S;have:=(m.top _).1 (z p (l p d).1)
  simp at Y;exact n<|Y▸this
 ·unfold ah;rw [Br];split
  ·exact (show (ah e'<|Hp.del H i).Nodup from A▸W)
  ·rename_i c o;refine List.nodup_cons.2 ⟨λS=>?_,(show (ah e'<|Hp.del H i).Nodup from A▸W)⟩;have C:=O c<|show c∈ah e (Hp.del H i) from A▸S;rcases v c o with f|f
   ·exact C.2 f
   ·have:=m.lt c C.1;omega
 ·rcases U c s with h|h
  ·rcases v c h with f|f
   ·exact m.M3 c<|B c f
   ·exact⟨.inr (Aw m.size f),λhO=>by have:=(m.T1 c hO).1;have:=m.size;omega⟩
  ·exact m.M3 c (O c h).1
 ·rcases (m.M3 c<|B c h).1 with Z|Z
  ·exact C Z
  ·omega
 ·exact Rel.N1 J V P _ _<|Rel.ext N u _ _<|m.slot t
def nd (cs:List SV) (o:Nat) (ss:List SV):List SV:=cs.take o++ss++cs.drop (o+ss.length)
def oG {te tb ty:TypeId} {i o:Nat} {cs:List SV} {s:SV} (B:aj L x=.loc i o) (hH:Hp.get H i=some (.M1 tb cs)) (C:aj L y=s) (E:de y=true) (d:s.isVar=true)
  (F:(Γ.sh te).known=true) (G:Az s.cells.length (Γ.cells te)=true) (I:Cj (o+s.cells.length) cs.length=true) :
  P6 Γ ⟨none,.store te x y,ty,pos,af,g⟩ k L H k L (Hp.set H i (.M1 tb (nd cs o s.cells))):=by
 intro e a w Q m;obtain⟨J,z,M,_,N,_⟩:=Ctx.info<|Sh.Y1 F;obtain⟨_,O⟩:=Q5 m B (Nj · _ _);have n:=m.op y<|cd E;rw [C] at n;obtain⟨p,r⟩:=Mg d n;obtain⟨f,u,j,A⟩:=(m.heap _<|Hp.mem_of hH).2;have R:=O0.length _ _ j;have l:=O0.length _ _ p;have a0:=Ab I;have S:=Ao G;have T:=run_storeCells_at Γ.P (e.β i) o tb (a.eval y).cells.toList 0 f.toArray w u (by simp;rw [<- R,<- A5,<- l];omega) r;have U:(execOp a.eval ⟨none,.store te x y,ty,pos,af,g⟩).run Γ.P w=.ok .skip (w.setRow (e.β i) (f.take o++(a.eval y).cells.toList++f.drop (o+(a.eval y).cells.toList.length)).toArray):=by
  have V:(a.eval y).cells.size=J.size:=by rw [<- A5,<- l,S,N]
  simp only [execOp,Instr.storeAt,O,Instr.sureAddr];simp [storeVar,c9 M,V,T]
 unfold Oper.wp;rw [U];refine⟨e,m.Ck (b':=.M1 tb<|nd cs o s.cells) hH ?_ rfl rfl rfl (λ_=>Af _) (λc _ W=>setRow_other w _ c _<|λh=>W<|by simp [HB.owned,h]) rfl ?_⟩
 ·simp [World.setRow]
 ·refine⟨_,setRow_heap w (e.β i) f.toArray _ tb (0,0) u,?_,λv d=>?_⟩
  ·have Y:∀ b,b<w.heap.size->¬ Γ.X e H b->(w.setRow (e.β i) (f.take o++(a.eval y).cells.toList++f.drop (o+(a.eval y).cells.toList.length)).toArray).heap[b]?=w.heap[b]?:=λb _ Z=>setRow_other w _ b _ (λh=>Z (.inr (List.mem_filterMap.2 ⟨_,Hp.mem_of hH,by simp [HB.owned,h]⟩)))
   refine O0.N1 (by simp [World.setRow]) Y (λ_ _ h=>h) _ _ ?_;unfold nd;rw [l];exact O0.append _ _ _ _ (O0.append _ _ _ _ (O0.take _ _ j o) p)<|O0.drop _ _ j _
  ·simp only [C0] at d;rcases d with (d|d)|d
   ·exact A v<|Bz d
   ·exact r v d
   ·exact A v<|B4 d
end
section
variable {Γ : Ctx} {k : Nat} {L : Sl} {H : Hp} {K : cn} {ops : List Oper} {rest : List Oper} {a : Act} {w : World} {e : Env} {t t' ty : TypeId} {x y : Operand}
end
end
section
open Go Go.RowKit
variable [Y0]
def Mi:∀ (vs:List Value) (o j:Nat) (cs:Array Value),o+j+vs.length<=cs.size ->
  ((vs.zipIdx j).foldl (λ(cs:Array Value) (p:Value×Nat)=>cs.setIfInBounds (o+p.2) p.1) cs).toList=cs.toList.take (o+j)++vs++cs.toList.drop (o+j+vs.length)
 | [],o,j,cs,_=>by simp
 | v::vs,o,j,cs,h=>by
  have b:o+(j+1)+vs.length<=(cs.setIfInBounds (o+j) v).size:=by simp at h ⊢;omega
  rw [List.zipIdx_cons,List.foldl_cons,Mi vs o (j+1) _ b];have d:o+j<cs.toList.length:=by simp at h ⊢;omega
  simp only [Array.toList_setIfInBounds];have f:(cs.toList.set (o+j) v).take (o+(j+1))=cs.toList.take (o+j)++[v]:=by
   rw [show o+(j+1)=(o+j)+1 by omega,List.take_succ_eq_append_getElem<|by simpa using d];simp only [List.take_set,List.getElem_set_self];rw [List.set_eq_of_length_le<|by simp;omega]
  have i:(cs.toList.set (o+j) v).drop (o+(j+1)+vs.length)=cs.toList.drop (o+j+(v::vs).length):=by
   rw [List.drop_set_of_lt<|by omega];congr 1;simp;omega
  rw [f,i];simp
def qm (b:Nat->Option (Nat×Nat)) (cs:List SV):List (Nat×SV)->Option (List SV)
 | []=>some cs
 | (i,s)::rest=>match b i with
  | none=>none
  | some (off,d)=>match Az s.cells.length d&&(s.isVar&&Cj (off+d) cs.length) with
   | true=>qm b (nd cs off s.cells) rest
   | false=>none
def aA (X:Nat->Prop) (e:Env) (w:World):List (Nat×SV)->List (Nat×Value)->Prop
 | [],[]=>True
 | (i,s)::b,(j,v)::d=>i=j/\Rel X e w s v/\aA X e w b d
 | _,_=>False
def Sx {X e w} {n:Nat->Option (Nat×Nat)}:∀ (ps:List (Nat×SV)) (f:List (Nat×Value)) (cs:List SV) (vs:Array Value) (cs':List SV),aA X e w ps f->O0 X e w cs vs.toList->(∀ v∈vs.toList,v.oneCell'=true)->qm n cs ps=some cs' ->
  ∃ o:Array Value,Instr.fill n vs f=some o/\O0 X e w cs' o.toList/\∀ v∈o.toList,v.oneCell'=true
 | [],[],cs,vs,cs',_,h,l,b=>by simp only [qm,Option.some.injEq] at b;subst b;exact⟨vs,rfl,h,l⟩
 | [],_::_,_,_,_,h,_,_,_=>h.elim
 | _::_,[],_,_,_,h,_,_,_=>h.elim
 | (i,s)::ps,(j,v)::f,cs,vs,cs',⟨I,J,M⟩,h,l,b=>by
  subst I;simp only [qm] at b;cases r:n i with
  | none=>simp [r] at b
  | some q =>
   obtain⟨off,z⟩:=q;simp only [r] at b;cases m:(Az s.cells.length z&&(s.isVar&&Cj (off+z) cs.length)) with
   | false=>rw [m] at b;cases b
   | true =>
    rw [m] at b;simp only [Ae] at m;obtain⟨A,N,B⟩:=m;have A:=Ao A;have B:=Ab B;obtain⟨C,O⟩:=Mg N J;have E:=O0.length _ _ C;have P:=O0.length _ _ h;have R:v.cells.size=z:=by rw [<- A5,<- E,A]
    have S:off+v.cells.size<=vs.size:=by rw [R,<- A5,<- P];exact B
    simp only [Instr.fill,r];rw [if_neg<|by simp;omega];have F:=Mi v.cells.toList off 0 vs (by simpa using S);have G:(v.cells.zipIdx.foldl (λ(cs:Array Value) (x:Value×Nat)=>cs.setIfInBounds (off+x.2) x.1) vs)=((v.cells.toList.zipIdx 0).foldl (λ(cs:Array Value) (p:Value×Nat)=>cs.setIfInBounds (off+p.2) p.1) vs):=by
     rw [<- Array.foldl_toList,Array.toList_zipIdx]
    refine Sx ps f (nd cs off s.cells) _ cs' M ?_ ?_ b
    ·show O0 X e w _ (v.cells.zipIdx.foldl (λ(cs:Array Value) (x:Value×Nat)=>cs.setIfInBounds (off+x.2) x.1) vs).toList;rw [G,F];unfold nd;rw [E];simp only [Nat.add_zero];exact O0.append _ _ _ _ (O0.append _ _ _ _ (O0.take _ _ h off) C)<|O0.drop _ _ h _
    ·show ∀ u∈(v.cells.zipIdx.foldl (λ(cs:Array Value) (x:Value×Nat)=>cs.setIfInBounds (off+x.2) x.1) vs).toList,u.oneCell'=true;rw [G,F];intro u d;simp only [C0] at d;rcases d with (d|d)|d
     ·exact l u<|Bz d
     ·exact O u d
     ·exact l u<|B4 d
def mq (L:Sl):List (Nat×Operand)->List (Nat×SV)
 | []=>[]
 | (i,x)::b=>(i,aj L x)::mq L b
def mr:List (Nat×Operand)->Bool
 | []=>true
 | (_,x)::b=>de x&&mr b
section
variable {Γ : Ctx} {k : Nat -> Prop} {L : Sl} {H : Hp} {K : cn} {ops : List Oper} {rest : List Oper} {a : Act} {w : World} {e : Env} {t t' ty : TypeId} {x y : Operand}
def N9 (m:J0 Γ k L H e a w):∀ (ps:List (Nat×Operand)),mr ps=true->aA (Γ.X e H) e w (mq L ps) (ps.map λp=>(p.1,a.eval p.2))
 | [],_=>trivial
 | (i,x)::ps,h=>by
  simp only [mr,Ae] at h
  exact⟨rfl,m.op x (cd h.1),N9 m ps h.2⟩
def zt (l:List (Nat×TypeId×Nat)) (i:Nat):Option (Nat×Nat):=match l[i]? with
 | some (off,_,b)=>some (off,b)
 | none=>none
def re (τ:List (Nat×TI)):List (Nat×TypeId×Nat)->Bool
 | []=>true
 | (_,b,d)::l=>(ai τ b).sh.known&&(Az (ai τ b).cells d&&re τ l)
def wT {te:TypeId} {ps:List (Nat×Operand)} {l} {cs cs':List SV} (r:Γ.sh te=.struct l) (F:re Γ.τ l=true) (G:gp (ai Γ.τ te).zero=true) (I:o6 Γ.τ te=cs) (J:mr ps=true)
  (d:qm (zt l) cs (mq L ps)=some cs'):Ev Γ k L H (.build te ps.toArray) ty (.agg cs'):=by
 intro e a w m;have M:Γ.sh te≠.other:=by rw [r];intro h;cases h
 obtain⟨j,z,N,O,Z,hb,s⟩:=Ctx.info M;obtain⟨u,R,v⟩:=Ctx.struct r;obtain⟨o,A⟩:=ij (X:=Γ.X e H) (e:=e) (w:=w) _ G;rw [<- s] at o A;have S:cs=z.cells.toList.map S6:=by rw [<- I,o6,s]
 rw [<- S] at o;obtain⟨p,f1,f2,f3⟩:=Sx _ _ cs z.cells cs' (N9 m ps J) o A d;have T:∀ (n:World),(u.mapM λf=>(do pure (f.offset,<- sizeOf f.type):Sem (Nat×Nat))).run Γ.P n=.ok (l.map λq=>(q.1,q.2.2)).toArray n:=by
  intro n;have U:∀ (b:List Field),(∀ f∈b,∃ j,Γ.P.info? f.type=some j)->(b.mapM λf=>(do pure (f.offset,<- sizeOf f.type):Sem (Nat×Nat))).run Γ.P n=.ok (b.map λf=>(f.offset,((Γ.P.info? f.type).map (·.size)).getD 0)) n:=by
   intro b;induction b with
   | nil=>intro _;simp
   | cons f b ih =>
    intro B;obtain⟨j,C⟩:=B f<|Ac ..;rw [Fz];simp only [Sem.run_bind,c9 C,Result.andThen_ok,Sem.run_pure,ih λf d=>B f (Ak _ d),A3,C,B1,Cm]
  have V:∀ f∈u.toList,∃ j,Γ.P.info? f.type=some j:=by
   subst v;have:∀ (b:List Field),re Γ.τ (b.map λf=>(f.offset,f.type,((Γ.P.info? f.type).map (·.size)).getD 0))=true->∀ f∈b,∃ j,Γ.P.info? f.type=some j:=by
    intro b;induction b with
    | nil=>intro _ f d;simp at d
    | cons g b ih =>
     intro h f d;simp only [A3,re,Ae] at h;rcases List.mem_cons.1 d with rfl|d
     ·obtain⟨j,_,W,_⟩:=Ctx.info (Γ:=Γ) (t:=f.type)<|Sh.Y1 h.1;exact⟨j,W⟩
     ·exact ih h.2.2 f d
   exact this _ F
  rw [F6,map_eq_pure_bind];simp only [Sem.run_bind,Sem.run_pure,U _ V,Result.andThen_ok];subst v;simp [Function.comp_def]
 refine⟨.agg p,λ_ _ _ _ n _=>?_,⟨p.toList,by simp,f2⟩⟩
 have Y:Instr.fill (λx=>Option.map (λq:Nat×TypeId×Nat=>(q.1,q.2.2)) l[x]?) z.cells (Iw (λx=>(x.1,a.eval x.2)) ps)=some p:=by
  rw [<- f1];congr 1;funext i;simp only [zt];cases l[i]? with
  | none=>rfl
  | some q=>obtain⟨o1,t1,s1⟩:=q;rfl
 have E:=T n;simp only [execOp,Instr.build];simp [zeroValue,typeInfo,N,O,run_underlying R] at E ⊢;rw [E];simp only [Result.andThen_ok,List.getElem?_toArray,Bh,Y];simp
def Qk {X w n cap es} {A:Addr} {xs:List (List D)} (h:Q0 X w (.slice (some A) n cap) (.slice es xs)):n=xs.length/\(∀ i (hi:i<xs.length),(xs[i]'hi).length=es) /\
  ∃ vs:List Value,vs.length=n*es/\(∀ j u,vs[j]?=some u->w.cell? (A.add j)=some u)/\(∀ u∈vs,u.oneCell'=true) /\
   ∀ i (hi:i<xs.length) j (d:j<(xs[i]'hi).length),∃ v,vs[i*es+j]?=some v/\Q0 X w v ((xs[i]'hi)[j]'d):=by
 cases h with
 | zero=>exact⟨rfl,by simp,[],by simp,by simp,by simp,by simp⟩
 | @slice _ _ b off _ _ _ _ c F R S T U l G B =>
  subst F;have I:∀ m,m<=xs.length->∃ vs:List Value,vs.length=m*es/\(∀ j u,vs[j]?=some u->w.cell? ((⟨b,off,none⟩:Addr).add j)=some u)/\(∀ u∈vs,u.oneCell'=true) /\
    ∀ i (hi:i<xs.length),i<m->∀ j (d:j<(xs[i]'hi).length),∃ v,vs[i*es+j]?=some v/\Q0 X w v ((xs[i]'hi)[j]'d):=by
   intro m;induction m with
   | zero=>intro _;exact⟨[],by simp,by simp,by simp,λi _ h=>by omega⟩
   | succ m ih =>
    intro V;obtain⟨vs,p,r,s,z⟩:=ih (by omega);have o:m<xs.length:=by omega
    refine⟨vs++(Eo es).map (c m),by simp [p,Bq],?_,?_,?_⟩
    ·intro j u d;by_cases J:j<vs.length
     ·rw [Bj J] at d;exact r j u d
     ·rw [A7<|by omega] at d;have C:j-vs.length<es:=by
       rcases Nat.lt_or_ge (j-vs.length) es with h|h
       ·exact h
       ·rw [List.getElem?_eq_none<|by simpa using h] at d;cases d
      rw [Bh,G6 C] at d;simp only [B1,Option.some.injEq] at d;have:=G m o (j-vs.length)<|by rw [l m o];exact C
      rw [Addr.Y3,<- d,<- this];congr 2;omega
    ·intro u f;rcases List.mem_append.1 f with f|f
     ·exact s u f
     ·obtain⟨q,M,rfl⟩:=List.mem_map.1 f;exact (Q0.one<|B m o q<|by rw [l m o];exact List.mem_range.1 M).1
    ·intro i hi W j d;have N:j<es:=by rw [<- l i hi];exact d
     by_cases O:i<m
     ·obtain⟨v,E,P⟩:=z i hi O j d;refine⟨v,?_,P⟩
      rw [Bj]
      ·exact E
      ·exact (List.getElem?_eq_some_iff.1 E).1
     ·have:i=m:=by omega
      subst this;refine⟨c i j,?_,B i hi j d⟩
      rw [A7 (by omega),show i*es+j-vs.length=j by omega,Bh,G6 N];rfl
  obtain⟨vs,p,r,s,z⟩:=I xs.length<|Af _;exact⟨rfl,l,vs,p,r,s,λi hi=>z i hi hi⟩
def Xn {X w es} {xs ys:List (List D)} {vs p:List Value} (r:∀ i (h:i<xs.length),(xs[i]'h).length=es) (s:∀ i (h:i<ys.length),(ys[i]'h).length=es) (u:vs.length=xs.length*es)
  (h1:∀ i (h:i<xs.length) j (b:j<(xs[i]'h).length),∃ v,vs[i*es+j]?=some v/\Q0 X w v ((xs[i]'h)[j]'b))
  (z:∀ i (h:i<ys.length) j (b:j<(ys[i]'h).length),∃ v,p[i*es+j]?=some v/\Q0 X w v ((ys[i]'h)[j]'b)) :
  (∀ i (h:i<(xs++ys).length),((xs++ys)[i]'h).length=es)/\∀ i (h:i<(xs++ys).length) j (b:j<((xs++ys)[i]'h).length),∃ v,(vs++p)[i*es+j]?=some v/\Q0 X w v (((xs++ys)[i]'h)[j]'b):=by
 refine⟨λi h=>?_,λi h j b=>?_⟩
 ·rw [List.getElem_append];split
  ·exact r i _
  ·exact s _ _
 ·by_cases f:i<xs.length
  ·have d:(xs++ys)[i]'h=xs[i]'f:=List.getElem_append_left f;have m:j<(xs[i]'f).length:=by rw [<- d];exact b
   obtain⟨v,l,n⟩:=h1 i f j m;refine⟨v,?_,?_⟩
   ·rw [Bj (List.getElem?_eq_some_iff.1 l).1];exact l
   ·simp only [d];exact n
  ·have o:i-xs.length<ys.length:=by simp at h;omega
   have d:(xs++ys)[i]'h=ys[i-xs.length]'o:=List.getElem_append_right (by omega);have m:j<(ys[i-xs.length]'o).length:=by rw [<- d];exact b
   obtain⟨v,l,n⟩:=z (i-xs.length) o j m;have A:xs.length*es<=i*es:=A8 _ (by omega);refine⟨v,?_,?_⟩
   ·rw [A7 (by omega),u,show i*es+j-xs.length*es=(i-xs.length)*es+j by rw [Nat.sub_mul];omega];exact l
   ·simp only [d];exact n
end
end
section
open Go Go.RowKit
variable [Y0]
section
variable {Γ : Ctx} {k : Nat -> Prop} {L : Sl} {H : Hp} {K : cn} {ops : List Oper} {rest : List Oper} {a : Act} {w : World} {e : Env} {t t' ty : TypeId} {x y : Operand}
def Ko {w:World} {te es n:Nat} {v:Value} {vs:List Value} (h:w.ownsRow 0 te es v n vs):v.oneCell'=true:=by rcases h.2 with ⟨rfl,_⟩|⟨g,b,d,rfl,_⟩<;>rfl
def Tz {P:Program} {w:World} {t ty te:TypeId} {b:TypeInfo} {z:Value} (p:P.underlying t=some (.slice te)) (hi:P.info? te=some b) (A:b.zero=some z) (F:z.cells.size=b.size) (G:0<b.size)
  {v:Value} {n:Nat} {xs:List Value} (i:w.ownsRow 0 te b.size v n xs) {h:Addr} {m c:Nat} {d:List Value} (l:d.length=m*b.size) (r:∀ j u,d[j]?=some u->w.cell? (h.add j)=some u) (h1:∀ u∈d,u.oneCell'=true)
  (B:n+m<=maxLen) (C:(n+m)*b.bytes<=140737488355328) :
  ∃ v' w',(Builtin.append_ #[t,t] ty #[v,.slice (some h) m c]).run P w=.ok v' w'/\w'.ownsRow 0 te b.size v' (n+m) (xs++d)/\w.grownBy w' v.ownBlock/\(∀ c,v'.ownBlock=some c->v.ownBlock=some c∨w.heap.size<=c):=by
 obtain⟨v',w',s,M,N,_⟩:=run_append_own (P:=P) w 0 t ty te b z b.size b.bytes p hi A rfl rfl F G v n xs i h m c d l r h1 B C<|Nat.zero_le _;refine⟨v',w',s,M,N,?_⟩
 rcases i.2 with ⟨rfl,rfl⟩|⟨g,E,I,rfl,V,O,W,Y,R,Z⟩
 ·obtain⟨v2,w2,f,S,_,_⟩:=run_append_own (P:=P) w w.heap.size t ty te b z b.size b.bytes p hi A rfl rfl F G (.slice none 0 0) 0 xs ⟨i.1,.inl ⟨rfl,rfl⟩⟩ h m c d l r h1 B C<|Af _;rw [s] at f;cases f;exact λc o=>.inr (S.lt c o).1
 ·by_cases J:n+m<=E
  ·have T:n*b.size+d.length<=I.size:=by rw [l,R,<- Bq];exact A8 _ J
   have f:=run_append_room (P:=P) w t ty te b p hi g n E I O h m c d l r h1 J T;rw [s] at f;cases f;intro c o;exact .inl o
  ·have U:∀ j u,xs[j]?=some u->w.cell? ((⟨g,0,none⟩:Addr).add j)=some u:=i.cells (g:=g) rfl;have a0:n+m<=9223372036854775807:=by simp only [maxLen] at B;omega
   have f:=run_append_grow (P:=P) w t ty te b z p hi A ⟨g,0,none⟩ n E xs i.1 U h m c d l r (by omega) (by omega) (growslice_fits (by omega) C);rw [s] at f;cases f;intro c o;simp only [Value.ownBlock,Option.some.injEq] at o;exact .inr<|by omega
def Ctx.ZW {t:TypeId} {b:TypeInfo} {z:Value} (d:z.cells.toList=(ai Γ.τ t).zero) (f:Az (ai Γ.τ t).zero.length (Γ.cells t)=true) (h:b.size=Γ.cells t):z.cells.size=b.size:=by rw [<- A5,d,Ao f,h]
def oA [P7 Γ] {d z:Nat} {te t2:TypeId} {i es:Nat} {xs ys:List (List D)}
  (V:¬ k z) (ht:Γ.sh t=.slice te) (a1:(Γ.sh te).known=true) (a2:Γ.cells te=es) (a3:Av 0 es=true) (hz:Az (ai Γ.τ te).zero.length (Γ.cells te)=true)
  (J:aj L x=.row i) (hH:Hp.get H i=some (.row te es xs)) (hy:aj L y=.d (.slice es ys)) (hd:Av d Γ.n=true)
  (a4:(xs.length+ys.length)*(ai Γ.τ te).bytes<=140737488355328) (a5:xs.length+ys.length<=maxLen) :
  P6 Γ ⟨some d,.call { callee:=.builtin .append,args:=#[x,y],argTypes:=#[t,t] },t2,pos,af,g⟩ k L H (oa k z) ((d,.row z)::L) ((z,.row te es (xs++ys))::Hp.del H i):=by
 intro e a w Q m;have a9:¬ e.U4 z:=λh=>V<|(m.top z).1 h
 obtain⟨G,zv,A,b0,W,I,b1⟩:=Ctx.info<|Sh.Y1 a1;have Y:=Ctx.slice ht;obtain⟨_,b2,_⟩:=Q5 m J (nz · _);have M:=Q5 m hy (ow · _ _);obtain⟨N,B,b3,b4,b5⟩:=(m.heap _<|Hp.mem_of hH).2;have C:G.size=es:=by rw [W,a2]
 rw [<- C] at B;have b6:∃ f l o,(Builtin.append_ #[t,t] t2 #[e.η i,a.eval y]).run Γ.P w=.ok f l/\l.ownsRow 0 te G.size f (xs.length+ys.length) (N++o)/\w.grownBy l (e.η i).ownBlock/\(∀ c,f.ownBlock=some c->(e.η i).ownBlock=some c∨w.heap.size<=c) /\
   (∀ j (h:j<ys.length),(ys[j]'h).length=es)/\(∀ b7∈o,b7.oneCell'=true)/\∀ r (A:r<ys.length) j (O:j<(ys[r]'A).length),∃ v,o[r*es+j]?=some v/\Q0 (Γ.X e H) w v ((ys[r]'A)[j]'O):=by
  obtain⟨ao,c0,R,_,_,c1⟩:=M.R4;cases ao with
  | none =>
   have c2:=c1 rfl;subst c2;have c3:a.eval y=.slice none 0 0:=by
    have E:=M;rw [R] at E ⊢;cases E;rfl
   rw [c3];have S:=run_append_owned_none (P:=Γ.P) (w:=w) 0 t t2 te G G.size Y A (e.η i) xs.length N B;exact⟨e.η i,w,[],S,by simpa using B,⟨rfl,rfl,rfl,Af _,λ_ _ _=>rfl⟩,λc u=>.inl u,by simp,by simp,by simp⟩
  | some ad =>
   have E:=M;rw [R] at E;obtain⟨hn,T,o,u1,u2,Z,u4⟩:=Qk E;rw [R];obtain⟨f,l,r1,r2,r3,r4⟩:=Tz (P:=Γ.P) (ty:=t2) Y A b0 (Ctx.ZW b1 hz W) (by rw [C];exact Ab a3) B (c:=c0) (by rw [C];exact u1) u2 Z a5 (by rw [I];exact a4);exact⟨f,l,o,r1,r2,r3,r4,T,Z,u4⟩
 obtain⟨f,l,o,S,a0,p,c4,T,c5,c6⟩:=b6;have e1:(execOp a.eval ⟨some d,.call { callee:=.builtin .append,args:=#[x,y],argTypes:=#[t,t] },t2,pos,af,g⟩).run Γ.P w=.ok (.value f) l:=by
  simp only [execOp,resolve,invoke,builtin,Sem.run_bind,Sem.run_pure,Result.andThen_ok,List.map_toArray,A3,List.map_nil,b2,S]
 unfold Oper.wp;rw [e1];have U:(e.Q2 z f).η z=f:=if_pos rfl;have hl:=B.1;have m2:=m.M5 (hb:=.row te es<|xs++ys) hH V (e':=e.Q2 z f) (w':=l) (λi=>or_congr (m.top i) Iff.rfl) (e.N3 _ _ a9) p.size p.os p.tape p.output P7.any
  (λc u e2=>p.block c u<|λh=>e2<|by simp [HB.owned,h]) (λc u=>by simp only [HB.owned,U] at u;exact c4 c u) (λhX=>by
   have e3:∀ b,b<w.heap.size->¬ Γ.X e H b->l.heap[b]?=w.heap[b]?:=λb I J=>p.block b I<|λh=>J (.inr (List.mem_filterMap.2 ⟨_,Hp.mem_of hH,by simp [HB.owned,h]⟩))
   obtain⟨q1,q2⟩:=Xn b3 T (by rw [hl,C]) b5 c6;refine⟨N++o,?_,q1,λv F=>?_,λr e4 j O=>?_⟩
   ·rw [U,List.length_append,<- C];exact a0
   ·rcases List.mem_append.1 F with F|F
    ·exact b4 v F
    ·exact c5 v F
   ·obtain⟨v,p1,p2⟩:=q2 r e4 j O;exact⟨v,p1,Q0.N1 p.size e3 hX p2⟩)
 exact⟨_,m2.put (s:=.row z) (v:=f) (Ab hd) ⟨.inr rfl,U.symm,Ko a0⟩⟩
end
section
variable {Γ : Ctx} {k : Nat} {L : Sl} {H : Hp} {K : cn} {ops : List Oper} {rest : List Oper} {a : Act} {w : World} {e : Env} {t t' ty : TypeId} {x y : Operand}
def zP {Q:ey} {c:Code} {t:Nat} (te:TypeId) (es:Nat) (h:L.get t=.Q1) (n:DW Γ c Q (k+1) ((t,.row k)::L) ((k,.row te es [])::H)):DW Γ c Q k L H:=by
 intro e a w m;have j:(e.Q2 k<|.slice none 0 0).η k=.slice none 0 0:=if_pos rfl;have f:=(m.new (ir k) (hb:=.row te es []) (e':=e.Q2 k<|.slice none 0 0) (w':=w) (λi=>or_congr (m.top i) Iff.rfl) (e.N3 _ _<|λh=>ir k<|(m.top k).1 h) (W4.refl _ _ _)
  (λb l=>by simp [HB.owned,j,Value.ownBlock] at l) (λ_=>⟨[],by rw [j];exact World.ownsRow_nil w 0 te es,by simp,by simp,by simp⟩)).cast<|gv k
 refine n _ a w ⟨f.toHeap,f.defers,f.len,λt'=>?_⟩;rw [Sl.C1];split
 ·rename_i o;subst o;have d:=m.slot t;rw [h] at d;refine⟨?_,?_⟩
  ·exact .inr rfl
  ·have d:a.tmps.getD t undef=.slice none 0 0:=d;exact⟨d.trans j.symm,by rw [d];rfl⟩
 ·exact f.slot t'
end
end
section
open Go Go.RowKit
variable [Y0]
def KK (τ:List (Nat×TI)):Nat->TypeId->List Nat
 | 0,_=>[]
 | n+1,t=>match (ai τ t).sh with
  | .struct l=>l.flatMap λq=>KK τ n q.2.1
  | .slice b=>[(ai τ b).cells]
  | _=>[0]
def YY (es:Nat):SV->Option D
 | .d x=>some x
 | .Q1=>some (.slice es [])
 | _=>none
def dF:List Nat->List SV->Option (List D)
 | _,[]=>some []
 | [],_::_=>none
 | e::b,s::d=>match YY e s,dF b d with
  | some x,some f=>some (x::f)
  | _,_=>none
def rowsOf (b:List Nat) (es:Nat):Nat->List SV->Option (List (List D))
 | 0,_=>some []
 | n+1,d=>match dF b (d.take es),rowsOf b es n (d.drop es) with
  | some x,some f=>some (x::f)
  | _,_=>none
def QU {X e w es} {s:SV} {v:Value} {x:D} (h:YY es s=some x) (b:Rel X e w s v):Q0 X w v x:=by
 cases s with
 | d y=>simp only [YY,Option.some.injEq] at h;subst h;exact b
 | Q1=>simp only [YY,Option.some.injEq] at h;subst h;cases b;exact .nil
 | _=>simp [YY] at h
def cF {X e w}:∀ (es:List Nat) (ss:List SV) (vs:List Value) (xs:List D),dF es ss=some xs->O0 X e w ss vs->xs.length=ss.length/\∀ j (b:j<xs.length),∃ v,vs[j]?=some v/\Q0 X w v (xs[j]'b)
 | _,[],_,xs,h,_=>by simp only [dF,Option.some.injEq] at h;subst h;exact⟨rfl,λj b=>by simp at b⟩
 | [],_::_,_,_,h,_=>by simp [dF] at h
 | _::_,_::_,[],_,_,h=>h.elim
 | i::es,s::ss,v::vs,xs,h,⟨l,m⟩=>by
  simp only [dF] at h
  cases d:YY i s with
  | none=>simp [d] at h
  | some x =>
   cases f:dF es ss with
   | none=>simp [d,f] at h
   | some n =>
    simp only [d,f,Option.some.injEq] at h
    subst h
    obtain⟨o,p⟩:=cF es ss vs n f m
    refine⟨by simp [o],λj b=>?_⟩
    cases j with
    | zero=>exact⟨v,rfl,QU d l⟩
    | succ j=>simpa using p j (by simpa using b)
def Cu {X e w} {f:List Nat} {es:Nat}:∀ (n:Nat) (ss:List SV) (vs:List Value) (xs:List (List D)),ss.length=n*es->rowsOf f es n ss=some xs->O0 X e w ss vs->xs.length=n/\(∀ i (h:i<xs.length),(xs[i]'h).length=es) /\
  ∀ i (h:i<xs.length) j (l:j<(xs[i]'h).length),∃ v,vs[i*es+j]?=some v/\Q0 X w v ((xs[i]'h)[j]'l)
 | 0,_,_,xs,_,h,_=>by simp only [rowsOf,Option.some.injEq] at h;subst h;exact⟨rfl,λi b=>by simp at b,λi b=>by simp at b⟩
 | n+1,ss,vs,xs,r,h,s=>by
  simp only [rowsOf] at h;cases m:dF f (ss.take es) with
  | none=>simp [m] at h
  | some x =>
   cases o:rowsOf f es n (ss.drop es) with
   | none=>simp [m,o] at h
   | some u =>
    simp only [m,o,Option.some.injEq] at h;subst h;have G:es<=ss.length:=by rw [r,Bq];omega
    obtain⟨z,A⟩:=cF f _ _ x m<|O0.take _ _ s es;obtain⟨B,C,E⟩:=Cu n (ss.drop es) (vs.drop es) u (by simp [r,Bq]) o<|O0.drop _ _ s es;have F:x.length=es:=by rw [z,List.length_take];omega
    refine⟨by simp [B],λi b=>?_,λi b j l=>?_⟩
    ·cases i with
     | zero=>exact F
     | succ i=>exact C i<|by simpa using b
    ·cases i with
     | zero =>
      obtain⟨v,d,p⟩:=A j l;rw [Bf] at d;split at d
      ·exact⟨v,by simpa using d,p⟩
      ·cases d
     | succ i =>
      obtain⟨v,d,p⟩:=E i (by simpa using b) j l;refine⟨v,?_,p⟩
      rw [List.getElem?_drop] at d;rw [<- d];congr 1;rw [Bq];omega
def ux (z:List SV) (n:Nat):List SV:=(Eo n).map λi=>z.getD (i%z.length) .V1
section
variable {Γ : Ctx} {k : Nat -> Prop} {L : Sl} {H : Hp} {K : cn} {ops : List Oper} {rest : List Oper} {a : Act} {w : World} {e : Env} {t t' ty : TypeId} {x y : Operand}
def WJ {X e w} {zs:List SV} {vs:Array Value} (h:O0 X e w zs vs.toList) (h1:∀ v∈vs.toList,v.oneCell'=true) (n:Nat) (f:0<vs.size) :
  O0 X e w (ux zs n) ((Ig n).map (vs[· % vs.size]!)).toList/\∀ v∈((Ig n).map (vs[· % vs.size]!)).toList,v.oneCell'=true:=by
 have j:=O0.length _ _ h;simp only [A5] at j;have l:∀ i,vs[i%vs.size]! = vs.toList[i%vs.size]'(by simpa using F2 _ f):=by
  intro i;have:=F2 i f
  simp [this]
 refine⟨O0.mk _ _ (by simp [ux]) λi s v d b=>?_,λv b=>?_⟩
 ·simp only [ux,Bh] at d;simp only [H0,Hj,Bh] at b;cases m:(Eo n)[i]? with
  | none=>simp [m] at d
  | some q =>
   simp only [m,B1,Option.some.injEq] at d b;have p:=F2 q f;rw [<- d,<- b,l,j];obtain⟨u,o,r⟩:=O0.get _ _ h (q%vs.size) (zs[q%vs.size]'(by omega)) (by simp);rw [List.getD_eq_getElem?_getD,Ad<|by omega];rw [Ad<|by simpa using p] at o;cases o;exact r
 ·simp only [H0,Hj,List.mem_map] at b;obtain⟨q,_,rfl⟩:=b;rw [l];exact h1 _<|List.getElem_mem _
def o9 {te es len:Nat} {ps:List (Nat×Operand)} {cs':List SV} (j:Γ.sh t=.slice te) (B:(Γ.sh te).known=true) (l:Γ.cells te=es) (C:Av 0 es=true) (E:gp (ai Γ.τ te).zero=true) (F:Az (ai Γ.τ te).zero.length (Γ.cells te)=true) (G:mr ps=true)
  (I:Cj (len*es) 16777216=true) (n:qm (λi=>some (i*es,es)) (ux (o6 Γ.τ te) (len*es)) (mq L ps)=some cs') (m:J0 Γ k L H e a w) :
  ∃ b:Array Value,O0 (Γ.X e H) e w cs' b.toList/\(∀ v∈b.toList,v.oneCell'=true) /\
   ∀ (dst:Option Tmp) pos o guard,(execOp a.eval ⟨dst,.buildSlice t len ps.toArray,ty,pos,o,guard⟩).run Γ.P w=.ok (.value (.slice (some ⟨w.heap.size,0,none⟩) len len)) (w.alloc (.cells b te)):=by
 obtain⟨J,z,d,M,N,Y,f⟩:=Ctx.info<|Sh.Y1 B;obtain⟨r,s⟩:=ij (X:=Γ.X e H) (e:=e) (w:=w) _ E;rw [<- f] at r s;have O:z.cells.size=es:=by rw [<- A5,f,Ao F,l]
 have R:=Ab C;have S:o6 Γ.τ te=z.cells.toList.map S6:=by rw [o6,f]
 rw [S] at n;obtain⟨T,U⟩:=WJ r s (len*es) (by rw [O];exact R);obtain⟨b,f1,f2,f3⟩:=Sx _ _ _ _ cs' (N9 m ps G) T U n;refine⟨b,f2,f3,λdst pos o guard=>?_⟩
 have Z:=Ab I;have u:J.size=es:=by rw [N,l]
 simp only [execOp,Instr.buildSlice];have V:¬ (16777216<len*es):=by omega
 by_cases A:len*es=0
 ·have:len=0:=by rcases Nat.mul_eq_zero.1 A with h|h;exact h;omega
  subst this;have e0:(Ig 0:Array Nat) = #[]:=rfl;have W:Instr.fill (λi=>some (i*es,es)) #[] (Iw (λx=>(x.1,a.eval x.2)) ps)=some b:=by
   rw [<- f1];simp [e0]
  simp [run_underlying (Ctx.slice j),c9 d,u,e0,W,newRow]
 ·simp [run_underlying (Ctx.slice j),c9 d,u,V,A,zeroValue,typeInfo,d,M];rw [show (Iw (λx=>(x.1,a.eval x.2)) ps)=ps.map λp=>(p.1,a.eval p.2) from rfl,f1];simp [newRow]
def Nv {d te es len:Nat} {s:Sl} {h:Hp} (C:∀ e a w,J0 Γ k L H e a w->J0 Γ k s h e a w/\J0 Γ k L h e a w) {ps:List (Nat×Operand)} {cs':List SV} {xs:List (List D)} (E:Γ.sh t=.slice te) (F:(Γ.sh te).known=true) (G:Γ.cells te=es) (u:Av 0 es=true) (I:gp (ai Γ.τ te).zero=true) (J:Az (ai Γ.τ te).zero.length (Γ.cells te)=true) (M:mr ps=true)
  (v:Cj (len*es) 16777216=true) (N:qm (λi=>some (i*es,es)) (ux (o6 Γ.τ te) (len*es)) (mq s ps)=some cs') (O:Az cs'.length (len*es)=true) (P:rowsOf (KK Γ.τ 4 te) es len cs'=some xs) (R:Av d Γ.n=true) :
  P6 Γ ⟨some d,.buildSlice t len ps.toArray,ty,pos,af,g⟩ k L H k ((d,.d (.slice es xs))::L) h:=by
 intro e a w Q S;obtain⟨m,T⟩:=C e a w S;obtain⟨b,f2,f3,U⟩:=o9 (ty:=ty) E F G u I J M v N m;unfold Oper.wp;rw [U];have r:=eh Γ.dr w<|.cells b te;obtain⟨z,V,A⟩:=Cu len cs' _ xs (Ao O) P f2;have W:xs.length<=maxLen:=by
  have h1:=Ab v;have Y:=Ab u;have:len<=len*es:=Nat.le_mul_of_pos_right _ Y
  unfold maxLen;omega
 have Z:Rel (Γ.X e h) e (w.alloc<|.cells b te) (.d<|.slice es xs) (.slice (some ⟨w.heap.size,0,none⟩) len len):=by
  refine .slice (λi j=>b.toList.getD (i*es+j) undef) z.symm (Af _) (by rw [<- z];exact W) (λf=>?_) (by simp) V (λi l j o=>?_) (λi l j o=>?_)<|λ_ i l j o=>ky<|heap_alloc_new w _
  ·rcases f with f|f
   ·have:=(m.T1 _ f).1;have:=m.size;omega
   ·have:=m.lt _ f;omega
  ·obtain⟨a0,p,B⟩:=A i l j o;rw [cell_of_row (w.alloc<|.cells b te) w.heap.size _ b te (0,0)<|heap_alloc_new w _];rw [Bt] at p;simp [A4,p]
  ·obtain⟨a0,p,B⟩:=A i l j o;simp only [A4,p,Cm];exact Q0.N1 r.size (λa1 a2 _=>r.block a1 a2) (λ_ _ a3=>a3) B
 exact⟨e,(T.below r).put (Ab R) Z⟩
end
section
variable {Γ : Ctx} {k : Nat} {L : Sl} {H : Hp} {K : cn} {ops : List Oper} {rest : List Oper} {a : Act} {w : World} {e : Env} {t t' ty : TypeId} {x y : Operand}
end
end
section
open Go Go.RowKit
variable [Y0]
section
variable {Γ : Ctx} {k : Nat -> Prop} {L : Sl} {H : Hp} {K : cn} {Q : ey} {ops : List Oper} {rest : List Oper} {a : Act} {w : World} {e : Env} {t t' ty : TypeId} {x y : Operand}
def J0.del (m:J0 Γ k L H e a w) (i:Nat):J0 Γ k L (Hp.del H i) e a w/\∀ b,Γ.X e (Hp.del H i) b->Γ.X e H b:=by
 have f:=Hp.N6 (i:=i) H m.ids;have n:∀ b,b∈ah e (Hp.del H i)->b∈ah e H:=by
  intro b j;obtain⟨p,d,o⟩:=List.mem_filterMap.1 j;exact List.mem_filterMap.2 ⟨p,(f p d).1,o⟩
 have l:∀ b,Γ.X e (Hp.del H i) b->Γ.X e H b:=λb r=>r.imp id<|n b
 refine⟨⟨⟨m.top,λp d=>⟨(m.heap p (f p d).1).1,I4.N1 (Af _) (λ_ _ _=>rfl) (λb _ h=>l b h) p (λ_ _=>rfl) (m.heap p (f p d).1).2⟩,Hp.Uc H m.ids,
  jd _ H m.nodup _ (pg<|Hp.Uc H m.ids) λp d=>(f p d).1,λb j=>m.M3 b (n b j),m.os,m.tape,m.output,m.drawn,m.size,m.block,m.T1,m.S4,m.L8,m.anchor⟩,m.defers,m.len,λt=>?_⟩,l⟩
 exact Rel.N1 (Af _) (λ_ _ _=>rfl) (λb _ h=>l b h) _ _<|m.slot t
def qz (m:J0 Γ k L H e a w) {i es:Nat} {te:TypeId} {xs:List (List D)} (hH:Hp.get H i=some (.row te es xs)):Q0 (Γ.X e (Hp.del H i)) w (e.η i) (.slice es xs):=by
 have r:=Hp.mem_of hH;obtain⟨G,I,J,U,u⟩:=(m.heap _ r).2;obtain⟨V,M⟩:=m.del i;have z:=Hp.N6 (i:=i) H m.ids;rcases I.2 with ⟨N,O⟩|⟨g,W,A,B,_,s,P,R,Y,S⟩
 ·have:xs=[]:=List.eq_nil_of_length_eq_zero O
  subst this;rw [N];exact .nil
 ·rw [B];have C:HB.owned e (i,.row te es xs)=some g:=by simp [HB.owned,B,Value.ownBlock]
  refine .slice (λd j=>G.getD (d*es+j) undef) rfl P R (λf=>?_) (Array.getElem?_eq_some_iff.1 s).1 J (λd l j n=>?_) (λd l j n=>?_)<|λ_ d l j n=>ky s
  ·rcases f with f|f
   ·exact (m.M3 g<|List.mem_filterMap.2 ⟨_,r,C⟩).2 f
   ·obtain⟨p,E,T⟩:=List.mem_filterMap.1 f;exact m.O5 (z p E).1 r (z p E).2 T C
  ·obtain⟨v,o,F⟩:=u d l j n;rw [cell_of_row w g _ A te (0,0) s];have:(A.toList.take<|xs.length*es)[d*es+j]?=some v:=by rw [S];exact o
   rw [Bf] at this;split at this
   ·rw [Bt] at this;rw [Nat.zero_add,this,A4,o];rfl
   ·cases this
  ·obtain⟨v,o,F⟩:=u d l j n;simp only [A4,o,Cm];exact Q0.N1 (Af _) (λ_ _ _=>rfl) (λb _ h=>M b h) F
end
section
variable {Γ : Ctx} {k : Nat} {L : Sl} {H : Hp} {K : cn} {Q : ey} {ops : List Oper} {rest : List Oper} {a : Act} {w : World} {e : Env} {t t' ty : TypeId} {x y : Operand}
def zW {c:Code} {i es:Nat} {te:TypeId} {xs:List (List D)} (t:Nat) (h:L.get t=.row i) (hH:Hp.get H i=some (.row te es xs)) (j:DW Γ c Q k ((t,.d (.slice es xs))::L) (Hp.del H i)):DW Γ c Q k L H:=by
 intro e a w m;obtain⟨b,_⟩:=m.del i;refine j e a w ⟨b.toHeap,b.defers,b.len,λt'=>?_⟩;rw [Sl.C1];split
 ·rename_i l;subst l;have f:=m.slot t;rw [h] at f;rw [f.2.1];exact qz m hH
 ·exact b.slot t'
def Sr {c:Code} (t es:Nat) (f:L.get t=.Q1) (h:DW Γ c Q k ((t,.d (.slice es []))::L) H):DW Γ c Q k L H:=by
 intro e a w m;refine h e a w ⟨m.toHeap,m.defers,m.len,λt'=>?_⟩;rw [Sl.C1];split
 ·rename_i i;subst i;have b:=m.slot t;rw [f] at b;rw [b];exact .nil
 ·exact m.slot t'
end
section
variable {Γ : Ctx} {k : Nat -> Prop} {L : Sl} {H : Hp} {K : cn} {Q : ey} {ops : List Oper} {rest : List Oper} {a : Act} {w : World} {e : Env} {t t' ty : TypeId} {x y : Operand}
def qj (a:Nat):(a:Int)+1=((a+1:Nat):Int):=rfl
def ez (a:Nat):(a:Int)+2=((a+2:Nat):Int):=rfl
def qh:(0:Int)=((0:Nat):Int):=rfl
def uK {n:Int} {f:TypeId} (j:Γ.sh t=.int .u8) (l:Γ.sh f=.int .i64) (p:aj L x=.d (.int .u8 n)) (hb:0<=n/\n<=255):Ev Γ k L H (.convert t f x) ty (.d (.int .i64 n)):=by
 intro e a w m;have b:Γ.P.underlying t=some (.int .u8):=by
  obtain⟨u,r,z,b,_,_,i,_⟩:=jf (Γ.ti<|by rw [j];intro h;cases h);rw [b];have:o7 Γ.P u=.int .u8:=i▸j
  cases u<;>simp [o7] at this ⊢
  exact this
 have s:Γ.P.underlying f=some (.int .i64):=by
  obtain⟨u,r,z,b,_,_,i,_⟩:=jf (Γ.ti<|by rw [l];intro h;cases h);rw [b];have:o7 Γ.P u=.int .i64:=i▸l
  cases u<;>simp [o7] at this ⊢
  exact this
 have o:-9223372036854775808<=n/\n<=9223372036854775807:=by omega
 refine⟨.int .i64 n,λ_ _ _ _ v _=>?_,.int<|WalkArith.wf_i64 o⟩
 simp [execOp,Go.convert,R8 m p,run_underlying b,run_underlying s,Conv.intToInt,IntWalk.i64_in n o]
end
section
variable {Γ : Ctx} {k : Nat} {L : Sl} {H : Hp} {K : cn} {Q : ey} {ops : List Oper} {rest : List Oper} {a : Act} {w : World} {e : Env} {t t' ty : TypeId} {x y : Operand}
end
end
end Go.Proofs.YtapciiffpnociabGreat
