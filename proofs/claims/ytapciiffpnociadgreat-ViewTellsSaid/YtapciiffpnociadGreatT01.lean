/- Several texts in one: Gx WirP RelP RelO LstP DagP. Condition: none. -/
import Derived.WalkKit
import Derived.Deep.Quiet
import Derived.Sort.LoopGhostIn
import Derived.OrdersIn
import Derived.TacticsIn
import Derived.RangeFuncRecord
import Derived.Sort.Statements
import Derived.Shelf.SlSortCmp.Insertion
open Bool renaming and_eq_true→Ae,false_ne_true→C5,not_eq_true'→Eu
open List renaming any_eq_false→Hf,drop_eq_getElem_cons→Am,drop_of_length_le→As,filterMap_cons→Bn,filter_append→Du,filter_cons_of_neg→Es,filter_cons_of_pos→D9,findIdx?_eq_none_iff→Fv,findIdx?_eq_some_iff_getElem→Et,getElem?_eq_getElem→Ad,getElem_mem→Aj,length_append→Af,length_cons→Bj,mem_cons→Bh,mem_cons_of_mem→Ag,mem_cons_self→Ac,pairwise_singleton→Dc,set_append_right→Gn,set_cons_zero→G4,take_succ_eq_append_getElem→An,toArray→Gg
open Nat renaming beq→Aw,blt→Av,eq_of_beq_eq_true→Ao,le_of_ble_eq_true→Ab,le_refl→Ah,le_trans→A5,lt_of_lt_of_le→A0,ne_of_beq_eq_false→B0
namespace Go.Proofs.YtapciiffpnociadGreat
open Go Go.RowKit
inductive D where
 | int (k:IntKind) (n:Int)
 | bool (b:Bool)
 | str (s:ByteArray)
 | slice (es:Nat) (xs:List (List D))
 | ptr (ds:List D)
inductive RepC (X:Nat->Prop) (w:World):Value->D->Prop
 | int {k n} (h:(Lit.int k n).wf=true):RepC X w (.int k n) (.int k n)
 | bool {b}:RepC X w (.bool b) (.bool b)
 | str {s} (h:s.size<=maxLen):RepC X w (.string s) (.str s)
 | nil {es}:RepC X w (.slice none 0 0) (.slice es [])
 | zero {es a}:RepC X w (.slice (some a) 0 0) (.slice es [])
 | slice {b off n cap es:Nat} {xs:List (List D)} (c:Nat->Nat->Value) (hn:n=xs.length) (hc:n<=cap) (hm:cap<=maxLen) (hX:¬ X b) (hb:b<w.heap.size)
   (he:∀ i (h:i<xs.length),(xs[i]'h).length=es)
   (hcell:∀ i (h:i<xs.length) j (_:j<(xs[i]'h).length),w.cell? ⟨b,off+i*es+j,none⟩=some (c i j))
   (hrep:∀ i (h:i<xs.length) j (hj:j<(xs[i]'h).length),RepC X w (c i j) ((xs[i]'h)[j]'hj)) :
   RepC X w (.slice (some ⟨b,off,none⟩) n cap) (.slice es xs)
 | ptr {b off:Nat} {ds:List D} (c:Nat->Value) (hX:¬ X b) (hb:b<w.heap.size) (hcell:∀ j (_:j<ds.length),w.cell? ⟨b,off+j,none⟩=some (c j)) (hrep:∀ j (hj:j<ds.length),RepC X w (c j) (ds[j]'hj)) :
   RepC X w (.pointer (some ⟨b,off,none⟩)) (.ptr ds)
theorem RepC.keep {X Y:Nat->Prop} {w w':World} (hs:w.heap.size<=w'.heap.size) (hb:∀ b,b<w.heap.size->¬ X b->w'.heap[b]?=w.heap[b]?) (hY:∀ b,b<w.heap.size->Y b->X b)
  {v:Value} {x:D} (h:RepC X w v x):RepC Y w' v x:=by
 induction h with
 | int h=>exact .int h
 | bool=>exact .bool
 | str h=>exact .str h
 | nil=>exact .nil
 | zero=>exact .zero
 | slice c hn hc hm hX hb' he hcell hrep ih =>
  exact .slice c hn hc hm (λhy=>hX (hY _ hb' hy)) (A0 hb' hs) he
   (λi h j hj=>(World.cell?_of_block (w:=w) (hb _ hb' hX)).trans (hcell i h j hj)) ih
 | ptr c hX hb' hcell hrep ih =>
  exact .ptr c (λhy=>hX (hY _ hb' hy)) (A0 hb' hs) (λj hj=>(World.cell?_of_block (w:=w) (hb _ hb' hX)).trans (hcell j hj)) ih
inductive MK where
 | str (s:ByteArray)
 | pair (a b:Int)
def MK.val:MK->Value
 | .str s=>.string s
 | .pair a b=>.agg #[.int .i64 a,.int .i64 b]
def MK.ok (kd:Bool):MK->Prop
 | .str s=>kd=true/\s.size<=maxLen
 | .pair a b=>kd=false/\(Lit.int .i64 a).wf=true/\(Lit.int .i64 b).wf=true
def va (es:Array MapEntry) (clock:Nat):Prop:=es.toList.Pairwise (λx y=>x.born≠y.born)/\∀ x∈es.toList,x.born<clock
structure MapIs (w:World) (b:Nat) (kd:Bool) (kvs:List (MK×Int)):Prop where
 es:∃ (es:Array MapEntry) (clock:Nat),w.heap[b]?=some (.map es clock)/\es.toList.map (λx=>(x.key,x.val))=kvs.map (λp=>(p.1.val,Value.int .i64 p.2))/\va es clock
 keys:kvs.Pairwise λp q=>p.1≠q.1
 wf:∀ p∈kvs,p.1.ok kd/\(Lit.int .i64 p.2).wf=true
theorem MapIs.keep {w w':World} {b:Nat} {kd:Bool} {kvs:List (MK×Int)} (h:MapIs w b kd kvs) (hb:∀ es clock,w.heap[b]?=some (.map es clock)->w'.heap[b]?=some (.map es clock)):MapIs w' b kd kvs :=
 let ⟨es,clock,h1,h2⟩:=h.es
 ⟨⟨es,clock,hb _ _ h1,h2⟩,h.keys,h.wf⟩
inductive SV where
 | junk
 | d (x:D)
 | nils
 | pd (ds:List D)
 | loc (id off:Nat)
 | row (id:Nat)
 | mp (id:Nat)
 | md (kd:Bool) (kvs:List (MK×Int))
 | prow (id k es off:Nat)
 | sl (id off n cap:Nat)
 | rsl (id es k n:Nat)
 | fn (f:FuncId) (caps:List SV)
 | agg (ss:List SV)
 | tup (ss:List SV)
 | val (v:Value)
inductive HB where
 | blk (ty:TypeId) (cs:List SV)
 | row (ty:TypeId) (es:Nat) (xs:List (List D))
 | map (kd:Bool) (kvs:List (MK×Int))
abbrev Sl:=List (Nat×SV)
abbrev Hp:=List (Nat×HB)
structure Env where
 β:Nat->Nat
 η:Nat->Value
 dom:Nat->Prop
def Env.an (e:Env) (j:Nat):Nat×Value:=(e.β j,e.η j)
theorem Env.an_ext {e e':Env} {j:Nat} (h:e'.β j=e.β j/\e'.η j=e.η j):e'.an j=e.an j:=Prod.ext h.1 h.2
theorem Env.an_β {e e':Env} {j:Nat} (h:e'.an j=e.an j):e'.β j=e.β j:=congrArg Prod.fst h
theorem Env.an_η {e e':Env} {j:Nat} (h:e'.an j=e.an j):e'.η j=e.η j:=congrArg Prod.snd h
abbrev lo (k:Nat):Nat->Prop:=λi=>i<k
instance:Coe Nat (Nat->Prop):=⟨lo⟩
mutual
def Rel (X:Nat->Prop) (e:Env) (w:World):SV->Value->Prop
 | .junk,_=>True
 | .d x,v=>RepC X w v x
 | .nils,v=>v = .slice none 0 0
 | .pd ds,v=>∃ b off,v = .pointer (some ⟨b,off,none⟩)/\b<w.heap.size/\¬ X b/\∀ j (h:j<ds.length),∃ u,w.cell? ⟨b,off+j,none⟩=some u/\RepC X w u ds[j]
 | .loc id off,v=>e.dom id/\v = .pointer (some ⟨e.β id,off,none⟩)
 | .row id,v=>e.dom id/\v=e.η id/\v.oneCell'=true
 | .mp id,v=>e.dom id/\v = .map (some (e.β id))
 | .md kd kvs,v=>∃ b,v = .map (some b)/\b<w.heap.size/\¬ X b/\MapIs w b kd kvs
 | .prow id k es off,v=>e.dom id/\∃ g n cap,e.η id = .slice (some ⟨g,0,none⟩) n cap/\v = .pointer (some ⟨g,k*es+off,none⟩)
 | .sl id off n cap,v=>e.dom id/\n<=cap/\cap<=maxLen/\∃ o,v = .slice (some ⟨e.β id,o,none⟩) n cap/\(0<cap->o=off)
 | .rsl id es k n,v=>e.dom id/\v.oneCell'=true/\((e.η id = .slice none 0 0/\v = .slice none 0 0/\k=0/\n=0)∨∃ g n0 cap o,e.η id = .slice (some ⟨g,0,none⟩) n0 cap/\k<=cap/\cap<=maxLen/\n<=cap-k/\v = .slice (some ⟨g,o,none⟩) n (cap-k)/\(k<cap∨k=0->o=k*es))
 | .fn f caps,v=>∃ vs,v = .func (.func f) #[] (Gg vs)/\RelL X e w caps vs
 | .agg ss,v=>∃ vs,v = .agg (Gg vs)/\RelL X e w ss vs
 | .tup ss,v=>∃ vs,v = .tuple (Gg vs)/\RelL X e w ss vs
 | .val u,v=>v=u
def RelL (X:Nat->Prop) (e:Env) (w:World):List SV->List Value->Prop
 | [],[]=>True
 | s::ss,v::vs=>Rel X e w s v/\RelL X e w ss vs
 | _,_=>False
end
mutual
theorem Rel.keep {X Y:Nat->Prop} {e:Env} {w w':World} (hs:w.heap.size<=w'.heap.size) (hb:∀ b,b<w.heap.size->¬ X b->w'.heap[b]?=w.heap[b]?) (hY:∀ b,b<w.heap.size->Y b->X b) :
  ∀ (s:SV) (v:Value),Rel X e w s v->Rel Y e w' s v
 | .junk,_,_=>trivial
 | .d _,_,h=>RepC.keep hs hb hY h
 | .nils,_,h=>h
 | .pd _,_,⟨b,off,h1,h2,h3,h4⟩=>⟨b,off,h1,A0 h2 hs,λhy=>h3 (hY _ h2 hy),λj hj =>
   let ⟨u,g1,g2⟩:=h4 j hj
   ⟨u,(World.cell?_of_block (w:=w) (hb _ h2 h3)).trans g1,RepC.keep hs hb hY g2⟩⟩
 | .loc _ _,_,h=>h
 | .row _,_,h=>h
 | .mp _,_,h=>h
 | .md _ _,_,⟨b,h1,h2,h3,h4⟩=>⟨b,h1,A0 h2 hs,λhy=>h3 (hY _ h2 hy),h4.keep λ_ _ hh=>(hb _ h2 h3).trans hh⟩
 | .prow _ _ _ _,_,h=>h
 | .sl _ _ _ _,_,h=>h
 | .rsl _ _ _ _,_,h=>h
 | .fn _ caps,_,⟨vs,h1,h2⟩=>⟨vs,h1,RelL.keep hs hb hY caps vs h2⟩
 | .agg ss,_,⟨vs,h1,h2⟩=>⟨vs,h1,RelL.keep hs hb hY ss vs h2⟩
 | .tup ss,_,⟨vs,h1,h2⟩=>⟨vs,h1,RelL.keep hs hb hY ss vs h2⟩
 | .val _,_,h=>h
theorem RelL.keep {X Y:Nat->Prop} {e:Env} {w w':World} (hs:w.heap.size<=w'.heap.size) (hb:∀ b,b<w.heap.size->¬ X b->w'.heap[b]?=w.heap[b]?) (hY:∀ b,b<w.heap.size->Y b->X b) :
  ∀ (ss:List SV) (vs:List Value),RelL X e w ss vs->RelL Y e w' ss vs
 | [],[],_=>trivial
 | [],_::_,h=>h.elim
 | _::_,[],h=>h.elim
 | s::ss,v::vs,⟨h1,h2⟩=>⟨Rel.keep hs hb hY s v h1,RelL.keep hs hb hY ss vs h2⟩
end
theorem RelL.length {X e w}:∀ (ss:List SV) (vs:List Value),RelL X e w ss vs->ss.length=vs.length
 | [],[],_=>rfl
 | [],_::_,h=>h.elim
 | _::_,[],h=>h.elim
 | _::ss,_::vs,⟨_,h⟩=>by simp [RelL.length ss vs h]
theorem RelL.get {X e w}:∀ (ss:List SV) (vs:List Value),RelL X e w ss vs->∀ (i:Nat) (s:SV),ss[i]?=some s->∃ v,vs[i]?=some v/\Rel X e w s v
 | [],[],_,_,_,h=>by simp at h
 | [],_::_,h,_,_,_=>h.elim
 | _::_,[],h,_,_,_=>h.elim
 | s::ss,v::vs,⟨h1,h2⟩,i,s',hi=>by
  cases i with
  | zero=>simp at hi;subst hi;exact⟨v,by simp,h1⟩
  | succ i=>simpa using RelL.get ss vs h2 i s' (by simpa using hi)
theorem RelL.mk {X e w}:∀ (ss:List SV) (vs:List Value),ss.length=vs.length->(∀ (i:Nat) (s:SV) (v:Value),ss[i]?=some s->vs[i]?=some v->Rel X e w s v)->RelL X e w ss vs
 | [],[],_,_=>trivial
 | [],_::_,h,_=>by simp at h
 | _::_,[],h,_=>by simp at h
 | s::ss,v::vs,h,hr=>⟨hr 0 s v (by simp) (by simp),RelL.mk ss vs (by simpa using h) λi s' v' h1 h2=>hr (i+1) s' v' (by simpa using h1) (by simpa using h2)⟩
theorem RelL.set {X e w}:∀ (ss:List SV) (vs:List Value),RelL X e w ss vs->∀ (i:Nat) (s:SV) (v:Value),Rel X e w s v->RelL X e w (ss.set i s) (vs.set i v)
 | [],[],_,_,_,_,_=>trivial
 | [],_::_,h,_,_,_,_=>h.elim
 | _::_,[],h,_,_,_,_=>h.elim
 | s::ss,v::vs,⟨h1,h2⟩,i,s',v',hr=>by
  cases i with
  | zero=>exact⟨hr,h2⟩
  | succ i=>exact⟨h1,RelL.set ss vs h2 i s' v' hr⟩
def HB.owned (e:Env):Nat×HB->Option Nat
 | (id,.blk _ _)=>some (e.β id)
 | (id,.row _ _ _)=>(e.η id).ownBlock
 | (id,.map _ _)=>some (e.β id)
def ah (e:Env) (H:Hp):List Nat:=H.filterMap (HB.owned e)
def HRel (X:Nat->Prop) (e:Env) (w:World):Nat×HB->Prop
 | (id,.blk ty cs)=>∃ vs,w.heap[e.β id]?=some (.cells (Gg vs) ty (0,0))/\RelL X e w cs vs/\∀ v∈vs,v.oneCell'=true
 | (id,.row ty es xs)=>∃ vs,w.ownsRow 0 ty es (e.η id) xs.length vs/\(∀ i (h:i<xs.length),(xs[i]'h).length=es)/\(∀ v∈vs,v.oneCell'=true) /\
   ∀ i (h:i<xs.length) j (hj:j<(xs[i]'h).length),∃ v,vs[i*es+j]?=some v/\RepC X w v ((xs[i]'h)[j]'hj)
 | (id,.map kd kvs)=>MapIs w (e.β id) kd kvs
inductive Sh where
 | int (k:IntKind)
 | bool
 | str
 | slice (e:TypeId)
 | struct (fs:List (Nat×TypeId×Nat))
 | ptr (e:TypeId)
 | map (k e:TypeId)
 | other
structure TI where
 sh:Sh
 cells:Nat
 bytes:Nat
 zero:List Value
 eqs:Bool
def m5 (P:Program):TypeDesc->Sh
 | .int k=>.int k
 | .bool=>.bool
 | .string=>.str
 | .slice e=>.slice e
 | .struct fs=>.struct (fs.toList.map λf=>(f.offset,f.type,((P.info? f.type).map (·.size)).getD 0))
 | .pointer e=>.ptr e
 | .map k e=>.map k e
 | _=>.other
def flatEqB (P:Program) (t:TypeId):Bool:=match P.underlying t with
 | some (.struct fs) => !P.stoodInHeld t && (!P.eqGuardType P.depth t && fs.toList.all λf => f.name != "_")
 | _=>false
def tiOf (P:Program) (t:TypeId):Option TI :=
 match P.underlying t,P.info? t with
 | some u,some i=>match i.zero with
  | some z=>some ⟨m5 P u,i.size,i.bytes,z.cells.toList,flatEqB P t⟩
  | none=>none
 | _,_=>none
def aj:List (Nat×TI)->Nat->TI
 | [],_=>⟨.other,0,0,[],false⟩
 | (d,s)::L,t=>match Aw d t with|true=>s|false=>aj L t
def dz (P:Program) (τ:List (Nat×TI)):Prop:=τ.map (λp=>tiOf P p.1)=τ.map (λp=>some p.2)
theorem tiGet_ok {P:Program}:∀ {τ:List (Nat×TI)},dz P τ->∀ t,(aj τ t).sh≠.other->tiOf P t=some (aj τ t)
 | [],_,_,hn=>absurd rfl hn
 | (d,s)::L,h,t,hn=>by
  simp only [dz,List.map_cons,List.cons.injEq] at h
  simp only [aj] at hn ⊢
  cases hb:Aw d t with
  | true=>have:=Ao hb;subst this;exact h.1
  | false=>rw [hb] at hn;exact tiGet_ok (τ:=L) h.2 t hn
structure Pan where
 may:Value->Sl->Hp->Prop
 base:List Deferred
structure Ctx where
 P:Program
 τ:List (Nat×TI)
 τok:dz P τ
 O:Nat->Prop
 w0:World
 E0:Nat->Prop
 n:Nat
 J:Nat
 β0:Nat->Nat×Value
 rd:Option Nat
 pan:Pan
 mks:Bool
 dr:Bool
structure Beld (dr:Bool) (B:Nat) (w w':World):Prop extends Below B w w' where
 drawn:dr=true->w.drawn<=w'.drawn
theorem Beld.refl (dr:Bool) (B:Nat) (w:World):Beld dr B w w:=⟨Below.refl B w,λ_=>Ah _⟩
theorem Beld.trans {dr:Bool} {B:Nat} {a b c:World} (h:Beld dr B a b) (k:Beld dr B b c):Beld dr B a c:=⟨h.toBelow.trans k.toBelow,λhd=>A5 (h.drawn hd) (k.drawn hd)⟩
theorem Beld.mono {dr:Bool} {B B':Nat} {w w':World} (h:Beld dr B w w') (hB:B'<=B):Beld dr B' w w':=⟨h.toBelow.mono hB,h.drawn⟩
theorem Beld.drew {dr:Bool} {B:Nat} {a w:World} (h:Beld dr B a w):Beld dr B a w.drew:=⟨h.toBelow.drew,λhd=>A5 (h.drawn hd) (Nat.le_succ _)⟩
abbrev dl:Pan:=⟨λ_ _ _=>False,[]⟩
class NoDr (Γ:Ctx):Prop where
 no:Γ.dr=false
instance {P τ τok O w0 E0 n J β0 rd pan mks}:NoDr ⟨P,τ,τok,O,w0,E0,n,J,β0,rd,pan,mks,false⟩:=⟨rfl⟩
theorem Beld.no {Γ:Ctx} [h:NoDr Γ] {B:Nat} {w w':World} (hb:Below B w w'):Beld Γ.dr B w w':=⟨hb,λhd=>by rw [h.no] at hd;cases hd⟩
theorem NoDr.any {Γ:Ctx} [h:NoDr Γ] {p:Prop} (hd:Γ.dr=true):p:=by rw [h.no] at hd;cases hd
def mark (r:Nat):Deferred:={ target:=.collected r,args:=#[] }
def Marks (n:Nat) (ro:Bool) (bs:List Deferred) (ds:List Deferred) (w:World):Prop:=∃ rs:List Nat,ds=rs.map mark++bs/\(ro=false->rs=[])/\rs.Nodup/\∀ r∈rs,n<=r/\w.heap[r]?=some (.deferred (some []))
theorem Marks.nil {n:Nat} {ro:Bool} {bs:List Deferred} {w:World}:Marks n ro bs bs w:=⟨[],rfl,λ_=>rfl,.nil,λ_ h=>nomatch h⟩
theorem Marks.keep {n:Nat} {ro:Bool} {bs ds:List Deferred} {w w':World} (h:Marks n ro bs ds w) (hk:∀ r:Nat,w.heap[r]?=some (Obj.deferred (some []))->w'.heap[r]?=w.heap[r]?):Marks n ro bs ds w' :=
 let ⟨rs,h1,h0,h2,h3⟩:=h
 ⟨rs,h1,h0,h2,λr hr=>⟨(h3 r hr).1,(hk r (h3 r hr).2).trans (h3 r hr).2⟩⟩
theorem dn {w:World} {r:Nat} {o:Obj} (h:w.heap[r]?=some o):r<w.heap.size:=(Array.getElem?_eq_some_iff.1 h).1
theorem Marks.below {n:Nat} {ro:Bool} {bs ds:List Deferred} {w w':World} (h:Marks n ro bs ds w) (hb:Below w.heap.size w w'):Marks n ro bs ds w' :=
 h.keep λr hr=>hb.block r (dn hr)
def Ctx.X (Γ:Ctx) (e:Env) (H:Hp):Nat->Prop:=λb=>Γ.O b∨b∈ah e H
def Sl.get:Sl->Nat->SV
 | [],_=>.junk
 | (d,s)::L,t=>match Aw d t with|true=>s|false=>Sl.get L t
structure Heap (Γ:Ctx) (k:Nat->Prop) (H:Hp) (e:Env) (w:World):Prop where
 top:∀ i,e.dom i↔k i
 heap:∀ p∈H,e.dom p.1/\HRel (Γ.X e H) e w p
 ids:(H.map (·.1)).Nodup
 nodup:(ah e H).Nodup
 mine:∀ b∈ah e H,(Γ.E0 b∨Γ.w0.heap.size<=b)/\¬ Γ.O b
 os:w.os=Γ.w0.os
 tape:w.tape=Γ.w0.tape
 output:w.output=Γ.w0.output
 drawn:Γ.dr=true->Γ.w0.drawn<=w.drawn
 size:Γ.w0.heap.size<=w.heap.size
 block:∀ b,b<Γ.w0.heap.size->¬ Γ.E0 b->w.heap[b]?=Γ.w0.heap[b]?
 obound:∀ b,Γ.O b->b<Γ.w0.heap.size/\¬ Γ.E0 b
 jle:∀ j,j<Γ.J->k j
 anchor:∀ j,j<Γ.J->e.an j=Γ.β0 j
structure Models (Γ:Ctx) (k:Nat->Prop) (L:Sl) (H:Hp) (e:Env) (a:Act) (w:World):Prop extends Heap Γ k H e w where
 defers:Marks Γ.w0.heap.size Γ.mks Γ.pan.base a.defers w
 len:a.tmps.size=Γ.n
 slot:∀ t,Rel (Γ.X e H) e w (L.get t) (a.tmps.getD t undef)
theorem Heap.lt {Γ:Ctx} {k:Nat->Prop} {H:Hp} {e:Env} {w:World} (h:Heap Γ k H e w):∀ b∈ah e H,b<w.heap.size:=by
 intro b hb;obtain⟨p,hp,hb⟩:=List.mem_filterMap.1 hb;have hr:=(h.heap p hp).2;obtain⟨id,hbk⟩:=p;cases hbk with
 | blk ty cs =>
  obtain⟨vs,h1,_⟩:=hr;simp [HB.owned] at hb;subst hb;exact (Array.getElem?_eq_some_iff.1 h1).1
 | row ty es xs =>
  obtain⟨vs,h1,_⟩:=hr;exact (h1.lt b hb).2
 | map kd kvs =>
  obtain⟨⟨es,clock,h1,_⟩,_,_⟩:=hr;simp [HB.owned] at hb;subst hb;exact (Array.getElem?_eq_some_iff.1 h1).1
def plainObj:Obj->Bool
 | .cells _ _ _=>true
 | .map _ _=>true
 | _=>false
theorem Heap.owned_cells {Γ:Ctx} {k:Nat->Prop} {H:Hp} {e:Env} {w:World} (h:Heap Γ k H e w) {b:Nat} (hb:b∈ah e H):∃ o,w.heap[b]?=some o/\plainObj o=true:=by
 obtain⟨p,hp,hb⟩:=List.mem_filterMap.1 hb;have hr:=(h.heap p hp).2;obtain⟨id,hbk⟩:=p;cases hbk with
 | blk ty cs =>
  obtain⟨vs,h1,_⟩:=hr;simp [HB.owned] at hb;subst hb;exact⟨_,h1,rfl⟩
 | row ty es xs =>
  obtain⟨vs,h1,_⟩:=hr;rcases h1.2 with ⟨hv,_⟩|⟨g,cap,cur,hv,_,hh,_⟩
  ·simp [HB.owned,hv,Value.ownBlock] at hb
  ·simp [HB.owned,hv,Value.ownBlock] at hb;subst hb;exact⟨_,hh,rfl⟩
 | map kd kvs =>
  obtain⟨⟨es,clock,h1,_⟩,_,_⟩:=hr;simp [HB.owned] at hb;subst hb;exact⟨_,h1,rfl⟩
theorem Heap.owned_mark {Γ:Ctx} {k:Nat->Prop} {H:Hp} {e:Env} {w:World} (h:Heap Γ k H e w) {r:Nat} (hr:w.heap[r]?=some (Obj.deferred (some []))):r ∉ ah e H:=by
 intro hb;obtain⟨o,h1,h2⟩:=h.owned_cells hb;rw [hr] at h1;cases h1;cases h2
theorem HRel.keep {X Y:Nat->Prop} {e:Env} {w w':World} (hs:w.heap.size<=w'.heap.size) (hb:∀ b,b<w.heap.size->¬ X b->w'.heap[b]?=w.heap[b]?) (hY:∀ b,b<w.heap.size->Y b->X b)
  (p:Nat×HB) (ho:∀ b,HB.owned e p=some b->w'.heap[b]?=w.heap[b]?) (h:HRel X e w p):HRel Y e w' p:=by
 obtain⟨id,hbk⟩:=p;cases hbk with
 | blk ty cs =>
  obtain⟨vs,h1,h2,h3⟩:=h;exact⟨vs,(ho _ rfl).trans h1,RelL.keep hs hb hY _ _ h2,h3⟩
 | row ty es xs =>
  obtain⟨vs,h1,h2,h3,h4⟩:=h;refine⟨vs,?_,h2,h3,λi hi j hj=>?_⟩
  ·refine⟨h1.1,?_⟩
   rcases h1.2 with h5|⟨g,cap,cur,hv,hg,hh,r⟩
   ·exact Or.inl h5
   ·exact Or.inr ⟨g,cap,cur,hv,hg,(ho g (by simp [HB.owned,hv,Value.ownBlock])).trans hh,r⟩
  ·obtain⟨v,g1,g2⟩:=h4 i hi j hj;exact⟨v,g1,RepC.keep hs hb hY g2⟩
 | map kd kvs=>exact MapIs.keep h λes clock h1=>(ho _ rfl).trans h1
theorem Heap.below {Γ:Ctx} {k:Nat->Prop} {H:Hp} {e:Env} {w w':World} (h:Heap Γ k H e w) (hb:Beld Γ.dr w.heap.size w w'):Heap Γ k H e w' where
 top:=h.top
 heap p hp:=⟨(h.heap p hp).1,HRel.keep hb.size (λb hb' _=>hb.block b hb') (λ_ _ hy=>hy) p (λb ho=>hb.block b (h.lt b (List.mem_filterMap.2 ⟨p,hp,ho⟩))) (h.heap p hp).2⟩
 ids:=h.ids
 nodup:=h.nodup
 mine:=h.mine
 os:=hb.os.trans h.os
 tape:=hb.tape.trans h.tape
 output:=hb.output.trans h.output
 drawn hd:=A5 (h.drawn hd) (hb.drawn hd)
 size:=A5 h.size hb.size
 block b h1 h2:=(hb.block b (A0 h1 h.size)).trans (h.block b h1 h2)
 obound:=h.obound
 jle:=h.jle
 anchor:=h.anchor
theorem Models.below {Γ:Ctx} {k:Nat->Prop} {L:Sl} {H:Hp} {e:Env} {a:Act} {w w':World} (h:Models Γ k L H e a w) (hb:Beld Γ.dr w.heap.size w w'):Models Γ k L H e a w' where
 toHeap:=h.toHeap.below hb
 defers:=h.defers.below hb.toBelow
 len:=h.len
 slot t:=Rel.keep hb.size (λb hb' _=>hb.block b hb') (λ_ _ hy=>hy) _ _ (h.slot t)
theorem Sl.get_cons (d:Nat) (s:SV) (L:Sl) (t:Nat):Sl.get ((d,s)::L) t=if d=t then s else Sl.get L t:=by
 simp only [Sl.get];cases h:Aw d t with
 | true=>rw [if_pos (Ao h)]
 | false=>rw [if_neg (B0 h)]
theorem Act.getD_put (a:Act) (d:Nat) (v:Value) (t:Nat) (hd:d<a.tmps.size):(a.put (some d) v).tmps.getD t undef=if d=t then v else a.tmps.getD t undef:=by
 simp only [Act.put,Array.getD_eq_getD_getElem?,Array.getElem?_setIfInBounds];by_cases h:d=t
 ·subst h;simp [hd]
 ·simp [h]
theorem Models.put {Γ:Ctx} {k:Nat->Prop} {L:Sl} {H:Hp} {e:Env} {a:Act} {w:World} (h:Models Γ k L H e a w) {d:Nat} {s:SV} {v:Value} (hd:d<Γ.n) (hr:Rel (Γ.X e H) e w s v) :
  Models Γ k ((d,s)::L) H e (a.put (some d) v) w where
 toHeap:=h.toHeap
 defers:=h.defers
 len:=by simp [Act.put,h.len]
 slot t:=by
  rw [Sl.get_cons,Act.getD_put _ _ _ _ (by rw [h.len];exact hd)];split
  ·exact hr
  ·exact h.slot t
def cSV:Value->SV
 | .int k n=>.d (.int k n)
 | .bool b=>.d (.bool b)
 | .string s=>.d (.str s)
 | .slice none 0 0=>.nils
 | v=>.val v
def cOk:Value->Prop
 | .int k n=>(Lit.int k n).wf=true
 | .string s=>s.size<=maxLen
 | _=>True
theorem cSV_rel {X e w} (v:Value) (h:cOk v):Rel X e w (cSV v) v:=by
 unfold cSV;split
 ·exact .int h
 ·exact .bool
 ·exact .str h
 ·rfl
 ·rfl
def ap (L:Sl):Operand->SV
 | .tmp t=>L.get t
 | .const v=>cSV v
 | .func f=>.fn f []
 | _=>.junk
def opOk:Operand->Prop
 | .const v=>cOk v
 | _=>True
theorem Models.op {Γ:Ctx} {k:Nat->Prop} {L:Sl} {H:Hp} {e:Env} {a:Act} {w:World} (h:Models Γ k L H e a w) (x:Operand) (hx:opOk x):Rel (Γ.X e H) e w (ap L x) (a.eval x):=by
 cases x with
 | tmp t=>exact h.slot t
 | const v=>exact cSV_rel v hx
 | global g=>trivial
 | func f=>exact⟨[],rfl,trivial⟩
abbrev gh:=Exit->Nat->Sl->Hp->Prop
def Fell (Γ:Ctx) (x:Exit) (a:Act) (w:World):Prop:=∃ (v:Value) (k:Nat) (L:Sl) (H:Hp) (e:Env),x = .panic [{ v,recovered:=false }]/\Γ.pan.may v L H/\Models Γ k L H e a w
def vh (Γ:Ctx) (Q:gh):Exit->Act->World->Prop:=λx a w=>(∃ (k:Nat) (L:Sl) (H:Hp) (e:Env),Models Γ k L H e a w/\Q x k L H)∨Fell Γ x a w
theorem p8 {Γ:Ctx} {Q Q':gh} (h:∀ x k L H,Q x k L H->Q' x k L H):∀ x a w,vh Γ Q x a w->vh Γ Q' x a w:=λ_ _ _ hl=>hl.imp (fun⟨k,L,H,e,m,hq⟩=>⟨k,L,H,e,m,h _ _ _ _ hq⟩) id
abbrev mz (ro:Option Nat):Fence:={ Fence.wide with round:=ro }
def DW (Γ:Ctx) (c:Code) (Q:gh) (k:Nat) (L:Sl) (H:Hp):Prop:=∀ e a w,Models Γ k L H e a w->c.wpIn (mz Γ.rd) 0 Γ.P (vh Γ Q) a w
abbrev cy:=Nat->Sl->Hp->Prop
def fh (K:cy):gh:=λx k L H=>x = .normal/\K k L H
def DL (Γ:Ctx) (ops:List Oper) (rest:List Oper) (K:cy) (k:Nat) (L:Sl) (H:Hp):Prop :=
 ∀ e a w,Models Γ k L H e a w->wpList Γ.P ops.toArray (vh Γ (fh K)) rest a w
def ef (K:cy) (Q:gh):gh:=λx k L H=>match x with
 | .normal=>K k L H
 | x=>Q x k L H
section
variable {Γ : Ctx} {k : Nat} {L : Sl} {H : Hp} {Q : gh} {K : cy} {ops : List Oper} {rest : List Oper} {o : Oper}
theorem dw_skip (h:Q .normal k L H):DW Γ .skip Q k L H:=λe _ _ m=>wpIn_skip (.inl ⟨k,L,H,e,m,h⟩)
theorem c9 (h:Q .ret k L H):DW Γ .ret Q k L H:=λe _ _ m=>wpIn_ret (.inl ⟨k,L,H,e,m,h⟩)
theorem dw_exit {id} (h:Q (.exit id) k L H):DW Γ (.exit id) Q k L H:=λe _ _ m=>wpIn_exit (.inl ⟨k,L,H,e,m,h⟩)
theorem dw_seq {x y:Code} (h:∀ K:cy,(∀ k L H,DW Γ y Q k L H->K k L H)->DW Γ x (ef K Q) k L H):DW Γ (.seq x y) Q k L H:=by
 intro e a w m;refine wpIn_seq (wpIn_mono (h (DW Γ y Q) (λ_ _ _ h=>h) e a w m) ?_);rintro ex a' w' (⟨k',L',H',e',m',hq⟩|hf)
 ·cases ex with
  | normal=>exact hq e' a' w' m'
  | _=>exact .inl ⟨k',L',H',e',m',hq⟩
 ·obtain⟨v,k',L',H',e',rfl,r⟩:=hf;exact .inr ⟨v,k',L',H',e',rfl,r⟩
theorem d7 {c:Operand} {x y:Code} {b:Bool} (hc:ap L c = .d (.bool b)) (ht:b=true->DW Γ x Q k L H) (hf:b=false->DW Γ y Q k L H):DW Γ (.cond c x y) Q k L H:=by
 intro e a w m;have hr:Rel (Γ.X e H) e w (ap L c) (a.eval c):=by
  cases c with
  | const v =>
   refine m.op _ ?_;cases v<;>first|trivial|(simp [ap,cSV] at hc)
  | _=>exact m.op _ trivial
 rw [hc] at hr;have hv:a.eval c = .bool b:=by
  generalize a.eval c=v at hr;cases hr;rfl
 cases b
 ·exact wpIn_cond_false hv (hf rfl e a w m)
 ·exact wpIn_cond_true hv (ht rfl e a w m)
def bt (id:Nat) (Q:gh):gh:=λx k L H=>match x with
 | .exit id'=>match Aw id' id with
  | true=>Q .normal k L H
  | false=>Q (.exit id') k L H
 | x=>Q x k L H
theorem dw_block {id:Nat} {c:Code} (h:DW Γ c (bt id Q) k L H):DW Γ (.block id c) Q k L H:=by
 intro e a w m;refine wpIn_block (wpIn_mono (h e a w m) ?_);rintro ex a' w' (⟨k',L',H',e',m',hq⟩|hf)
 ·cases ex with
  | exit id' =>
   simp only [Exit.inBlock];simp only [bt] at hq;cases hb:Aw id' id with
   | true=>rw [hb] at hq;rw [if_pos (Ao hb)];exact .inl ⟨k',L',H',e',m',hq⟩
   | false=>rw [hb] at hq;rw [if_neg (B0 hb)];exact .inl ⟨k',L',H',e',m',hq⟩
  | _=>exact .inl ⟨k',L',H',e',m',hq⟩
 ·obtain⟨v,k',L',H',e',rfl,r⟩:=hf;exact .inr ⟨v,k',L',H',e',rfl,r⟩
theorem dl_nil (h:K k L H):DL Γ ops [] K k L H:=λe _ _ m=>wpList_nil (.inl ⟨k,L,H,e,m,rfl,h⟩)
def d6:List Oper->Bool
 | []=>true
 | o::l=>(match o.op with|.defer _=>false|_=>true) && d6 l
theorem pm:∀ {l:List Oper},d6 l=true->∀ o∈l,∀ c,o.op≠.defer c
 | [],_,_,h=>nomatch h
 | o::l,h,x,hx=>by
  simp only [d6,Ae] at h
  rcases List.mem_cons.1 hx with rfl|hx
  ·intro c hc;rw [hc] at h;exact absurd h.1 (by simp)
  ·exact pm h.2 x hx
theorem z7 {ro:Option Nat} {n:Nat} {P:Program} {f:FuncId} {args:Array Value} {w:World} {R:Ending->World->Prop} (h:Calls P f args w R):CallsIn (mz ro) n P f args w R :=
 ⟨trivial,λcs _=>let ⟨e,w',fr,r,s,x⟩:=h cs;⟨e,w',fr,r,comesIn_wide.2 s,x⟩⟩
theorem ms {ro:Option Nat} {p:Prop}:(mz ro).depth.isSome=true->p:=λh=>nomatch h
theorem Oper.wp_in {ro:Option Nat} {P:Program} {o:Oper} {a:Act} {w:World} {K:Act->World->Prop} {Q:Exit->Act->World->Prop} (hd:∀ c,o.op≠.defer c) (h:o.wp P a w K Q):o.wpIn (mz ro) 0 P a w K Q:=by
 refine⟨λ_ _=>trivial,?_⟩
 rw [Oper.semAt_eq _ _ _ hd];unfold Oper.wp at h;generalize (execOp a.eval o).run P w=r at h;cases r with
 | ok x w' =>
  cases x<;>simp only [Oper.upon,Oper.uponIn] at h ⊢<;>first
   | exact h
   | exact⟨ms,z7 h⟩
   | exact⟨ms,λc cs _=>let ⟨v,w'',r,s⟩:=h c cs;⟨v,w'',r,stepsIn_wide.2 s⟩⟩
   | exact h.elim
 | halt x w'=>cases x<;>simp only [Oper.upon,Oper.uponIn] at h ⊢<;>exact h
theorem wpList_in {ro:Option Nat} {P:Program} {ops:Array Oper} {Q:Exit->Act->World->Prop} (hQ:¬ LetsOut Q):∀ (l:List Oper),d6 l=true->∀ a w,wpList P ops Q l a w->wpListIn (mz ro) 0 P ops Q l a w
 | [],_,_,_,h=>h
 | o::l,hn,a,w,h=>by
  have hd:=pm hn o (Ac ..);have hn':d6 l=true:=by simp only [d6,Ae] at hn;exact hn.2
  unfold wpList at h;unfold wpListIn;split at h
  ·rename_i hw;rw [if_pos hw];rcases h with h|h
   ·exact Oper.wpIn_mono (λa w=>wpList_in hQ l hn' a w) (Oper.wp_in hd h)
   ·exact absurd h.2 hQ
  ·rename_i hw;rw [if_neg hw];exact⟨λ_ _=>trivial,wpList_in hQ l hn' _ _ h⟩
theorem wpOp_in {ro:Option Nat} {P:Program} {l:List Oper} {Q:Exit->Act->World->Prop} (hQ:¬ LetsOut Q) (hn:d6 l=true) {i:Nat} {K:Act->World->Prop} {a:Act} {w:World} (h:wpOp P l.toArray Q i K a w):wpOpIn (mz ro) 0 P l.toArray Q i K a w:=by
 unfold wpOp at h;unfold wpOpIn;cases ho:l.toArray[i]? with
 | none=>rw [ho] at h;exact h
 | some o =>
  rw [ho] at h;have hm:o∈l:=by
   rw [List.getElem?_toArray] at ho;exact List.mem_of_getElem? ho
  simp only at h ⊢;split at h
  ·rename_i hw;rw [if_pos hw];rcases h with h|h
   ·exact Oper.wp_in (pm hn o hm) h
   ·exact absurd h.2 hQ
  ·rename_i hw;rw [if_neg hw];exact⟨λ_ _=>trivial,h⟩
theorem vm {ro:Option Nat} {P:Program} {l:List Oper} {md:Region.Mode} {Q:Exit->Act->World->Prop} (hQ:¬ LetsOut Q) (hn:d6 l=true):∀ (fuel:Nat) (listed:Array Bool) (a:Act) (w:World),wpAny P md l.toArray Q fuel listed a w->wpAnyIn (mz ro) 0 P md l.toArray Q fuel listed a w
 | 0,_,_,_,h=>h
 | fuel+1,_,_,_,h=>⟨h.1,λi hi=>wpOpIn_mono (λa w=>vm hQ hn fuel _ a w) (wpOp_in hQ hn (h.2 i hi))⟩
theorem ik {Γ:Ctx} {K:cy}:¬ LetsOut (vh Γ (fh K)):=by
 rintro⟨a,w,⟨k,L,H,e,m,hx,_⟩|⟨v,k,L,H,e,hx,_⟩⟩
 ·cases hx
 ·cases hx
theorem dw_region {id:Nat} {l:List Oper} (hn:d6 l=true) (h:DL Γ l l (Q .normal) k L H):DW Γ (.region id l.toArray false) Q k L H:=by
 intro e a w m;refine wpIn_mono (wpIn_region_lit (wpList_in ik l hn _ _ (h e a w m))) (p8 ?_);rintro ex k' L' H' ⟨rfl,hq⟩;exact hq
def Ent (Γ:Ctx) (k:Nat) (L:Sl) (H:Hp) (k':Nat) (L':Sl) (H':Hp):Prop :=
 ∀ e a w,Models Γ k L H e a w->∃ e',Models Γ k' L' H' e' a w
theorem Ent.refl:Ent Γ k L H k L H:=λe _ _ m=>⟨e,m⟩
theorem ak {c:Code} {k' L' H'} (he:Ent Γ k L H k' L' H') (h:DW Γ c Q k' L' H'):DW Γ c Q k L H:=λe a w m =>
 let ⟨e',m'⟩:=he e a w m
 h e' a w m'
structure St where
 k:Nat
 L:Sl
 H:Hp
theorem dw_loop {ι:Type} {c:Code} (I:ι->St) (μ:ι->Nat) (x0:ι) (h0:Ent Γ k L H (I x0).k (I x0).L (I x0).H)
  (round:∀ x,DW Γ c (ef (λk' L' H'=>∃ y,Ent Γ k' L' H' (I y).k (I y).L (I y).H/\μ y<μ x) Q) (I x).k (I x).L (I x).H):DW Γ (.loop c) Q k L H:=by
 intro e a w m;obtain⟨e0,m0⟩:=h0 e a w m;refine wpIn_loop_ghost (λn a w=>∃ x,μ x=n/\∃ e,Models Γ (I x).k (I x).L (I x).H e a w) (μ x0) ⟨x0,rfl,e0,m0⟩ ?_;rintro n a w ⟨x,rfl,e,m⟩;refine wpIn_mono (round x e a w m) ?_;rintro ex a' w' (⟨k',L',H',e',m',hq⟩|hf)
 ·cases ex with
  | normal =>
   obtain⟨y,hy,hlt⟩:=hq;obtain⟨e2,m2⟩:=hy e' a' w' m';exact⟨_,hlt,y,rfl,e2,m2⟩
  | _=>exact .inl ⟨k',L',H',e',m',hq⟩
 ·obtain⟨v,k',L',H',e',rfl,r⟩:=hf;exact .inr ⟨v,k',L',H',e',rfl,r⟩
end
mutual
def SV.ren (ρ:Nat->Nat):SV->SV
 | .junk=>.junk
 | .d x=>.d x
 | .nils=>.nils
 | .pd ds=>.pd ds
 | .loc id off=>.loc (ρ id) off
 | .row id=>.row (ρ id)
 | .mp id=>.mp (ρ id)
 | .md kd kvs=>.md kd kvs
 | .prow id k es off=>.prow (ρ id) k es off
 | .sl id off n cap=>.sl (ρ id) off n cap
 | .rsl id es k n=>.rsl (ρ id) es k n
 | .fn f caps=>.fn f (SV.renL ρ caps)
 | .agg ss=>.agg (SV.renL ρ ss)
 | .tup ss=>.tup (SV.renL ρ ss)
 | .val v=>.val v
def SV.renL (ρ:Nat->Nat):List SV->List SV
 | []=>[]
 | s::ss=>SV.ren ρ s::SV.renL ρ ss
end
mutual
def SV.low (k:Nat):SV->Bool
 | .loc id _=>Av id k
 | .row id=>Av id k
 | .mp id=>Av id k
 | .md _ _=>true
 | .prow id _ _ _=>Av id k
 | .sl id _ _ _=>Av id k
 | .rsl id _ _ _=>Av id k
 | .fn _ caps=>SV.lowL k caps
 | .agg ss=>SV.lowL k ss
 | .tup ss=>SV.lowL k ss
 | .junk=>true
 | .d _=>true
 | .nils=>true
 | .pd _=>true
 | .val _=>true
def SV.lowL (k:Nat):List SV->Bool
 | []=>true
 | s::ss=>SV.low k s && SV.lowL k ss
end
def HB.ren (ρ:Nat->Nat):HB->HB
 | .blk ty cs=>.blk ty (SV.renL ρ cs)
 | .row ty es xs=>.row ty es xs
 | .map kd kvs=>.map kd kvs
def HB.low (k:Nat):HB->Bool
 | .blk _ cs=>SV.lowL k cs
 | .row _ _ _=>true
 | .map _ _=>true
def Env.ren (e:Env) (ρ:Nat->Nat) (k:Nat):Env:=⟨λi=>e.β (ρ i),λi=>e.η (ρ i),lo k⟩
mutual
theorem Rel.ren {X e w} (ρ:Nat->Nat) (k:Nat):∀ (s:SV) (v:Value),s.low k=true->Rel X e w (s.ren ρ) v->Rel X (e.ren ρ k) w s v
 | .junk,_,_,_=>trivial
 | .d _,_,_,h=>h
 | .nils,_,_,h=>h
 | .pd _,_,_,h=>h
 | .loc _ _,_,hb,h=>⟨Ab hb,h.2⟩
 | .row _,_,hb,h=>⟨Ab hb,h.2⟩
 | .mp _,_,hb,h=>⟨Ab hb,h.2⟩
 | .md _ _,_,_,h=>h
 | .prow _ _ _ _,_,hb,h=>⟨Ab hb,h.2⟩
 | .sl _ _ _ _,_,hb,h=>⟨Ab hb,h.2⟩
 | .rsl _ _ _ _,_,hb,h=>⟨Ab hb,h.2⟩
 | .fn _ caps,_,hb,⟨vs,h1,h2⟩=>⟨vs,h1,RelL.ren ρ k caps vs hb h2⟩
 | .agg ss,_,hb,⟨vs,h1,h2⟩=>⟨vs,h1,RelL.ren ρ k ss vs hb h2⟩
 | .tup ss,_,hb,⟨vs,h1,h2⟩=>⟨vs,h1,RelL.ren ρ k ss vs hb h2⟩
 | .val _,_,_,h=>h
theorem RelL.ren {X e w} (ρ:Nat->Nat) (k:Nat):∀ (ss:List SV) (vs:List Value),SV.lowL k ss=true->RelL X e w (SV.renL ρ ss) vs->RelL X (e.ren ρ k) w ss vs
 | [],[],_,_=>trivial
 | [],_::_,_,h=>h.elim
 | _::_,[],_,h=>h.elim
 | s::ss,v::vs,hb,h=>by
  simp only [SV.lowL,Ae] at hb
  exact⟨Rel.ren ρ k s v hb.1 h.1,RelL.ren ρ k ss vs hb.2 h.2⟩
end
def Hp.get:Hp->Nat->Option HB
 | [],_=>none
 | (d,s)::H,t=>match Aw d t with|true=>some s|false=>Hp.get H t
theorem Hp.get_mem:∀ (H:Hp) (t:Nat) (b:HB),Hp.get H t=some b->(t,b)∈H
 | [],_,_,h=>by simp [Hp.get] at h
 | (d,s)::H,t,b,h=>by
  simp only [Hp.get] at h
  cases hb:Aw d t with
  | true=>rw [hb] at h;have:=Ao hb;subst this;cases h;simp
  | false=>rw [hb] at h;exact Ag _ (Hp.get_mem H t b h)
theorem r8 {α β:Type} (f:α->Option β):∀ (l:List α),(l.filterMap f).Nodup->∀ p q b,p∈l->q∈l->f p=some b->f q=some b->p=q
 | [],_,_,_,_,h,_,_,_=>by simp at h
 | x::l,hn,p,q,b,hp,hq,fp,fq=>by
  have hn':(l.filterMap f).Nodup:=by
   rw [Bn] at hn;split at hn
   ·exact hn
   ·exact (List.nodup_cons.1 hn).2
  rcases List.mem_cons.1 hp with rfl|hp'<;>rcases List.mem_cons.1 hq with rfl|hq'
  ·rfl
  ·exfalso;rw [Bn,fp] at hn;exact (List.nodup_cons.1 hn).1 (List.mem_filterMap.2 ⟨q,hq',fq⟩)
  ·exfalso;rw [Bn,fq] at hn;exact (List.nodup_cons.1 hn).1 (List.mem_filterMap.2 ⟨p,hp',fp⟩)
  ·exact r8 f l hn' p q b hp' hq' fp fq
theorem ib {α β:Type} (f:α->Option β) (H:List α) (hH:(H.filterMap f).Nodup):∀ (l:List α),l.Nodup->(∀ p∈l,p∈H)->(l.filterMap f).Nodup
 | [],_,_=>by simp
 | x::l,hn,hs=>by
  obtain⟨h1,h2⟩:=List.nodup_cons.1 hn
  have ih:=ib f H hH l h2 λp hp=>hs p (Ag _ hp)
  rw [Bn]
  split
  ·exact ih
  ·rename_i b hb
   refine List.nodup_cons.2 ⟨λhm=>?_,ih⟩
   obtain⟨q,hq,fq⟩:=List.mem_filterMap.1 hm
   exact h1 (r8 f H hH x q b (hs x (Ac ..)) (hs q (Ag _ hq)) hb fq▸hq)
def Knows (ρ:Nat->Nat) (L:Sl):Sl->Prop
 | []=>True
 | (t,s)::r=>Sl.get L t=s.ren ρ/\Knows ρ L r
def KnowsH (ρ:Nat->Nat) (H:Hp):Hp->Prop
 | []=>True
 | (i,b)::r=>Hp.get H (ρ i)=some (b.ren ρ)/\KnowsH ρ H r
def Sl.low (k:Nat):Sl->Bool
 | []=>true
 | (_,s)::r=>s.low k && Sl.low k r
def Hp.low (k:Nat):Hp->Bool
 | []=>true
 | (i,b)::r=>Av i k && (b.low k && Hp.low k r)
def notIn (i:Nat):List Nat->Bool
 | []=>true
 | j::r=>!(Aw i j) && notIn i r
def aw:List Nat->Bool
 | []=>true
 | i::r=>notIn i r && aw r
theorem gm (i:Nat):∀ l,notIn i l=true->i ∉ l
 | [],_=>by simp
 | j::r,h=>by
  simp only [notIn,Ae,Eu] at h
  have h1:=B0 h.1
  simp [h1,gm i r h.2]
theorem dy:∀ l,aw l=true->l.Nodup
 | [],_=>by simp
 | i::r,h=>by
  simp only [aw,Ae] at h
  exact List.nodup_cons.2 ⟨gm i r h.1,dy r h.2⟩
theorem Knows.slot {X e w} {a:Act} {ρ:Nat->Nat} {L:Sl} {k:Nat} (hL:∀ t,Rel X e w (L.get t) (a.tmps.getD t undef)):∀ (L':Sl),Knows ρ L L'->Sl.low k L'=true->∀ t,Rel X (e.ren ρ k) w (L'.get t) (a.tmps.getD t undef)
 | [],_,_,_=>trivial
 | (d,s)::r,⟨h1,h2⟩,hb,t=>by
  simp only [Sl.low,Ae] at hb
  rw [Sl.get_cons]
  split
  ·rename_i hd
   subst hd
   exact Rel.ren ρ k _ _ hb.1 (h1▸hL d)
  ·exact Knows.slot hL r h2 hb.2 t
theorem KnowsH.mem {ρ:Nat->Nat} {H:Hp}:∀ (H':Hp),KnowsH ρ H H'->∀ p∈H',(ρ p.1,p.2.ren ρ)∈H
 | [],_,_,h=>by simp at h
 | (i,b)::r,⟨h1,h2⟩,p,hp=>by
  rcases List.mem_cons.1 hp with rfl|hp
  ·exact Hp.get_mem _ _ _ h1
  ·exact KnowsH.mem r h2 p hp
theorem Hp.low_spec {k:Nat}:∀ (H:Hp),Hp.low k H=true->∀ p∈H,p.1<k/\p.2.low k=true
 | [],_,_,h=>by simp at h
 | (i,b)::r,h,p,hp=>by
  simp only [Hp.low,Ae,Nat.blt_eq] at h
  rcases List.mem_cons.1 hp with rfl|hp
  ·exact⟨h.1,h.2.1⟩
  ·exact Hp.low_spec r h.2.2 p hp
theorem yn (e:Env) (ρ:Nat->Nat) (k:Nat) (p:Nat×HB):HB.owned (e.ren ρ k) p=HB.owned e (ρ p.1,p.2.ren ρ):=by
 obtain⟨i,b⟩:=p;cases b<;>rfl
theorem ownedL_ren (e:Env) (ρ:Nat->Nat) (k:Nat) (H:Hp):ah (e.ren ρ k) H=ah e (H.map λp=>(ρ p.1,p.2.ren ρ)):=by
 unfold ah;rw [List.filterMap_map];congr 1;funext p;exact yn e ρ k p
def l5 (ρ:Nat->Nat):Nat->Bool
 | 0=>true
 | j+1=>Aw (ρ j) j && l5 ρ j
theorem z8 {ρ:Nat->Nat}:∀ (J:Nat),l5 ρ J=true->∀ j,j<J->ρ j=j
 | 0,_,_,h=>by omega
 | J+1,h,j,hj=>by
  simp only [l5,Ae] at h;rcases Nat.lt_or_ge j J with h1|h1
  ·exact z8 J h.2 j h1
  ·have:j=J:=by omega
   subst this;exact Ao h.1
theorem Heap.ren {Γ:Ctx} {k:Nat->Prop} {H:Hp} {e:Env} {w:World} (h:Heap Γ k H e w) (ρ:Nat->Nat) (k':Nat) (H':Hp) (hH:KnowsH ρ H H') (hb:Hp.low k' H'=true)
  (hd:aw (H'.map λp=>ρ p.1)=true) (hd':aw (H'.map (·.1))=true) (hj:Nat.ble Γ.J k'=true) (ha:l5 ρ Γ.J=true) :
  Heap Γ k' H' (e.ren ρ k') w/\∀ b,Γ.X (e.ren ρ k') H' b->Γ.X e H b:=by
 have hmem:=KnowsH.mem H' hH;have hown:∀ b,b∈ah (e.ren ρ k') H'->b∈ah e H:=by
  intro b hb;obtain⟨p,hp,ho⟩:=List.mem_filterMap.1 hb;exact List.mem_filterMap.2 ⟨_,hmem p hp,by rw [<- yn e ρ k'];exact ho⟩
 have hX:∀ b,Γ.X (e.ren ρ k') H' b->Γ.X e H b:=λb hx=>hx.imp id (hown b)
 refine⟨⟨λ_=>Iff.rfl,λp hp=>⟨(Hp.low_spec H' hb p hp).1,?_⟩,dy _ hd',?_,λb hbm=>h.mine b (hown b hbm),h.os,h.tape,h.output,h.drawn,h.size,h.block,h.obound,λj hjl=>A0 hjl (Ab hj),λj hjl=>(congrArg e.an (z8 _ ha j hjl)).trans (h.anchor j hjl)⟩,hX⟩
 ·have hr:=(h.heap _ (hmem p hp)).2;have hbl:=(Hp.low_spec H' hb p hp).2;obtain⟨i,b⟩:=p;cases b with
  | blk ty cs =>
   obtain⟨vs,h1,h2,h3⟩:=hr;exact⟨vs,h1,RelL.keep (Ah _) (λ_ _ _=>rfl) (λb _ hy=>hX b hy) _ _ (RelL.ren ρ k' cs vs hbl h2),h3⟩
  | row ty es xs =>
   obtain⟨vs,h1,h2,h3,h4⟩:=hr;refine⟨vs,h1,h2,h3,λi hi j hj=>?_⟩
   obtain⟨v,g1,g2⟩:=h4 i hi j hj;exact⟨v,g1,RepC.keep (Ah _) (λ_ _ _=>rfl) (λb _ hy=>hX b hy) g2⟩
  | map kd kvs=>exact hr
 ·rw [ownedL_ren];refine ib _ H h.nodup _ ?_ ?_
  ·have hn:=dy _ hd;refine List.Pairwise.of_map (f:=λp:Nat×HB=>p.1) (S:=(·≠·)) (λa b hab he=>hab (by rw [he])) ?_;simpa [List.map_map,List.Nodup,Function.comp_def] using hn
  ·intro p hp;obtain⟨q,hq,rfl⟩:=List.mem_map.1 hp;exact hmem q hq
theorem ai {Γ:Ctx} {k:Nat} {L:Sl} {H:Hp} (ρ:Nat->Nat) {k':Nat} {L':Sl} {H':Hp} (hL:Knows ρ L L') (hH:KnowsH ρ H H') (hb:Sl.low k' L'=true) (hbH:Hp.low k' H'=true)
  (hd:aw (H'.map λp=>ρ p.1)=true) (hd':aw (H'.map (·.1))=true) (hj:Nat.ble Γ.J k'=true) (ha:l5 ρ Γ.J=true):Ent Γ k L H k' L' H':=by
 intro e a w m;obtain⟨h1,h2⟩:=m.toHeap.ren ρ k' H' hH hbH hd hd' hj ha;refine⟨e.ren ρ k',⟨h1,m.defers,m.len,λt=>?_⟩⟩
 exact Rel.keep (Ah _) (λ_ _ _=>rfl) (λb _ hy=>h2 b hy) _ _ (Knows.slot m.slot L' hL hb t)
theorem er {Γ:Ctx} {k:Nat} {L:Sl} {H:Hp} (ρ:Nat->Nat) {k':Nat} {L':Sl} {H':Hp} (hL:Knows ρ L L':=by (repeat' (first | exact trivial | refine ⟨rfl, ?_⟩))) (hH:KnowsH ρ H H':=by (repeat' (first | exact trivial | refine ⟨rfl, ?_⟩))) (hb:Sl.low k' L'=true:=by exact rfl) (hbH:Hp.low k' H'=true:=by exact rfl) (hd:aw (H'.map λp=>ρ p.1)=true:=by exact rfl) (hd':aw (H'.map (·.1))=true:=by exact rfl) (hj:Nat.ble Γ.J k'=true:=by exact rfl) (ha:l5 ρ Γ.J=true:=by exact rfl):Ent Γ k L H k' L' H':=ai ρ hL hH hb hbH hd hd' hj ha
structure UId where
 author:Int
 number:Int
structure Fct where
 pred:Int
 args:List Int
structure Upd where
 id:UId
 parents:List UId
 says:List Fct
 takes:List UId
def ep (a b:Int):Int:=if a<b then -1 else if b<a then 1 else 0
def bw (a b:UId):Int:=if ep a.author b.author=0 then ep a.number b.number else ep a.author b.author
def du:List Int->List Int->Int
 | [],[]=>0
 | [],_::_=>-1
 | _::_,[]=>1
 | a::l,b::m=>if ep a b=0 then du l m else ep a b
def de (a b:Fct):Int:=if ep a.pred b.pred=0 then du a.args b.args else ep a.pred b.pred
def dg {α:Type} (o:α->α->Int):List α->Bool
 | a::b::l=>decide (o a b<0) && dg o (b::l)
 | _=>true
def inR (n a b:Int):Bool:=decide (a<=n) && decide (n<=b)
def numB (n:Int):Bool:=inR n (-1000000) 1000000
def idB (i:UId):Bool:=inR i.author 0 5 && inR i.number 1 200
def UId.same (a b:UId):Bool:=decide (a.author=b.author) && decide (a.number=b.number)
def saysB (f:Fct):Bool:=inR f.pred 0 9 && (decide (f.args.length<=3) && f.args.all numB)
def db (u:Upd):Int :=
 if idB u.id=false then 3
 else if 6<u.parents.length∨6<u.says.length∨6<u.takes.length then 2
 else if u.parents.all idB=false∨u.takes.all idB=false then 3
 else if dg bw u.parents=false∨dg bw u.takes=false then 4
 else if 1<u.id.number/\(u.parents.any λi=>i.same ⟨u.id.author,u.id.number-1⟩)=false then 5
 else if u.says.all saysB=false then 3
 else if dg de u.says=false then 4
 else 0
def putN (n:Nat):Nat->List UInt8
 | 0=>[]
 | k+1=>UInt8.ofNat n::putN (n / 256) k
def put (n:Int) (k:Nat):List UInt8:=putN (n % 4294967296).toNat k
def ea {α:Type} (p:α->α->Bool):List α->List α->Bool
 | [],[]=>true
 | x::xs,y::ys=>p x y && ea p xs ys
 | _,_=>false
def Fct.same (x y:Fct):Bool:=decide (de x y=0)
def Upd.same (a b:Upd):Bool:=a.id.same b.id && (ea UId.same a.parents b.parents && (ea Fct.same a.says b.says && ea UId.same a.takes b.takes))
theorem zc (a:Int):ep a a=0:=by unfold ep;rw [if_neg (by omega),if_neg (by omega)]
theorem qd {a b:Int} (h:ep a b=0):a=b:=by
 unfold ep at h;split at h
 ·cases h
 ·split at h
  ·cases h
  ·omega
theorem ordL_self:∀ l:List Int,du l l=0
 | []=>rfl
 | a::l=>by unfold du;rw [if_pos (zc a)];exact ordL_self l
theorem mo (f:Fct):de f f=0:=by unfold de;rw [if_pos (zc _)];exact ordL_self _
theorem gl {α:Type} {p:α->α->Bool} (hp:∀ x,p x x=true):∀ l,ea p l l=true
 | []=>rfl
 | x::l=>by unfold ea;rw [hp x,gl hp l];rfl
theorem UId.same_refl (a:UId):a.same a=true:=by unfold UId.same;simp
theorem Upd.same_refl (u:Upd):u.same u=true:=by
 unfold Upd.same;rw [UId.same_refl,gl UId.same_refl,gl UId.same_refl,gl λx=>by unfold Fct.same;simp [mo]];rfl
theorem tr {α:Type} (p:α->α->Bool) (xs ys:List α) (k:Nat) (h1:k<xs.length) (h2:k<ys.length) :
  ea p (xs.drop k) (ys.drop k)=(p xs[k] ys[k] && ea p (xs.drop (k+1)) (ys.drop (k+1))):=by
 rw [Am h1,Am h2];rfl
theorem yj {α:Type} (p:α->α->Bool) (xs ys:List α) (k:Nat) (h1:xs.length<=k) (h2:ys.length<=k) :
  ea p (xs.drop k) (ys.drop k)=true:=by
 rw [As h1,As h2];rfl
theorem se {α:Type} (p:α->α->Bool):∀ (xs ys:List α),xs.length≠ys.length->ea p xs ys=false
 | [],[],h=>absurd rfl h
 | [],_::_,_=>rfl
 | _::_,[],_=>rfl
 | x::xs,y::ys,h=>by rw [ea,se p xs ys (λe=>h (by simp [e])),Bool.and_false]
theorem yu {i:UId} (h:idB i=true):0<=i.author/\i.author<=5/\1<=i.number/\i.number<=200:=by
 unfold idB inR at h;simp only [Ae,decide_eq_true_eq] at h;omega
structure GoodU (u:Upd):Prop where
 id:idB u.id=true
 np:u.parents.length<=6
 ns:u.says.length<=6
 nt:u.takes.length<=6
 parents:u.parents.all idB=true
 takes:u.takes.all idB=true
 says:u.says.all saysB=true
theorem checkU_good {u:Upd} (h:db u=0):GoodU u:=by
 unfold db at h;split at h
 ·cases h
 split at h
 ·cases h
 split at h
 ·cases h
 split at h
 ·cases h
 split at h
 ·cases h
 split at h
 ·cases h
 rename_i h1 h2 h3 h4 h5 h6;simp only [Bool.not_eq_false,not_or] at h1 h2 h3 h6;exact⟨h1,by omega,by omega,by omega,h3.1,h3.2,h6⟩
def hasF (l:List Fct) (f:Fct):Bool:=l.any λx=>decide (de x f=0)
def qt (l:List Fct) (f:Fct):Nat->Nat
 | 0=>0
 | n+1=>match l[n]? with
  | some x=>if 0<de x f then qt l f n else n+1
  | none=>n+1
def uq (l:List Fct) (f:Fct):List Fct:=if hasF l f then l else l.take (qt l f l.length)++f::l.drop (qt l f l.length)
def a8 (l:List Fct):List Fct:=l.foldl uq []
theorem kFrom_succ {l:List Fct} {f:Fct} {n:Nat} (h:n<l.length):qt l f (n+1)=if 0<de l[n] f then qt l f n else n+1:=by
 rw [qt,Ad h]
theorem insF_len (l:List Fct) (f:Fct):(uq l f).length<=l.length+1:=by
 unfold uq;split
 ·omega
 ·simp;omega
theorem setF_take {l:List Fct} {i:Nat} (h:i<l.length):(l.take (i+1)).foldl uq []=uq ((l.take i).foldl uq []) l[i]:=by
 rw [An h,List.foldl_append];rfl
theorem v8:∀ (l o:List Fct),(l.foldl uq o).length<=l.length+o.length
 | [],o=>by simp
 | x::l,o=>by
  have:=v8 l (uq o x)
  have:=insF_len o x
  rw [List.foldl_cons,Bj]
  omega
theorem shift_step {α:Type} {l:List α} {y:α} {k:Nat} (h:k<l.length):(l.take (k+1)++y::l.drop (k+1)).set (k+1) l[k]=l.take k++l[k]::l.drop k:=by
 have h1:(l.take (k+1)).length=k+1:=by simp;omega
 rw [Gn _ _ (by omega),h1,Nat.sub_self,G4,An h,List.append_assoc,Am h];rfl
theorem shift_get {α:Type} {l:List α} {y:α} {k:Nat} (h:k<l.length):(l.take (k+1)++y::l.drop (k+1))[k]?=some l[k]:=by
 rw [List.getElem?_append_left (by simp;omega),List.getElem?_take,if_pos (by omega),Ad h]
theorem shift_end {α:Type} {l:List α} {y x:α} {k:Nat} (h:k<=l.length):(l.take k++y::l.drop k).set k x=l.take k++x::l.drop k:=by
 have h1:(l.take k).length=k:=by simp;omega
 rw [Gn _ _ (by omega),h1,Nat.sub_self,G4]
theorem zd (a b:Int):ep a b = - ep b a:=by unfold ep;split<;>split<;>(try split)<;>omega
theorem cmpI_lt {a b:Int}:ep a b<0↔a<b:=by
 unfold ep;split
 ·rename_i h;simp [h]
 ·rename_i h;split<;>simp [h]
theorem ko:∀ (l m:List Int),du l m = - du m l
 | [],[]=>rfl
 | [],_::_=>rfl
 | _::_,[]=>rfl
 | a::l,b::m=>by
  unfold du
  rw [zd a b]
  by_cases h:ep b a=0
  ·rw [h,if_pos (by omega),if_pos rfl];exact ko l m
  ·rw [if_neg (by omega),if_neg h]
theorem xd:∀ {l m:List Int},du l m=0->l=m
 | [],[],_=>rfl
 | [],_::_,h=>by unfold du at h;omega
 | _::_,[],h=>by unfold du at h;omega
 | a::l,b::m,h=>by
  unfold du at h
  split at h
  ·rename_i h1;rw [qd h1,xd h]
  ·rename_i h1;exact absurd h h1
theorem ua:∀ {l m n:List Int},du l m<0->du m n<0->du l n<0
 | [],[],_,h,_=>by unfold du at h;omega
 | _::_,[],_,h,_=>by unfold du at h;omega
 | [],_::_,[],_,h=>by unfold du at h;omega
 | [],_::_,_::_,_,_=>by unfold du;omega
 | _::_,_::_,[],_,h=>by unfold du at h;omega
 | a::l,b::m,c::n,h,g=>by
  unfold du at h g ⊢
  by_cases h1:ep a b=0
  ·have:=qd h1;subst this
   rw [if_pos h1] at h
   by_cases g1:ep a c=0
   ·rw [if_pos g1] at g ⊢;exact ua h g
   ·rw [if_neg g1] at g ⊢;exact g
  ·rw [if_neg h1] at h
   by_cases g1:ep b c=0
   ·have:=qd g1;subst this
    rw [if_neg h1];exact h
   ·rw [if_neg g1] at g
    have h2:=cmpI_lt.1 h
    have g2:=cmpI_lt.1 g
    have h3:ep a c<0:=cmpI_lt.2 (by omega)
    rw [if_neg (by omega)];exact h3
theorem p7 (a b:Fct):de a b = - de b a:=by
 unfold de;rw [zd a.pred b.pred];by_cases h:ep b.pred a.pred=0
 ·rw [h,if_pos (by omega),if_pos rfl];exact ko _ _
 ·rw [if_neg (by omega),if_neg h]
theorem qq {a b:Fct} (h:de a b=0):a=b:=by
 unfold de at h;split at h
 ·rename_i h1;cases a;cases b;simp only at h h1 ⊢;rw [qd h1,xd h]
 ·rename_i h1;exact absurd h h1
theorem mb {a b c:Fct} (h:de a b<0) (g:de b c<0):de a c<0:=by
 unfold de at h g ⊢;by_cases h1:ep a.pred b.pred=0
 ·rw [if_pos h1] at h;rw [qd h1];by_cases g1:ep b.pred c.pred=0
  ·rw [if_pos g1] at g ⊢;exact ua h g
  ·rw [if_neg g1] at g ⊢;exact g
 ·rw [if_neg h1] at h;by_cases g1:ep b.pred c.pred=0
  ·rw [<- qd g1,if_neg h1];exact h
  ·rw [if_neg g1] at g;have h2:=cmpI_lt.1 h;have g2:=cmpI_lt.1 g;have h3:ep a.pred c.pred<0:=cmpI_lt.2 (by omega);rw [if_neg (by omega)];exact h3
theorem ordF_le {a b c:Fct} (h:0<=de a b) (g:0<=de b c):0<=de a c:=by
 by_cases h1:de a b=0
 ·rw [qq h1];exact g
 ·by_cases g1:de b c=0
  ·rw [<- qq g1];exact h
  ·have h2:de b a<0:=by rw [p7];omega
   have g2:de c b<0:=by rw [p7];omega
   have:=mb g2 h2
   rw [p7] at this;omega
theorem swoF:Go.Sort.SWO (ltOf de) where
 irrefl x:=by unfold ltOf;rw [mo];rfl
 trans x y z h g:=decide_eq_true (mb (of_decide_eq_true h) (of_decide_eq_true g))
 ntrans x y z h g:=by
  have h:=of_decide_eq_false h;have g:=of_decide_eq_false g;exact decide_eq_false (by have:=ordF_le (a:=x) (b:=y) (c:=z) (by omega) (by omega);omega)
def kr {α:Type} (p:α->Bool) (l:List α):Int:=match l.findIdx? p with
 | some i=>i
 | none=>-1
theorem jp {α:Type} {p:α->Bool} {l:List α} {i:Nat} (h:∀ j (hj:j<l.length),j<i->p l[j]=false) (hi:i<l.length) (hp:p l[i]=true):kr p l=i:=by
 unfold kr;have:l.findIdx? p=some i:=by
  rw [Et];exact⟨hi,hp,λj hj=>by simpa using h j (by omega) hj⟩
 rw [this]
theorem ja {α:Type} {p:α->Bool} {l:List α} (h:∀ j (hj:j<l.length),p l[j]=false):kr p l = -1:=by
 unfold kr;have:l.findIdx? p=none:=by
  rw [Fv];intro x hx;obtain⟨i,hi,rfl⟩:=List.mem_iff_getElem.1 hx;exact h i hi
 rw [this]
theorem ol {α:Type} (p:α->Bool) (l:List α):decide (kr p l ≥ 0)=l.any p:=by
 unfold kr;cases h:l.findIdx? p with
 | none =>
  rw [Fv] at h;have:l.any p=false:=by
   rw [Hf];intro x hx;rw [h x hx];exact C5
  rw [this];rfl
 | some i =>
  rw [Et] at h;obtain⟨hi,hp,_⟩:=h;have:l.any p=true:=List.any_eq_true.2 ⟨l[i],Aj hi,hp⟩
  rw [this];exact decide_eq_true (by show (0:Int)<=(i:Int);omega)
theorem gz {α:Type} {p:α->Bool} {l:List α} {i:Nat} (h:∀ j (hj:j<l.length),j<i->p l[j]=false) (hi:i<l.length) (hp:p l[i]=false):∀ j (hj:j<l.length),j<i+1->p l[j]=false:=by
 intro j hj hlt;by_cases he:j=i
 ·subst he;exact hp
 ·exact h j hj (by omega)
theorem any_none {α:Type} {p:α->Bool} {l:List α} (h:∀ j (hj:j<l.length),p l[j]=false):l.any p=false:=by
 rw [Hf];intro x hx;obtain⟨i,hi,rfl⟩:=List.mem_iff_getElem.1 hx;rw [h i hi];exact C5
theorem any_hit {α:Type} {p:α->Bool} {l:List α} {i:Nat} (hi:i<l.length) (hp:p l[i]=true):l.any p=true:=List.any_eq_true.2 ⟨l[i],Aj hi,hp⟩
theorem all_any {α:Type} (p:α->Bool) (l:List α):l.all p = !l.any λx=>!p x:=by
 induction l with
 | nil=>rfl
 | cons x l ih=>simp [ih]
theorem cmpI_eqD {a b:Int} (h:ep a b=0):a=b:=by unfold ep at h;split at h<;>(try split at h)<;>omega
theorem ub (a:UId):bw a a=0:=by unfold bw;simp [zc]
theorem uc (a b:UId):bw a b = - bw b a:=by
 unfold bw;rw [zd a.author b.author,zd a.number b.number];by_cases h:ep b.author a.author=0
 ·rw [h];simp
 ·rw [if_neg h,if_neg (by omega)]
theorem ordId_eq {a b:UId} (h:bw a b=0):a=b:=by
 unfold bw at h;split at h
 ·rename_i h1;cases a;cases b;rw [UId.mk.injEq];exact⟨cmpI_eqD h1,cmpI_eqD h⟩
 ·rename_i h1;exact absurd h h1
theorem cmpI_cases (a b:Int):(a<b/\ep a b = -1)∨(a=b/\ep a b=0)∨(b<a/\ep a b=1):=by
 unfold ep;split
 ·exact .inl ⟨by assumption,rfl⟩
 ·split
  ·exact .inr (.inr ⟨by assumption,rfl⟩)
  ·exact .inr (.inl ⟨by omega,rfl⟩)
theorem ordId_lt {a b:UId}:bw a b<0↔a.author<b.author∨(a.author=b.author/\a.number<b.number):=by
 unfold bw;rcases cmpI_cases a.author b.author with ⟨h1,h2⟩|⟨h1,h2⟩|⟨h1,h2⟩<;>rcases cmpI_cases a.number b.number with ⟨h3,h4⟩|⟨h3,h4⟩|⟨h3,h4⟩<;>rw [h2]<;>simp [h4]<;>omega
theorem mn {a b c:UId} (h:bw a b<0) (g:bw b c<0):bw a c<0:=by
 rw [ordId_lt] at *;omega
theorem same_iff {a b:UId}:a.same b=true↔a=b:=by
 unfold UId.same;cases a;cases b;simp
theorem same_eq (a b:UId):a.same b=decide (bw a b=0):=by
 rw [Bool.eq_iff_iff,same_iff,decide_eq_true_eq];exact⟨λh=>by rw [h];exact ub _,ordId_eq⟩
def hasU (l:List Upd) (i:UId):Bool:=l.any λu=>u.id.same i
theorem hasU_iff {l:List Upd} {i:UId}:hasU l i=true↔∃ u∈l,u.id=i:=by
 unfold hasU;rw [List.any_eq_true];exact exists_congr λu=>and_congr_right λ_=>same_iff
def cv (u:Upd):List UId:=u.parents++u.takes
def readyU (l:List Upd) (u:Upd):Bool:=(cv u).all (hasU l)
theorem readyU_iff {l:List Upd} {u:Upd}:readyU l u=true↔∀ i∈cv u,hasU l i=true:=by unfold readyU;exact List.all_eq_true
def StrU (l:List Upd):Prop:=l.Pairwise λa b=>bw a.id b.id<0
theorem nw {a:UId} (h:bw a a<0):False:=by rw [ub] at h;omega
theorem StrU.uniq:∀ {l:List Upd},StrU l->∀ {u v:Upd},u∈l->v∈l->u.id=v.id->u=v
 | [],_,_,_,h,_,_=>by simp at h
 | x::l,hs,u,v,hu,hv,he=>by
  obtain⟨h1,h2⟩:=List.pairwise_cons.1 hs
  rcases List.mem_cons.1 hu with hu'|hu2<;>rcases List.mem_cons.1 hv with hv'|hv2
  ·rw [hu',hv']
  ·have:=h1 v hv2;rw [<- hu',he] at this;exact (nw this).elim
  ·have:=h1 u hu2;rw [<- hv',he] at this;exact (nw this).elim
  ·exact StrU.uniq h2 hu2 hv2 he
theorem StrU.nodup {l:List Upd} (h:StrU l):l.Nodup:=List.Pairwise.imp (λh he=>by subst he;exact nw h) h
theorem strU_ext:∀ {a b:List Upd},StrU a->StrU b->(∀ x,x∈a↔x∈b)->a=b
 | [],[],_,_,_=>rfl
 | [],y::b,_,_,h=>by have:=(h y).2 Ac;simp at this
 | x::a,[],_,_,h=>by have:=(h x).1 Ac;simp at this
 | x::a,y::b,ha,hb,h=>by
  obtain⟨a1,a2⟩:=List.pairwise_cons.1 ha;obtain⟨b1,b2⟩:=List.pairwise_cons.1 hb;have hxy:x=y:=by
   rcases List.mem_cons.1 ((h x).1 Ac) with h1|h1
   ·exact h1
   ·rcases List.mem_cons.1 ((h y).2 Ac) with h2|h2
    ·exact h2.symm
    ·exact (nw (mn (b1 x h1) (a1 y h2))).elim
  subst hxy;rw [strU_ext a2 b2 λz=>?_];constructor
  ·intro hz;rcases List.mem_cons.1 ((h z).1 (Ag _ hz)) with h1|h1
   ·subst h1;exact (nw (a1 z hz)).elim
   ·exact h1
  ·intro hz;rcases List.mem_cons.1 ((h z).2 (Ag _ hz)) with h1|h1
   ·subst h1;exact (nw (b1 z hz)).elim
   ·exact h1
theorem si:∀ {l:List Upd},dg (λa b:Upd=>bw a.id b.id) l=true->StrU l
 | [],_=>.nil
 | [x],_=>Dc _ _
 | x::y::l,h=>by
  unfold dg at h
  rw [Ae,decide_eq_true_eq] at h
  have ih:=si h.2
  refine List.pairwise_cons.2 ⟨λz hz=>?_,ih⟩
  rcases List.mem_cons.1 hz with rfl|hz
  ·exact h.1
  ·exact mn h.1 ((List.pairwise_cons.1 ih).1 z hz)
theorem str_rises:∀ {l:List Upd},StrU l->dg (λa b:Upd=>bw a.id b.id) l=true
 | [],_=>rfl
 | [x],_=>rfl
 | x::y::l,h=>by
  obtain⟨h1,h2⟩:=List.pairwise_cons.1 h
  unfold dg
  rw [Ae]
  exact⟨decide_eq_true (h1 y (Ac ..)),str_rises h2⟩
def po:List Upd->Upd->List Upd
 | [],u=>[u]
 | x::l,u=>if bw u.id x.id<0 then u::x::l else x::po l u
theorem insU_mem:∀ {l:List Upd} {u x:Upd},x∈po l u↔x=u∨x∈l
 | [],u,x=>by simp [po]
 | y::l,u,x=>by
  unfold po
  split
  ·simp
  ·rw [Bh,insU_mem,Bh]
   exact⟨λh=>by rcases h with h|h|h;exact .inr (.inl h);exact .inl h;exact .inr (.inr h),λh=>by rcases h with h|h|h;exact .inr (.inl h);exact .inl h;exact .inr (.inr h)⟩
theorem insU_str:∀ {l:List Upd} {u:Upd},StrU l->hasU l u.id=false->StrU (po l u)
 | [],u,_,_=>Dc _ _
 | x::l,u,hs,hn=>by
  obtain⟨h1,h2⟩:=List.pairwise_cons.1 hs
  unfold hasU at hn
  rw [List.any_cons,Bool.or_eq_false_iff] at hn
  unfold po
  split
  ·rename_i hlt
   refine List.pairwise_cons.2 ⟨λz hz=>?_,hs⟩
   rcases List.mem_cons.1 hz with rfl|hz
   ·exact hlt
   ·exact mn hlt (h1 z hz)
  ·rename_i hlt
   refine List.pairwise_cons.2 ⟨λz hz=>?_,insU_str h2 hn.2⟩
   rcases insU_mem.1 hz with rfl|hz
   ·have hne:bw x.id z.id≠0:=λh=>by rw [same_eq,decide_eq_true h] at hn;simp at hn
    have:=uc x.id z.id
    omega
   ·exact h1 z hz
theorem xt:∀ (l:List Upd) (u:Upd),(po l u).length=l.length+1
 | [],_=>rfl
 | x::l,u=>by
  unfold po
  split
  ·rfl
  ·rw [Bj,xt l u,Bj]
inductive Der (A:List Upd):UId->Prop
 | mk (u:Upd) (h:u∈A) (hu:∀ i∈cv u,Der A i):Der A u.id
theorem Der.mono {A B:List Upd} (h:∀ u∈A,u∈B) {i:UId} (hd:Der A i):Der B i:=by
 induction hd with
 | mk u hu _ ih=>exact .mk u (h u hu) ih
theorem Der.has {A:List Upd} {i:UId} (h:Der A i):∃ u∈A,u.id=i/\∀ j∈cv u,Der A j:=by
 cases h with
 | mk u hu h=>exact⟨u,hu,rfl,h⟩
theorem Der.in_closed {A B:List Upd} (hc:∀ u∈A,readyU B u=true->u∈B) {i:UId} (h:Der A i):hasU B i=true:=by
 induction h with
 | mk u hu _ ih=>exact hasU_iff.2 ⟨u,hc u hu (readyU_iff.2 ih),rfl⟩
structure Rpl where
 has:List Upd
 waits:List Upd
structure RplOk (A:List Upd) (r:Rpl):Prop where
 sh:StrU r.has
 sw:StrU r.waits
 all:∀ u,u∈A↔u∈r.has∨u∈r.waits
 apart:∀ u∈r.has,∀ v∈r.waits,u.id≠v.id
 had:∀ u∈r.has,Der A u.id
 wait:∀ u∈r.waits,¬ Der A u.id
theorem RplOk.unique {A:List Upd} {r s:Rpl} (h:RplOk A r) (g:RplOk A s):r=s:=by
 have key:∀ {r s:Rpl},RplOk A r->RplOk A s->(∀ u∈r.has,u∈s.has)/\∀ u∈r.waits,u∈s.waits:=by
  intro r s h g;refine⟨λu hu=>?_,λu hu=>?_⟩
  ·rcases (g.all u).1 ((h.all u).2 (.inl hu)) with h1|h1
   ·exact h1
   ·exact absurd (h.had u hu) (g.wait u h1)
  ·rcases (g.all u).1 ((h.all u).2 (.inr hu)) with h1|h1
   ·exact absurd (g.had u h1) (h.wait u hu)
   ·exact h1
 obtain⟨a1,a2⟩:=key h g;obtain⟨b1,b2⟩:=key g h;cases r;cases s;rw [Rpl.mk.injEq];exact⟨strU_ext h.sh g.sh λx=>⟨a1 x,b1 x⟩,strU_ext h.sw g.sw λx=>⟨a2 x,b2 x⟩⟩
theorem RplOk.congr {A B:List Upd} {r:Rpl} (hAB:∀ u,u∈A↔u∈B) (h:RplOk A r):RplOk B r :=
 ⟨h.sh,h.sw,λu=>(hAB u).symm.trans (h.all u),h.apart,λu hu=>(h.had u hu).mono λu hu=>(hAB u).1 hu,λu hu hd=>h.wait u hu (hd.mono λu hu=>(hAB u).2 hu)⟩
theorem RplOk.uniq {A:List Upd} {r:Rpl} (h:RplOk A r) {u v:Upd} (hu:u∈A) (hv:v∈A) (he:u.id=v.id):u=v:=by
 rcases (h.all u).1 hu with hu|hu<;>rcases (h.all v).1 hv with hv|hv
 ·exact h.sh.uniq hu hv he
 ·exact absurd he (h.apart u hu v hv)
 ·exact absurd he.symm (h.apart v hv u hu)
 ·exact h.sw.uniq hu hv he
structure RplGo (A:List Upd) (r:Rpl):Prop where
 sh:StrU r.has
 sw:StrU r.waits
 all:∀ u,u∈A↔u∈r.has∨u∈r.waits
 apart:∀ u∈r.has,∀ v∈r.waits,u.id≠v.id
 had:∀ u∈r.has,Der A u.id
theorem RplGo.done {A:List Upd} {r:Rpl} (h:RplGo A r) (hn:∀ u∈r.waits,readyU r.has u=false):RplOk A r:=by
 refine⟨h.sh,h.sw,h.all,h.apart,h.had,λu hu hd=>?_⟩
 have:=hd.in_closed (B:=r.has) λv hv hr=>by
  rcases (h.all v).1 hv with hv|hv
  ·exact hv
  ·rw [hn v hv] at hr;cases hr
 obtain⟨v,hv,he⟩:=hasU_iff.1 this;exact h.apart v hv u hu he
theorem had_der {A:List Upd} {r:Rpl} (h:∀ u∈r.has,Der A u.id) {i:UId} (hi:hasU r.has i=true):Der A i:=by
 obtain⟨v,hv,rfl⟩:=hasU_iff.1 hi;exact h v hv
theorem RplGo.move {A:List Upd} {r:Rpl} (h:RplGo A r) {u:Upd} (hu:u∈r.waits) (hr:readyU r.has u=true):RplGo A ⟨po r.has u,r.waits.filter λv=>!(v.id.same u.id)⟩:=by
 have hnh:hasU r.has u.id=false:=by
  cases hb:hasU r.has u.id with
  | false=>rfl
  | true =>
   obtain⟨v,hv,he⟩:=hasU_iff.1 hb;exact absurd he (h.apart v hv u hu)
 have hmem:∀ v,v∈r.waits.filter (λv=>!(v.id.same u.id))↔v∈r.waits/\v≠u:=by
  intro v;rw [List.mem_filter];refine and_congr_right λhv=>?_
  rw [Eu,<- Bool.not_eq_true,same_iff];exact not_congr ⟨λhe=>h.sw.uniq hv hu he,λhe=>by rw [he]⟩
 refine⟨insU_str h.sh hnh,List.Pairwise.filter _ h.sw,λv=>?_,λv hv w hw=>?_,λv hv=>?_⟩
 ·rw [h.all,insU_mem,hmem];by_cases hvu:v=u
  ·subst hvu;simp [hu]
  ·simp [hvu]
 ·obtain⟨hw1,hw2⟩:=(hmem w).1 hw;rcases insU_mem.1 hv with rfl|hv
  ·exact λhe=>hw2 (h.sw.uniq hw1 hu he.symm)
  ·exact h.apart v hv w hw1
 ·rcases insU_mem.1 hv with rfl|hv
  ·exact .mk v ((h.all v).2 (.inr hu)) λi hi=>had_der h.had (readyU_iff.1 hr i hi)
  ·exact h.had v hv
theorem RplOk.more {A:List Upd} {r:Rpl} (h:RplOk A r) {u:Upd} (hu:hasU r.has u.id=false) (hw:hasU r.waits u.id=false):RplGo (u::A) ⟨r.has,po r.waits u⟩:=by
 refine⟨h.sh,insU_str h.sw hw,λv=>?_,λv hv w hw' he=>?_,λv hv=>(h.had v hv).mono λx hx=>Ag _ hx⟩
 ·rw [Bh,h.all,insU_mem];exact⟨λh=>by rcases h with h|h|h;exact .inr (.inl h);exact .inl h;exact .inr (.inr h),λh=>by rcases h with h|h|h;exact .inr (.inl h);exact .inl h;exact .inr (.inr h)⟩
 ·rcases insU_mem.1 hw' with rfl|hw'
  ·have:=hasU_iff.2 ⟨v,hv,he⟩
   rw [hu] at this;cases this
  ·exact h.apart v hv w hw' he
inductive Reach (has:List Upd) (l:List UId):UId->Prop
 | base (i:UId) (h:i∈l) (hi:hasU has i=true):Reach has l i
 | step (u:Upd) (hu:u∈has) (h:Reach has l u.id) (j:UId) (hj:j∈cv u) (hh:hasU has j=true):Reach has l j
theorem Reach.has {has:List Upd} {l:List UId} {i:UId} (h:Reach has l i):hasU has i=true:=by cases h<;>assumption
theorem Reach.trans {has:List Upd} {l:List UId} {u:Upd} (hu:u∈has) (h:Reach has l u.id) {j:UId} (hj:Reach has (cv u) j):Reach has l j:=by
 induction hj with
 | base i h1 h2=>exact .step u hu h i h1 h2
 | step v hv _ j h1 h2 ih=>exact .step v hv ih j h1 h2
theorem Reach.first {has:List Upd} (hs:StrU has) {l:List UId} {i:UId} (h:Reach has l i):∃ j∈l,∃ v∈has,v.id=j/\(i=j∨Reach has (cv v) i):=by
 induction h with
 | base i h1 h2 =>
  obtain⟨v,hv,he⟩:=hasU_iff.1 h2;exact⟨i,h1,v,hv,he,.inl rfl⟩
 | step u hu _ k h1 h2 ih =>
  obtain⟨j,hj,v,hv,he,h3⟩:=ih;refine⟨j,hj,v,hv,he,.inr ?_⟩
  rcases h3 with h3|h3
  ·have huv:=hs.uniq hu hv (h3.trans he.symm);subst huv;exact .base k h1 h2
  ·exact .step u hu h3 k h1 h2
theorem der_no_round {has:List Upd} (hs:StrU has) {i:UId} (h:Der has i):∀ u∈has,u.id=i->¬ Reach has (cv u) u.id:=by
 induction h with
 | mk w hw _ ih =>
  intro u hu he hr;have huw:=hs.uniq hu hw he;subst huw;obtain⟨j,hj,v,hv,hvj,h1⟩:=hr.first hs;rcases h1 with h1|h1
  ·exact ih j hj u hu h1 hr
  ·refine ih j hj v hv hvj ?_;have hj':hasU has v.id=true:=hasU_iff.2 ⟨v,hv,rfl⟩;rw [<- hvj] at hj;exact .step u hu h1 v.id hj hj'
def cntR (has:List Upd) (c:Upd->Bool):Nat:=(has.filter c).length
theorem cnt_lt {has:List Upd} {c d:Upd->Bool} (h:∀ u∈has,c u=true->d u=true) (hx:∃ u∈has,c u=false/\d u=true):cntR has c<cntR has d:=by
 unfold cntR;obtain⟨x,hx,h1,h2⟩:=hx;obtain⟨a,b,rfl⟩:=List.append_of_mem hx;have hle:∀ l:List Upd,(∀ u∈l,c u=true->d u=true)->(l.filter c).length<=(l.filter d).length:=by
  intro l;induction l with
  | nil=>intro _;exact Ah _
  | cons y l ih =>
   intro hl;have ih:=ih λu hu=>hl u (Ag _ hu)
   have hy:=hl y (Ac ..);cases hc:c y with
   | true=>rw [D9 hc,D9 (hy hc),Bj,Bj];omega
   | false =>
    rw [Es (by rw [hc];simp)];cases hd:d y with
    | true=>rw [D9 hd,Bj];omega
    | false=>rw [Es (by rw [hd];simp)];exact ih
 rw [Du,Du,Es (by rw [h1];simp),D9 h2,Af,Af,Bj];have:=hle a λu hu=>h u (List.mem_append_left _ hu)
 have:=hle b λu hu=>h u (List.mem_append_right _ (Ag _ hu))
 omega
theorem no_round_der {has:List Upd} (hr:∀ u∈has,readyU has u=true) (hn:∀ u∈has,¬ Reach has (cv u) u.id):∀ u∈has,Der has u.id:=by
 classical
 have key:∀ (n:Nat) (u:Upd),u∈has->cntR has (λv=>decide (Reach has (cv u) v.id))<=n->Der has u.id:=by
  intro n;induction n with
  | zero =>
   intro u hu hc;refine .mk u hu λi hi=>?_
   obtain⟨v,hv,rfl⟩:=hasU_iff.1 (readyU_iff.1 (hr u hu) i hi);exfalso;have:v∈has.filter (λv=>decide (Reach has (cv u) v.id)):=List.mem_filter.2 ⟨hv,decide_eq_true (.base v.id hi (hasU_iff.2 ⟨v,hv,rfl⟩))⟩
   have:=List.length_pos_of_mem this
   unfold cntR at hc;omega
  | succ n ih =>
   intro u hu hc;refine .mk u hu λi hi=>?_
   obtain⟨v,hv,rfl⟩:=hasU_iff.1 (readyU_iff.1 (hr u hu) i hi);have hb:Reach has (cv u) v.id:=.base v.id hi (hasU_iff.2 ⟨v,hv,rfl⟩);refine ih v hv (Nat.le_of_lt_succ (A0 (cnt_lt (λw _ h=>?_) ⟨v,hv,?_,?_⟩) hc))
   ·exact decide_eq_true (hb.trans hv (of_decide_eq_true h))
   ·exact decide_eq_false (hn v hv)
   ·exact decide_eq_true hb
 exact λu hu=>key _ u hu (Ah _)
end Go.Proofs.YtapciiffpnociadGreat
