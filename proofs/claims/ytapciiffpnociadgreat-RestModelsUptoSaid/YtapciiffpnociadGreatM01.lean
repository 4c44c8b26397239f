/- Several texts in one: Gx GxOps GxMem. Condition: none. -/
import Derived.WalkKit
import Derived.Deep.Quiet
import Derived.Sort.LoopGhostIn
import Derived.OrdersIn
import Derived.TacticsIn
import Derived.RangeFuncRecord
import Derived.WalkSpells
import Derived.Orders
set_option linter.all false
open Array renaming getD_eq_getD_getElem?→Dk
open Bool renaming and_eq_true→Ad
open List renaming filterMap_cons→Bf,mem_cons_of_mem→Ah,mem_cons_self→Ae,toArray→F2
open Nat renaming add_assoc→Ek,beq→Aw,ble→B6,blt→As,eq_of_beq_eq_true→Aj,le_of_ble_eq_true→Ac,le_refl→Af,le_trans→Ar,lt_of_lt_of_le→Aq,ne_of_beq_eq_false→Bj,zero_le→Ai
open Option renaming getD_some→C4
namespace Go.Proofs.YtapciiffpnociadGreat
section
open Go Go.RowKit
class Bnds where
 B:Nat
 F:Nat
variable [Bnds]
inductive D where
 | int (k:IntKind) (n:Int)
 | bool (b:Bool)
 | str (s:ByteArray)
 | slice (es:Nat) (xs:List (List D))
 | ptr (ds:List D)
 | own (B:Nat) (x:D)
def lim (X:Nat->Prop) (B q:Nat):Nat->Prop:=λb=>X b∨match q with|0=>B<=b|_=>b<B
theorem lim_sub {X Y:Nat->Prop} {B q n:Nat} (h:∀ b,b<n->Y b->X b):∀ b,b<n->lim Y B q b->lim X B q b:=λb hb h2=>h2.imp (h b hb) id
inductive RepC:(Nat->Prop)->World->Value->D->Prop
 | int {X w k n} (h:(Lit.int k n).wf=true):RepC X w (.int k n) (.int k n)
 | bool {X w b}:RepC X w (.bool b) (.bool b)
 | str {X w s} (h:s.size<=maxLen):RepC X w (.string s) (.str s)
 | nil {X w es}:RepC X w (.slice none 0 0) (.slice es [])
 | zero {X w es a}:RepC X w (.slice (some a) 0 0) (.slice es [])
 | slice {X:Nat->Prop} {w:World} {b off n cap es:Nat} {xs:List (List D)} (c:Nat->Nat->Value) (hn:n=xs.length) (hc:n<=cap) (hm:cap<=maxLen) (hX:¬ X b) (hb:b<w.heap.size)
   (he:∀ i (h:i<xs.length),(xs[i]'h).length=es)
   (hcell:∀ i (h:i<xs.length) j (_:j<(xs[i]'h).length),w.cell? ⟨b,off+i*es+j,none⟩=some (c i j))
   (hrep:∀ i (h:i<xs.length) j (hj:j<(xs[i]'h).length),RepC X w (c i j) ((xs[i]'h)[j]'hj))
   (hz:Bnds.F<=b->∀ i (h:i<xs.length) j (_:j<(xs[i]'h).length),w.frozen? ⟨b,off+i*es+j,none⟩=false) :
   RepC X w (.slice (some ⟨b,off,none⟩) n cap) (.slice es xs)
 | ptr {X:Nat->Prop} {w:World} {b off:Nat} {ds:List D} (c:Nat->Value) (hX:¬ X b) (hb:b<w.heap.size) (hcell:∀ j (_:j<ds.length),w.cell? ⟨b,off+j,none⟩=some (c j)) (hrep:∀ j (hj:j<ds.length),RepC X w (c j) (ds[j]'hj)) (hz:Bnds.F<=b->∀ j (_:j<ds.length),w.frozen? ⟨b,off+j,none⟩=false) :
   RepC X w (.pointer (some ⟨b,off,none⟩)) (.ptr ds)
 | own {X:Nat->Prop} {w:World} {B:Nat} {v:Value} {x:D} (h:RepC (lim X B 1) w v x):RepC X w v (.own B x)
theorem gq {w w':World} {b o:Nat} (h:w'.heap[b]?=w.heap[b]?):w'.frozen? ⟨b,o,none⟩=w.frozen? ⟨b,o,none⟩:=by simp only [World.frozen?,h]
theorem k7 {w:World} {b o:Nat} {c:Array Value} {t:TypeId} (h:w.heap[b]?=some (.cells c t (0,0))):w.frozen? ⟨b,o,none⟩=false:=by simp [World.frozen?,h]
theorem RepC.keep {X Y:Nat->Prop} {w w':World} (hs:w.heap.size<=w'.heap.size) (hb:∀ b,b<w.heap.size->¬ X b->w'.heap[b]?=w.heap[b]?) (hY:∀ b,b<w.heap.size->Y b->X b)
  {v:Value} {x:D} (h:RepC X w v x):RepC Y w' v x:=by
 induction h generalizing Y with
 | int h=>exact .int h
 | bool=>exact .bool
 | str h=>exact .str h
 | nil=>exact .nil
 | zero=>exact .zero
 | slice c hn hc hm hX hb' he hcell hrep hz ih =>
  exact .slice c hn hc hm (λhy=>hX (hY _ hb' hy)) (Aq hb' hs) he
   (λi h j hj=>(World.cell?_of_block (hb _ hb' hX)).trans (hcell i h j hj)) (λi h j hj=>ih i h j hj hs hb hY) (λhF i h j hj=>(gq (hb _ hb' hX)).trans (hz hF i h j hj))
 | ptr c hX hb' hcell hrep hz ih =>
  exact .ptr c (λhy=>hX (hY _ hb' hy)) (Aq hb' hs) (λj hj=>(World.cell?_of_block (hb _ hb' hX)).trans (hcell j hj)) (λj hj=>ih j hj hs hb hY) (λhF j hj=>(gq (hb _ hb' hX)).trans (hz hF j hj))
 | own h ih=>exact .own (ih hs (λb h1 h3=>hb b h1 λh4=>h3 (.inl h4)) (lim_sub hY))
inductive MK where
 | str (s:ByteArray)
 | pair (a b:Int)
def MK.val:MK->Value
 | .str s=>.string s
 | .pair a b=>.agg #[.int .i64 a,.int .i64 b]
def MK.ok (kd:Bool):MK->Prop
 | .str s=>kd=true/\s.size<=maxLen
 | .pair a b=>kd=false/\(Lit.int .i64 a).wf=true/\(Lit.int .i64 b).wf=true
def Stamps (es:Array MapEntry) (clock:Nat):Prop:=es.toList.Pairwise (λx y=>x.born≠y.born)/\∀ x∈es.toList,x.born<clock
structure MapIs (w:World) (b:Nat) (kd:Bool) (kvs:List (MK×Int)):Prop where
 es:∃ (es:Array MapEntry) (clock:Nat),w.heap[b]?=some (.map es clock)/\es.toList.map (λx=>(x.key,x.val))=kvs.map (λp=>(p.1.val,Value.int .i64 p.2))/\Stamps es clock
 keys:kvs.Pairwise λp q=>p.1≠q.1
 wf:∀ p∈kvs,p.1.ok kd/\(Lit.int .i64 p.2).wf=true
theorem MapIs.keep {w w':World} {b:Nat} {kd:Bool} {kvs:List (MK×Int)} (h:MapIs w b kd kvs) (hb:∀ es clock,w.heap[b]?=some (.map es clock)->w'.heap[b]?=some (.map es clock)):MapIs w' b kd kvs :=
 let ⟨es,clock,h1,h2⟩:=h.es
 ⟨⟨es,clock,hb _ _ h1,h2⟩,h.keys,h.wf⟩
inductive SV where
 | junk
 | d (x:D)
 | nils
 | pd (ds:List D)
 | loc (id off:Nat)
 | row (id:Nat)
 | mp (id:Nat)
 | md (kd:Bool) (kvs:List (MK×Int))
 | prow (id k es off:Nat)
 | sl (id off n cap:Nat)
 | rsl (id es k n:Nat)
 | rg (B q:Nat) (x:D)
 | fn (f:FuncId) (caps:List SV)
 | agg (ss:List SV)
 | tup (ss:List SV)
 | val (v:Value)
inductive ShpC (X:Nat->Prop) (w:World):Value->D->Prop
 | int {k n m} (h:(Lit.int k m).wf=true):ShpC X w (.int k m) (.int k n)
 | bool {b c}:ShpC X w (.bool b) (.bool c)
 | str {s t} (h:s.size<=maxLen):ShpC X w (.string s) (.str t)
 | nil {es}:ShpC X w (.slice none 0 0) (.slice es [])
 | zero {es a}:ShpC X w (.slice (some a) 0 0) (.slice es [])
 | slice {b off n cap es:Nat} {xs:List (List D)} (c:Nat->Nat->Value) (hn:n=xs.length) (hc:n<=cap) (hm:cap<=maxLen) (hX:¬ X b) (hb:b<w.heap.size)
   (he:∀ i (h:i<xs.length),(xs[i]'h).length=es)
   (hcell:∀ i (h:i<xs.length) j (_:j<(xs[i]'h).length),w.cell? ⟨b,off+i*es+j,none⟩=some (c i j))
   (hrep:∀ i (h:i<xs.length) j (hj:j<(xs[i]'h).length),ShpC X w (c i j) ((xs[i]'h)[j]'hj))
   (hz:Bnds.F<=b->∀ i (h:i<xs.length) j (_:j<(xs[i]'h).length),w.frozen? ⟨b,off+i*es+j,none⟩=false) :
   ShpC X w (.slice (some ⟨b,off,none⟩) n cap) (.slice es xs)
 | ptr {b off:Nat} {ds:List D} (c:Nat->Value) (hX:¬ X b) (hb:b<w.heap.size) (hcell:∀ j (_:j<ds.length),w.cell? ⟨b,off+j,none⟩=some (c j)) (hrep:∀ j (hj:j<ds.length),ShpC X w (c j) (ds[j]'hj)) (hz:Bnds.F<=b->∀ j (_:j<ds.length),w.frozen? ⟨b,off+j,none⟩=false) :
   ShpC X w (.pointer (some ⟨b,off,none⟩)) (.ptr ds)
 | own {B:Nat} {v:Value} {x:D} (h:ShpC X w v x):ShpC X w v (.own B x)
theorem ShpC.anyX {X Y:Nat->Prop} {w:World} (hY:∀ b,Y b->X b) {v:Value} {x:D} (h:ShpC X w v x):ShpC Y w v x:=by
 induction h with
 | int h=>exact .int h
 | bool=>exact .bool
 | str h=>exact .str h
 | nil=>exact .nil
 | zero=>exact .zero
 | slice c hn hc hm hX hb' he hcell hrep hz ih=>exact .slice c hn hc hm (λhy=>hX (hY _ hy)) hb' he hcell ih hz
 | ptr c hX hb' hcell hrep hz ih=>exact .ptr c (λhy=>hX (hY _ hy)) hb' hcell ih hz
 | own h ih=>exact .own ih
theorem RepC.shp {X:Nat->Prop} {w:World} {v:Value} {x:D} (h:RepC X w v x):ShpC X w v x:=by
 induction h with
 | int h=>exact .int h
 | bool=>exact .bool
 | str h=>exact .str h
 | nil=>exact .nil
 | zero=>exact .zero
 | slice c hn hc hm hX hb he hcell hrep hz ih=>exact .slice c hn hc hm hX hb he hcell ih hz
 | ptr c hX hb hcell hrep hz ih=>exact .ptr c hX hb hcell ih hz
 | own h ih=>exact .own (ih.anyX λ_ h=>.inl h)
theorem ShpC.keep {X Y:Nat->Prop} {w w':World} (hs:w.heap.size<=w'.heap.size) (hb:∀ b,b<w.heap.size->¬ X b->w'.heap[b]?=w.heap[b]?) (hY:∀ b,b<w.heap.size->Y b->X b)
  {v:Value} {x:D} (h:ShpC X w v x):ShpC Y w' v x:=by
 induction h with
 | int h=>exact .int h
 | bool=>exact .bool
 | str h=>exact .str h
 | nil=>exact .nil
 | zero=>exact .zero
 | slice c hn hc hm hX hb' he hcell hrep hz ih =>
  exact .slice c hn hc hm (λhy=>hX (hY _ hb' hy)) (Aq hb' hs) he
   (λi h j hj=>(World.cell?_of_block (w:=w) (hb _ hb' hX)).trans (hcell i h j hj)) ih (λhF i h j hj=>(gq (w:=w) (hb _ hb' hX)).trans (hz hF i h j hj))
 | ptr c hX hb' hcell hrep hz ih =>
  exact .ptr c (λhy=>hX (hY _ hb' hy)) (Aq hb' hs) (λj hj=>(World.cell?_of_block (w:=w) (hb _ hb' hX)).trans (hcell j hj)) ih (λhF j hj=>(gq (w:=w) (hb _ hb' hX)).trans (hz hF j hj))
 | own h ih=>exact .own ih
def RgC (X:Nat->Prop) (w:World) (B q:Nat) (v:Value) (x:D):Prop:=B<=w.heap.size/\match q with|2=>ShpC (lim X B 2) w v x|q=>RepC (lim X B q) w v x
theorem RgC.keep {X Y:Nat->Prop} {w w':World} {B q:Nat} (hs:w.heap.size<=w'.heap.size) (hb:∀ b,b<w.heap.size->¬ X b->w'.heap[b]?=w.heap[b]?) (hY:∀ b,b<w.heap.size->Y b->X b)
  {v:Value} {x:D} (h:RgC X w B q v x):RgC Y w' B q v x:=by
 refine⟨Ar h.1 hs,?_⟩
 have h2:=h.2;split
 ·exact ShpC.keep hs (λb h1 h3=>hb b h1 λh4=>h3 (.inl h4)) (lim_sub hY) h2
 ·split at h2
  ·rename_i h5;exact absurd rfl h5
  ·exact RepC.keep hs (λb h1 h3=>hb b h1 λh4=>h3 (.inl h4)) (lim_sub hY) h2
inductive HB where
 | blk (ty:TypeId) (cs:List SV)
 | row (ty:TypeId) (es:Nat) (xs:List (List D))
 | map (kd:Bool) (kvs:List (MK×Int))
abbrev Sl:=List (Nat×SV)
abbrev Hp:=List (Nat×HB)
structure Env where
 β:Nat->Nat
 η:Nat->Value
 dom:Nat->Prop
def Env.an (e:Env) (j:Nat):Nat×Value:=(e.β j,e.η j)
theorem Env.an_ext {e e':Env} {j:Nat} (h:e'.β j=e.β j/\e'.η j=e.η j):e'.an j=e.an j:=Prod.ext h.1 h.2
theorem Env.an_β {e e':Env} {j:Nat} (h:e'.an j=e.an j):e'.β j=e.β j:=congrArg Prod.fst h
theorem Env.an_η {e e':Env} {j:Nat} (h:e'.an j=e.an j):e'.η j=e.η j:=congrArg Prod.snd h
abbrev lo (k:Nat):Nat->Prop:=λi=>i<k
instance:Coe Nat (Nat->Prop):=⟨lo⟩
mutual
def Rel (X:Nat->Prop) (e:Env) (w:World):SV->Value->Prop
 | .junk,_=>True
 | .d x,v=>RepC X w v x
 | .nils,v=>v = .slice none 0 0
 | .pd ds,v=>∃ b off,v = .pointer (some ⟨b,off,none⟩)/\b<w.heap.size/\¬ X b/\∀ j (h:j<ds.length),∃ u,w.cell? ⟨b,off+j,none⟩=some u/\RepC X w u ds[j]
 | .loc id off,v=>e.dom id/\v = .pointer (some ⟨e.β id,off,none⟩)
 | .row id,v=>e.dom id/\v=e.η id/\v.oneCell'=true
 | .mp id,v=>e.dom id/\v = .map (some (e.β id))
 | .md kd kvs,v=>∃ b,v = .map (some b)/\b<w.heap.size/\¬ X b/\MapIs w b kd kvs
 | .prow id k es off,v=>e.dom id/\∃ g n cap,e.η id = .slice (some ⟨g,0,none⟩) n cap/\v = .pointer (some ⟨g,k*es+off,none⟩)
 | .sl id off n cap,v=>e.dom id/\n<=cap/\cap<=maxLen/\∃ o,v = .slice (some ⟨e.β id,o,none⟩) n cap/\(0<cap->o=off)
 | .rsl id es k n,v=>e.dom id/\v.oneCell'=true/\((e.η id = .slice none 0 0/\v = .slice none 0 0/\k=0/\n=0)∨∃ g n0 cap o,e.η id = .slice (some ⟨g,0,none⟩) n0 cap/\k<=cap/\cap<=maxLen/\n<=cap-k/\v = .slice (some ⟨g,o,none⟩) n (cap-k)/\(k<cap∨k=0->o=k*es))
 | .rg B q x,v=>RgC X w B q v x
 | .fn f caps,v=>∃ vs,v = .func (.func f) #[] (F2 vs)/\RelL X e w caps vs
 | .agg ss,v=>∃ vs,v = .agg (F2 vs)/\RelL X e w ss vs
 | .tup ss,v=>∃ vs,v = .tuple (F2 vs)/\RelL X e w ss vs
 | .val u,v=>v=u
def RelL (X:Nat->Prop) (e:Env) (w:World):List SV->List Value->Prop
 | [],[]=>True
 | s::ss,v::vs=>Rel X e w s v/\RelL X e w ss vs
 | _,_=>False
end
mutual
theorem Rel.keep {X Y:Nat->Prop} {e:Env} {w w':World} (hs:w.heap.size<=w'.heap.size) (hb:∀ b,b<w.heap.size->¬ X b->w'.heap[b]?=w.heap[b]?) (hY:∀ b,b<w.heap.size->Y b->X b) :
  ∀ (s:SV) (v:Value),Rel X e w s v->Rel Y e w' s v
 | .junk,_,_=>trivial
 | .d _,_,h=>RepC.keep hs hb hY h
 | .nils,_,h=>h
 | .pd _,_,⟨b,off,h1,h2,h3,h4⟩=>⟨b,off,h1,Aq h2 hs,λhy=>h3 (hY _ h2 hy),λj hj =>
   let ⟨u,g1,g2⟩:=h4 j hj
   ⟨u,(World.cell?_of_block (w:=w) (hb _ h2 h3)).trans g1,RepC.keep hs hb hY g2⟩⟩
 | .loc _ _,_,h=>h
 | .row _,_,h=>h
 | .mp _,_,h=>h
 | .md _ _,_,⟨b,h1,h2,h3,h4⟩=>⟨b,h1,Aq h2 hs,λhy=>h3 (hY _ h2 hy),h4.keep λ_ _ hh=>(hb _ h2 h3).trans hh⟩
 | .prow _ _ _ _,_,h=>h
 | .sl _ _ _ _,_,h=>h
 | .rsl _ _ _ _,_,h=>h
 | .rg _ _ _,_,h=>RgC.keep hs hb hY h
 | .fn _ caps,_,⟨vs,h1,h2⟩=>⟨vs,h1,RelL.keep hs hb hY caps vs h2⟩
 | .agg ss,_,⟨vs,h1,h2⟩=>⟨vs,h1,RelL.keep hs hb hY ss vs h2⟩
 | .tup ss,_,⟨vs,h1,h2⟩=>⟨vs,h1,RelL.keep hs hb hY ss vs h2⟩
 | .val _,_,h=>h
theorem RelL.keep {X Y:Nat->Prop} {e:Env} {w w':World} (hs:w.heap.size<=w'.heap.size) (hb:∀ b,b<w.heap.size->¬ X b->w'.heap[b]?=w.heap[b]?) (hY:∀ b,b<w.heap.size->Y b->X b) :
  ∀ (ss:List SV) (vs:List Value),RelL X e w ss vs->RelL Y e w' ss vs
 | [],[],_=>trivial
 | [],_::_,h=>h.elim
 | _::_,[],h=>h.elim
 | s::ss,v::vs,⟨h1,h2⟩=>⟨Rel.keep hs hb hY s v h1,RelL.keep hs hb hY ss vs h2⟩
end
theorem RelL.length {X e w}:∀ (ss:List SV) (vs:List Value),RelL X e w ss vs->ss.length=vs.length
 | [],[],_=>rfl
 | [],_::_,h=>h.elim
 | _::_,[],h=>h.elim
 | _::ss,_::vs,⟨_,h⟩=>by simp [RelL.length ss vs h]
theorem RelL.get {X e w}:∀ (ss:List SV) (vs:List Value),RelL X e w ss vs->∀ (i:Nat) (s:SV),ss[i]?=some s->∃ v,vs[i]?=some v/\Rel X e w s v
 | [],[],_,_,_,h=>by simp at h
 | [],_::_,h,_,_,_=>h.elim
 | _::_,[],h,_,_,_=>h.elim
 | s::ss,v::vs,⟨h1,h2⟩,i,s',hi=>by
  cases i with
  | zero=>simp at hi;subst hi;exact⟨v,by simp,h1⟩
  | succ i=>simpa using RelL.get ss vs h2 i s' (by simpa using hi)
theorem RelL.mk {X e w}:∀ (ss:List SV) (vs:List Value),ss.length=vs.length->(∀ (i:Nat) (s:SV) (v:Value),ss[i]?=some s->vs[i]?=some v->Rel X e w s v)->RelL X e w ss vs
 | [],[],_,_=>trivial
 | [],_::_,h,_=>by simp at h
 | _::_,[],h,_=>by simp at h
 | s::ss,v::vs,h,hr=>⟨hr 0 s v (by simp) (by simp),RelL.mk ss vs (by simpa using h) λi s' v' h1 h2=>hr (i+1) s' v' (by simpa using h1) (by simpa using h2)⟩
theorem RelL.set {X e w}:∀ (ss:List SV) (vs:List Value),RelL X e w ss vs->∀ (i:Nat) (s:SV) (v:Value),Rel X e w s v->RelL X e w (ss.set i s) (vs.set i v)
 | [],[],_,_,_,_,_=>trivial
 | [],_::_,h,_,_,_,_=>h.elim
 | _::_,[],h,_,_,_,_=>h.elim
 | s::ss,v::vs,⟨h1,h2⟩,i,s',v',hr=>by
  cases i with
  | zero=>exact⟨hr,h2⟩
  | succ i=>exact⟨h1,RelL.set ss vs h2 i s' v' hr⟩
def HB.owned (e:Env):Nat×HB->Option Nat
 | (id,.blk _ _)=>some (e.β id)
 | (id,.row _ _ _)=>(e.η id).ownBlock
 | (id,.map _ _)=>some (e.β id)
def ae (e:Env) (H:Hp):List Nat:=H.filterMap (HB.owned e)
def HRel (X:Nat->Prop) (e:Env) (w:World):Nat×HB->Prop
 | (id,.blk ty cs)=>∃ vs,w.heap[e.β id]?=some (.cells (F2 vs) ty (0,0))/\RelL X e w cs vs/\∀ v∈vs,v.oneCell'=true
 | (id,.row ty es xs)=>∃ vs,w.ownsRow 0 ty es (e.η id) xs.length vs/\(∀ i (h:i<xs.length),(xs[i]'h).length=es)/\(∀ v∈vs,v.oneCell'=true) /\
   ∀ i (h:i<xs.length) j (hj:j<(xs[i]'h).length),∃ v,vs[i*es+j]?=some v/\RepC X w v ((xs[i]'h)[j]'hj)
 | (id,.map kd kvs)=>MapIs w (e.β id) kd kvs
inductive Sh where
 | int (k:IntKind)
 | bool
 | str
 | slice (e:TypeId)
 | struct (fs:List (Nat×TypeId×Nat))
 | ptr (e:TypeId)
 | map (k e:TypeId)
 | other
structure TI where
 sh:Sh
 cells:Nat
 bytes:Nat
 zero:List Value
 eqs:Bool
def nx (P:Program):TypeDesc->Sh
 | .int k=>.int k
 | .bool=>.bool
 | .string=>.str
 | .slice e=>.slice e
 | .struct fs=>.struct (fs.toList.map λf=>(f.offset,f.type,((P.info? f.type).map (·.size)).getD 0))
 | .pointer e=>.ptr e
 | .map k e=>.map k e
 | _=>.other
def flatEqB (P:Program) (t:TypeId):Bool:=match P.underlying t with
 | some (.struct fs) => !P.stoodInHeld t && (!P.eqGuardType P.depth t && fs.toList.all λf => f.name != "_")
 | _=>false
def tiOf (P:Program) (t:TypeId):Option TI :=
 match P.underlying t,P.info? t with
 | some u,some i=>match i.zero with
  | some z=>some ⟨nx P u,i.size,i.bytes,z.cells.toList,flatEqB P t⟩
  | none=>none
 | _,_=>none
def aj:List (Nat×TI)->Nat->TI
 | [],_=>⟨.other,0,0,[],false⟩
 | (d,s)::L,t=>match Aw d t with|true=>s|false=>aj L t
def dc (P:Program) (τ:List (Nat×TI)):Prop:=τ.map (λp=>tiOf P p.1)=τ.map (λp=>some p.2)
theorem tiGet_ok {P:Program}:∀ {τ:List (Nat×TI)},dc P τ->∀ t,(aj τ t).sh≠.other->tiOf P t=some (aj τ t)
 | [],_,_,hn=>absurd rfl hn
 | (d,s)::L,h,t,hn=>by
  simp only [dc,List.map_cons,List.cons.injEq] at h
  simp only [aj] at hn ⊢
  cases hb:Aw d t with
  | true=>have:=Aj hb;subst this;exact h.1
  | false=>rw [hb] at hn;exact tiGet_ok (τ:=L) h.2 t hn
structure Pan where
 may:Value->Sl->Hp->Prop
 base:List Deferred
structure Ctx where
 P:Program
 τ:List (Nat×TI)
 τok:dc P τ
 O:Nat->Prop
 w0:World
 E0:Nat->Prop
 n:Nat
 J:Nat
 β0:Nat->Nat×Value
 rd:Option Nat
 pan:Pan
 mks:Bool
 dr:Bool
structure Beld (dr:Bool) (B:Nat) (w w':World):Prop extends Below B w w' where
 drawn:dr=true->w.drawn<=w'.drawn
theorem Beld.refl (dr:Bool) (B:Nat) (w:World):Beld dr B w w:=⟨Below.refl B w,λ_=>Af _⟩
theorem Beld.trans {dr:Bool} {B:Nat} {a b c:World} (h:Beld dr B a b) (k:Beld dr B b c):Beld dr B a c:=⟨h.toBelow.trans k.toBelow,λhd=>Ar (h.drawn hd) (k.drawn hd)⟩
theorem Beld.mono {dr:Bool} {B B':Nat} {w w':World} (h:Beld dr B w w') (hB:B'<=B):Beld dr B' w w':=⟨h.toBelow.mono hB,h.drawn⟩
theorem Beld.drew {dr:Bool} {B:Nat} {a w:World} (h:Beld dr B a w):Beld dr B a w.drew:=⟨h.toBelow.drew,λhd=>Ar (h.drawn hd) (Nat.le_succ _)⟩
abbrev cy:Pan:=⟨λ_ _ _=>False,[]⟩
class NoDr (Γ:Ctx):Prop where
 no:Γ.dr=false
instance {P τ τok O w0 E0 n J β0 rd pan mks}:NoDr ⟨P,τ,τok,O,w0,E0,n,J,β0,rd,pan,mks,false⟩:=⟨rfl⟩
theorem Beld.no {Γ:Ctx} [h:NoDr Γ] {B:Nat} {w w':World} (hb:Below B w w'):Beld Γ.dr B w w':=⟨hb,λhd=>by rw [h.no] at hd;cases hd⟩
theorem NoDr.any {Γ:Ctx} [h:NoDr Γ] {p:Prop} (hd:Γ.dr=true):p:=by rw [h.no] at hd;cases hd
def mark (r:Nat):Deferred:={ target:=.collected r,args:=#[] }
def Marks (n:Nat) (ro:Bool) (bs:List Deferred) (ds:List Deferred) (w:World):Prop:=∃ rs:List Nat,ds=rs.map mark++bs/\(ro=false->rs=[])/\rs.Nodup/\∀ r∈rs,n<=r/\w.heap[r]?=some (.deferred (some []))
theorem Marks.nil {n:Nat} {ro:Bool} {bs:List Deferred} {w:World}:Marks n ro bs bs w:=⟨[],rfl,λ_=>rfl,.nil,λ_ h=>nomatch h⟩
theorem Marks.keep {n:Nat} {ro:Bool} {bs ds:List Deferred} {w w':World} (h:Marks n ro bs ds w) (hk:∀ r:Nat,w.heap[r]?=some (Obj.deferred (some []))->w'.heap[r]?=w.heap[r]?):Marks n ro bs ds w' :=
 let ⟨rs,h1,h0,h2,h3⟩:=h
 ⟨rs,h1,h0,h2,λr hr=>⟨(h3 r hr).1,(hk r (h3 r hr).2).trans (h3 r hr).2⟩⟩
theorem co {w:World} {r:Nat} {o:Obj} (h:w.heap[r]?=some o):r<w.heap.size:=(Array.getElem?_eq_some_iff.1 h).1
theorem Marks.below {n:Nat} {ro:Bool} {bs ds:List Deferred} {w w':World} (h:Marks n ro bs ds w) (hb:Below w.heap.size w w'):Marks n ro bs ds w' :=
 h.keep λr hr=>hb.block r (co hr)
def Ctx.X (Γ:Ctx) (e:Env) (H:Hp):Nat->Prop:=λb=>Γ.O b∨b∈ae e H
def Sl.get:Sl->Nat->SV
 | [],_=>.junk
 | (d,s)::L,t=>match Aw d t with|true=>s|false=>Sl.get L t
def Tabs (P:Program) (E:Nat->Prop) (w:World):Prop:=Bnds.B<=w.heap.size/\Bnds.F<=w.heap.size/\∀ b,E b->Bnds.B<=b
theorem Tabs.grow {P:Program} {E:Nat->Prop} {w w':World} (h:Tabs P E w) (hs:w.heap.size<=w'.heap.size):Tabs P E w':=⟨Ar h.1 hs,Ar h.2.1 hs,h.2.2⟩
theorem Tabs.sub {P:Program} {E E':Nat->Prop} {w:World} (h:Tabs P E w) (ho:∀ b,E' b->E b):Tabs P E' w:=⟨h.1,h.2.1,λb hb=>h.2.2 b (ho b hb)⟩
structure Heap (Γ:Ctx) (k:Nat->Prop) (H:Hp) (e:Env) (w:World):Prop where
 top:∀ i,e.dom i↔k i
 heap:∀ p∈H,e.dom p.1/\HRel (Γ.X e H) e w p
 ids:(H.map (·.1)).Nodup
 nodup:(ae e H).Nodup
 mine:∀ b∈ae e H,(Γ.E0 b∨Γ.w0.heap.size<=b)/\¬ Γ.O b
 os:w.os=Γ.w0.os
 tape:w.tape=Γ.w0.tape
 output:w.output=Γ.w0.output
 drawn:Γ.dr=true->Γ.w0.drawn<=w.drawn
 size:Γ.w0.heap.size<=w.heap.size
 block:∀ b,b<Γ.w0.heap.size->¬ Γ.E0 b->w.heap[b]?=Γ.w0.heap[b]?
 obound:∀ b,Γ.O b->b<Γ.w0.heap.size/\¬ Γ.E0 b
 tabs:Tabs Γ.P Γ.E0 Γ.w0
 jle:∀ j,j<Γ.J->k j
 anchor:∀ j,j<Γ.J->e.an j=Γ.β0 j
structure Models (Γ:Ctx) (k:Nat->Prop) (L:Sl) (H:Hp) (e:Env) (a:Act) (w:World):Prop extends Heap Γ k H e w where
 defers:Marks Γ.w0.heap.size Γ.mks Γ.pan.base a.defers w
 len:a.tmps.size=Γ.n
 slot:∀ t,Rel (Γ.X e H) e w (L.get t) (a.tmps.getD t undef)
theorem Heap.above {Γ:Ctx} {k:Nat->Prop} {H:Hp} {e:Env} {w:World} (h:Heap Γ k H e w):∀ b,b∈ae e H->Bnds.B<=b:=λb hb=>(h.mine b hb).1.elim (h.tabs.2.2 b) (Ar h.tabs.1)
theorem Heap.tabsAt {Γ:Ctx} {k:Nat->Prop} {H:Hp} {e:Env} {w:World} (h:Heap Γ k H e w):Tabs Γ.P (λb=>b∈ae e H) w:=⟨Ar h.tabs.1 h.size,Ar h.tabs.2.1 h.size,h.above⟩
theorem Heap.lt {Γ:Ctx} {k:Nat->Prop} {H:Hp} {e:Env} {w:World} (h:Heap Γ k H e w):∀ b∈ae e H,b<w.heap.size:=by
 intro b hb;obtain⟨p,hp,hb⟩:=List.mem_filterMap.1 hb;have hr:=(h.heap p hp).2;obtain⟨id,hbk⟩:=p;cases hbk with
 | blk ty cs =>
  obtain⟨vs,h1,_⟩:=hr;simp [HB.owned] at hb;subst hb;exact (Array.getElem?_eq_some_iff.1 h1).1
 | row ty es xs =>
  obtain⟨vs,h1,_⟩:=hr;exact (h1.lt b hb).2
 | map kd kvs =>
  obtain⟨⟨es,clock,h1,_⟩,_,_⟩:=hr;simp [HB.owned] at hb;subst hb;exact (Array.getElem?_eq_some_iff.1 h1).1
def plainObj:Obj->Bool
 | .cells _ _ _=>true
 | .map _ _=>true
 | _=>false
theorem Heap.owned_cells {Γ:Ctx} {k:Nat->Prop} {H:Hp} {e:Env} {w:World} (h:Heap Γ k H e w) {b:Nat} (hb:b∈ae e H):∃ o,w.heap[b]?=some o/\plainObj o=true:=by
 obtain⟨p,hp,hb⟩:=List.mem_filterMap.1 hb;have hr:=(h.heap p hp).2;obtain⟨id,hbk⟩:=p;cases hbk with
 | blk ty cs =>
  obtain⟨vs,h1,_⟩:=hr;simp [HB.owned] at hb;subst hb;exact⟨_,h1,rfl⟩
 | row ty es xs =>
  obtain⟨vs,h1,_⟩:=hr;rcases h1.2 with ⟨hv,_⟩|⟨g,cap,cur,hv,_,hh,_⟩
  ·simp [HB.owned,hv,Value.ownBlock] at hb
  ·simp [HB.owned,hv,Value.ownBlock] at hb;subst hb;exact⟨_,hh,rfl⟩
 | map kd kvs =>
  obtain⟨⟨es,clock,h1,_⟩,_,_⟩:=hr;simp [HB.owned] at hb;subst hb;exact⟨_,h1,rfl⟩
theorem Heap.owned_mark {Γ:Ctx} {k:Nat->Prop} {H:Hp} {e:Env} {w:World} (h:Heap Γ k H e w) {r:Nat} (hr:w.heap[r]?=some (Obj.deferred (some []))):r ∉ ae e H:=by
 intro hb;obtain⟨o,h1,h2⟩:=h.owned_cells hb;rw [hr] at h1;cases h1;cases h2
theorem HRel.keep {X Y:Nat->Prop} {e:Env} {w w':World} (hs:w.heap.size<=w'.heap.size) (hb:∀ b,b<w.heap.size->¬ X b->w'.heap[b]?=w.heap[b]?) (hY:∀ b,b<w.heap.size->Y b->X b)
  (p:Nat×HB) (ho:∀ b,HB.owned e p=some b->w'.heap[b]?=w.heap[b]?) (h:HRel X e w p):HRel Y e w' p:=by
 obtain⟨id,hbk⟩:=p;cases hbk with
 | blk ty cs =>
  obtain⟨vs,h1,h2,h3⟩:=h;exact⟨vs,(ho _ rfl).trans h1,RelL.keep hs hb hY _ _ h2,h3⟩
 | row ty es xs =>
  obtain⟨vs,h1,h2,h3,h4⟩:=h;refine⟨vs,?_,h2,h3,λi hi j hj=>?_⟩
  ·refine⟨h1.1,?_⟩
   rcases h1.2 with h5|⟨g,cap,cur,hv,hg,hh,r⟩
   ·exact Or.inl h5
   ·exact Or.inr ⟨g,cap,cur,hv,hg,(ho g (by simp [HB.owned,hv,Value.ownBlock])).trans hh,r⟩
  ·obtain⟨v,g1,g2⟩:=h4 i hi j hj;exact⟨v,g1,RepC.keep hs hb hY g2⟩
 | map kd kvs=>exact MapIs.keep h λes clock h1=>(ho _ rfl).trans h1
theorem Heap.below {Γ:Ctx} {k:Nat->Prop} {H:Hp} {e:Env} {w w':World} (h:Heap Γ k H e w) (hb:Beld Γ.dr w.heap.size w w'):Heap Γ k H e w' where
 top:=h.top
 heap p hp:=⟨(h.heap p hp).1,HRel.keep hb.size (λb hb' _=>hb.block b hb') (λ_ _ hy=>hy) p (λb ho=>hb.block b (h.lt b (List.mem_filterMap.2 ⟨p,hp,ho⟩))) (h.heap p hp).2⟩
 ids:=h.ids
 nodup:=h.nodup
 mine:=h.mine
 os:=hb.os.trans h.os
 tape:=hb.tape.trans h.tape
 output:=hb.output.trans h.output
 drawn hd:=Ar (h.drawn hd) (hb.drawn hd)
 size:=Ar h.size hb.size
 block b h1 h2:=(hb.block b (Aq h1 h.size)).trans (h.block b h1 h2)
 obound:=h.obound
 tabs:=h.tabs
 jle:=h.jle
 anchor:=h.anchor
theorem Models.below {Γ:Ctx} {k:Nat->Prop} {L:Sl} {H:Hp} {e:Env} {a:Act} {w w':World} (h:Models Γ k L H e a w) (hb:Beld Γ.dr w.heap.size w w'):Models Γ k L H e a w' where
 toHeap:=h.toHeap.below hb
 defers:=h.defers.below hb.toBelow
 len:=h.len
 slot t:=Rel.keep hb.size (λb hb' _=>hb.block b hb') (λ_ _ hy=>hy) _ _ (h.slot t)
theorem Sl.get_cons (d:Nat) (s:SV) (L:Sl) (t:Nat):Sl.get ((d,s)::L) t=if d=t then s else Sl.get L t:=by
 simp only [Sl.get];cases h:Aw d t with
 | true=>rw [if_pos (Aj h)]
 | false=>rw [if_neg (Bj h)]
theorem Act.getD_put (a:Act) (d:Nat) (v:Value) (t:Nat) (hd:d<a.tmps.size):(a.put (some d) v).tmps.getD t undef=if d=t then v else a.tmps.getD t undef:=by
 simp only [Act.put,Dk,Array.getElem?_setIfInBounds];by_cases h:d=t
 ·subst h;simp [hd]
 ·simp [h]
theorem Models.put {Γ:Ctx} {k:Nat->Prop} {L:Sl} {H:Hp} {e:Env} {a:Act} {w:World} (h:Models Γ k L H e a w) {d:Nat} {s:SV} {v:Value} (hd:d<Γ.n) (hr:Rel (Γ.X e H) e w s v) :
  Models Γ k ((d,s)::L) H e (a.put (some d) v) w where
 toHeap:=h.toHeap
 defers:=h.defers
 len:=by simp [Act.put,h.len]
 slot t:=by
  rw [Sl.get_cons,Act.getD_put _ _ _ _ (by rw [h.len];exact hd)];split
  ·exact hr
  ·exact h.slot t
def cSV:Value->SV
 | .int k n=>.d (.int k n)
 | .bool b=>.d (.bool b)
 | .string s=>.d (.str s)
 | .slice none 0 0=>.nils
 | v=>.val v
def cOk:Value->Prop
 | .int k n=>(Lit.int k n).wf=true
 | .string s=>s.size<=maxLen
 | _=>True
theorem cSV_rel {X e w} (v:Value) (h:cOk v):Rel X e w (cSV v) v:=by
 unfold cSV;split
 ·exact .int h
 ·exact .bool
 ·exact .str h
 ·rfl
 ·rfl
def ai (L:Sl):Operand->SV
 | .tmp t=>L.get t
 | .const v=>cSV v
 | .func f=>.fn f []
 | _=>.junk
def opOk:Operand->Prop
 | .const v=>cOk v
 | _=>True
theorem Models.op {Γ:Ctx} {k:Nat->Prop} {L:Sl} {H:Hp} {e:Env} {a:Act} {w:World} (h:Models Γ k L H e a w) (x:Operand) (hx:opOk x):Rel (Γ.X e H) e w (ai L x) (a.eval x):=by
 cases x with
 | tmp t=>exact h.slot t
 | const v=>exact cSV_rel v hx
 | global g=>trivial
 | func f=>exact⟨[],rfl,trivial⟩
abbrev d6:=Exit->Nat->Sl->Hp->Prop
def Fell (Γ:Ctx) (x:Exit) (a:Act) (w:World):Prop:=∃ (v:Value) (k:Nat) (L:Sl) (H:Hp) (e:Env),x = .panic [{ v,recovered:=false }]/\Γ.pan.may v L H/\Models Γ k L H e a w
def lift (Γ:Ctx) (Q:d6):Exit->Act->World->Prop:=λx a w=>(∃ (k:Nat) (L:Sl) (H:Hp) (e:Env),Models Γ k L H e a w/\Q x k L H)∨Fell Γ x a w
theorem p7 {Γ:Ctx} {Q Q':d6} (h:∀ x k L H,Q x k L H->Q' x k L H):∀ x a w,lift Γ Q x a w->lift Γ Q' x a w:=λ_ _ _ hl=>hl.imp (fun⟨k,L,H,e,m,hq⟩=>⟨k,L,H,e,m,h _ _ _ _ hq⟩) id
abbrev jm (ro:Option Nat):Fence:={ Fence.wide with round:=ro }
def DW (Γ:Ctx) (c:Code) (Q:d6) (k:Nat) (L:Sl) (H:Hp):Prop:=∀ e a w,Models Γ k L H e a w->c.wpIn (jm Γ.rd) 0 Γ.P (lift Γ Q) a w
abbrev ca:=Nat->Sl->Hp->Prop
def fx (K:ca):d6:=λx k L H=>x = .normal/\K k L H
def DL (Γ:Ctx) (ops:List Oper) (rest:List Oper) (K:ca) (k:Nat) (L:Sl) (H:Hp):Prop :=
 ∀ e a w,Models Γ k L H e a w->wpList Γ.P ops.toArray (lift Γ (fx K)) rest a w
def dp (K:ca) (Q:d6):d6:=λx k L H=>match x with
 | .normal=>K k L H
 | x=>Q x k L H
section
variable {Γ : Ctx} {k : Nat} {L : Sl} {H : Hp} {Q : d6} {K : ca} {ops : List Oper} {rest : List Oper} {o : Oper}
theorem dw_skip (h:Q .normal k L H):DW Γ .skip Q k L H:=λe _ _ m=>wpIn_skip (.inl ⟨k,L,H,e,m,h⟩)
theorem dv (h:Q .ret k L H):DW Γ .ret Q k L H:=λe _ _ m=>wpIn_ret (.inl ⟨k,L,H,e,m,h⟩)
theorem dw_exit {id} (h:Q (.exit id) k L H):DW Γ (.exit id) Q k L H:=λe _ _ m=>wpIn_exit (.inl ⟨k,L,H,e,m,h⟩)
theorem dw_seq {x y:Code} (h:∀ K:ca,(∀ k L H,DW Γ y Q k L H->K k L H)->DW Γ x (dp K Q) k L H):DW Γ (.seq x y) Q k L H:=by
 intro e a w m;refine wpIn_seq (wpIn_mono (h (DW Γ y Q) (λ_ _ _ h=>h) e a w m) ?_);rintro ex a' w' (⟨k',L',H',e',m',hq⟩|hf)
 ·cases ex with
  | normal=>exact hq e' a' w' m'
  | _=>exact .inl ⟨k',L',H',e',m',hq⟩
 ·obtain⟨v,k',L',H',e',rfl,r⟩:=hf;exact .inr ⟨v,k',L',H',e',rfl,r⟩
theorem ff {c:Operand} {x y:Code} {b:Bool} (hc:ai L c = .d (.bool b)) (ht:b=true->DW Γ x Q k L H) (hf:b=false->DW Γ y Q k L H):DW Γ (.cond c x y) Q k L H:=by
 intro e a w m;have hr:Rel (Γ.X e H) e w (ai L c) (a.eval c):=by
  cases c with
  | const v =>
   refine m.op _ ?_;cases v<;>first|trivial|(simp [ai,cSV] at hc)
  | _=>exact m.op _ trivial
 rw [hc] at hr;have hv:a.eval c = .bool b:=by
  generalize a.eval c=v at hr;cases hr;rfl
 cases b
 ·exact wpIn_cond_false hv (hf rfl e a w m)
 ·exact wpIn_cond_true hv (ht rfl e a w m)
def bh (id:Nat) (Q:d6):d6:=λx k L H=>match x with
 | .exit id'=>match Aw id' id with
  | true=>Q .normal k L H
  | false=>Q (.exit id') k L H
 | x=>Q x k L H
theorem dw_block {id:Nat} {c:Code} (h:DW Γ c (bh id Q) k L H):DW Γ (.block id c) Q k L H:=by
 intro e a w m;refine wpIn_block (wpIn_mono (h e a w m) ?_);rintro ex a' w' (⟨k',L',H',e',m',hq⟩|hf)
 ·cases ex with
  | exit id' =>
   simp only [Exit.inBlock];simp only [bh] at hq;cases hb:Aw id' id with
   | true=>rw [hb] at hq;rw [if_pos (Aj hb)];exact .inl ⟨k',L',H',e',m',hq⟩
   | false=>rw [hb] at hq;rw [if_neg (Bj hb)];exact .inl ⟨k',L',H',e',m',hq⟩
  | _=>exact .inl ⟨k',L',H',e',m',hq⟩
 ·obtain⟨v,k',L',H',e',rfl,r⟩:=hf;exact .inr ⟨v,k',L',H',e',rfl,r⟩
theorem dl_nil (h:K k L H):DL Γ ops [] K k L H:=λe _ _ m=>wpList_nil (.inl ⟨k,L,H,e,m,rfl,h⟩)
def dd:List Oper->Bool
 | []=>true
 | o::l=>(match o.op with|.defer _=>false|_=>true) && dd l
theorem nc:∀ {l:List Oper},dd l=true->∀ o∈l,∀ c,o.op≠.defer c
 | [],_,_,h=>nomatch h
 | o::l,h,x,hx=>by
  simp only [dd,Ad] at h
  rcases List.mem_cons.1 hx with rfl|hx
  ·intro c hc;rw [hc] at h;exact absurd h.1 (by simp)
  ·exact nc h.2 x hx
theorem callsIn_wideR {ro:Option Nat} {n:Nat} {P:Program} {f:FuncId} {args:Array Value} {w:World} {R:Ending->World->Prop} (h:Calls P f args w R):CallsIn (jm ro) n P f args w R :=
 ⟨trivial,λcs _=>let ⟨e,w',fr,r,s,x⟩:=h cs;⟨e,w',fr,r,comesIn_wide.2 s,x⟩⟩
theorem kf {ro:Option Nat} {p:Prop}:(jm ro).depth.isSome=true->p:=λh=>nomatch h
theorem Oper.wp_in {ro:Option Nat} {P:Program} {o:Oper} {a:Act} {w:World} {K:Act->World->Prop} {Q:Exit->Act->World->Prop} (hd:∀ c,o.op≠.defer c) (h:o.wp P a w K Q):o.wpIn (jm ro) 0 P a w K Q:=by
 refine⟨λ_ _=>trivial,?_⟩
 rw [Oper.semAt_eq _ _ _ hd];unfold Oper.wp at h;generalize (execOp a.eval o).run P w=r at h;cases r with
 | ok x w' =>
  cases x<;>simp only [Oper.upon,Oper.uponIn] at h ⊢<;>first
   | exact h
   | exact⟨kf,callsIn_wideR h⟩
   | exact⟨kf,λc cs _=>let ⟨v,w'',r,s⟩:=h c cs;⟨v,w'',r,stepsIn_wide.2 s⟩⟩
   | exact h.elim
 | halt x w'=>cases x<;>simp only [Oper.upon,Oper.uponIn] at h ⊢<;>exact h
theorem yj {ro:Option Nat} {P:Program} {ops:Array Oper} {Q:Exit->Act->World->Prop} (hQ:¬ LetsOut Q):∀ (l:List Oper),dd l=true->∀ a w,wpList P ops Q l a w->wpListIn (jm ro) 0 P ops Q l a w
 | [],_,_,_,h=>h
 | o::l,hn,a,w,h=>by
  have hd:=nc hn o (Ae ..);have hn':dd l=true:=by simp only [dd,Ad] at hn;exact hn.2
  unfold wpList at h;unfold wpListIn;split at h
  ·rename_i hw;rw [if_pos hw];rcases h with h|h
   ·exact Oper.wpIn_mono (λa w=>yj hQ l hn' a w) (Oper.wp_in hd h)
   ·exact absurd h.2 hQ
  ·rename_i hw;rw [if_neg hw];exact⟨λ_ _=>trivial,yj hQ l hn' _ _ h⟩
theorem wpOp_in {ro:Option Nat} {P:Program} {l:List Oper} {Q:Exit->Act->World->Prop} (hQ:¬ LetsOut Q) (hn:dd l=true) {i:Nat} {K:Act->World->Prop} {a:Act} {w:World} (h:wpOp P l.toArray Q i K a w):wpOpIn (jm ro) 0 P l.toArray Q i K a w:=by
 unfold wpOp at h;unfold wpOpIn;cases ho:l.toArray[i]? with
 | none=>rw [ho] at h;exact h
 | some o =>
  rw [ho] at h;have hm:o∈l:=by
   rw [List.getElem?_toArray] at ho;exact List.mem_of_getElem? ho
  simp only at h ⊢;split at h
  ·rename_i hw;rw [if_pos hw];rcases h with h|h
   ·exact Oper.wp_in (nc hn o hm) h
   ·exact absurd h.2 hQ
  ·rename_i hw;rw [if_neg hw];exact⟨λ_ _=>trivial,h⟩
theorem wpAny_in {ro:Option Nat} {P:Program} {l:List Oper} {md:Region.Mode} {Q:Exit->Act->World->Prop} (hQ:¬ LetsOut Q) (hn:dd l=true):∀ (fuel:Nat) (listed:Array Bool) (a:Act) (w:World),wpAny P md l.toArray Q fuel listed a w->wpAnyIn (jm ro) 0 P md l.toArray Q fuel listed a w
 | 0,_,_,_,h=>h
 | fuel+1,_,_,_,h=>⟨h.1,λi hi=>wpOpIn_mono (λa w=>wpAny_in hQ hn fuel _ a w) (wpOp_in hQ hn (h.2 i hi))⟩
theorem jg {Γ:Ctx} {K:ca}:¬ LetsOut (lift Γ (fx K)):=by
 rintro⟨a,w,⟨k,L,H,e,m,hx,_⟩|⟨v,k,L,H,e,hx,_⟩⟩
 ·cases hx
 ·cases hx
theorem dw_region {id:Nat} {l:List Oper} (hn:dd l=true) (h:DL Γ l l (Q .normal) k L H):DW Γ (.region id l.toArray false) Q k L H:=by
 intro e a w m;refine wpIn_mono (wpIn_region_lit (yj jg l hn _ _ (h e a w m))) (p7 ?_);rintro ex k' L' H' ⟨rfl,hq⟩;exact hq
def Ent (Γ:Ctx) (k:Nat) (L:Sl) (H:Hp) (k':Nat) (L':Sl) (H':Hp):Prop :=
 ∀ e a w,Models Γ k L H e a w->∃ e',Models Γ k' L' H' e' a w
theorem Ent.refl:Ent Γ k L H k L H:=λe _ _ m=>⟨e,m⟩
theorem au {c:Code} {k' L' H'} (he:Ent Γ k L H k' L' H') (h:DW Γ c Q k' L' H'):DW Γ c Q k L H:=λe a w m =>
 let ⟨e',m'⟩:=he e a w m
 h e' a w m'
structure St where
 k:Nat
 L:Sl
 H:Hp
theorem dw_loop {ι:Type} {c:Code} (I:ι->St) (μ:ι->Nat) (x0:ι) (h0:Ent Γ k L H (I x0).k (I x0).L (I x0).H)
  (round:∀ x,DW Γ c (dp (λk' L' H'=>∃ y,Ent Γ k' L' H' (I y).k (I y).L (I y).H/\μ y<μ x) Q) (I x).k (I x).L (I x).H):DW Γ (.loop c) Q k L H:=by
 intro e a w m;obtain⟨e0,m0⟩:=h0 e a w m;refine wpIn_loop_ghost (λn a w=>∃ x,μ x=n/\∃ e,Models Γ (I x).k (I x).L (I x).H e a w) (μ x0) ⟨x0,rfl,e0,m0⟩ ?_;rintro n a w ⟨x,rfl,e,m⟩;refine wpIn_mono (round x e a w m) ?_;rintro ex a' w' (⟨k',L',H',e',m',hq⟩|hf)
 ·cases ex with
  | normal =>
   obtain⟨y,hy,hlt⟩:=hq;obtain⟨e2,m2⟩:=hy e' a' w' m';exact⟨_,hlt,y,rfl,e2,m2⟩
  | _=>exact .inl ⟨k',L',H',e',m',hq⟩
 ·obtain⟨v,k',L',H',e',rfl,r⟩:=hf;exact .inr ⟨v,k',L',H',e',rfl,r⟩
end
mutual
def SV.ren (ρ:Nat->Nat):SV->SV
 | .junk=>.junk
 | .d x=>.d x
 | .nils=>.nils
 | .pd ds=>.pd ds
 | .loc id off=>.loc (ρ id) off
 | .row id=>.row (ρ id)
 | .mp id=>.mp (ρ id)
 | .md kd kvs=>.md kd kvs
 | .prow id k es off=>.prow (ρ id) k es off
 | .sl id off n cap=>.sl (ρ id) off n cap
 | .rsl id es k n=>.rsl (ρ id) es k n
 | .rg B q x=>.rg B q x
 | .fn f caps=>.fn f (SV.renL ρ caps)
 | .agg ss=>.agg (SV.renL ρ ss)
 | .tup ss=>.tup (SV.renL ρ ss)
 | .val v=>.val v
def SV.renL (ρ:Nat->Nat):List SV->List SV
 | []=>[]
 | s::ss=>SV.ren ρ s::SV.renL ρ ss
end
mutual
def SV.low (k:Nat):SV->Bool
 | .loc id _=>As id k
 | .row id=>As id k
 | .mp id=>As id k
 | .md _ _=>true
 | .prow id _ _ _=>As id k
 | .sl id _ _ _=>As id k
 | .rsl id _ _ _=>As id k
 | .rg _ _ _=>true
 | .fn _ caps=>SV.lowL k caps
 | .agg ss=>SV.lowL k ss
 | .tup ss=>SV.lowL k ss
 | .junk=>true
 | .d _=>true
 | .nils=>true
 | .pd _=>true
 | .val _=>true
def SV.lowL (k:Nat):List SV->Bool
 | []=>true
 | s::ss=>SV.low k s && SV.lowL k ss
end
def HB.ren (ρ:Nat->Nat):HB->HB
 | .blk ty cs=>.blk ty (SV.renL ρ cs)
 | .row ty es xs=>.row ty es xs
 | .map kd kvs=>.map kd kvs
def HB.low (k:Nat):HB->Bool
 | .blk _ cs=>SV.lowL k cs
 | .row _ _ _=>true
 | .map _ _=>true
def Env.ren (e:Env) (ρ:Nat->Nat) (k:Nat):Env:=⟨λi=>e.β (ρ i),λi=>e.η (ρ i),lo k⟩
mutual
theorem Rel.ren {X e w} (ρ:Nat->Nat) (k:Nat):∀ (s:SV) (v:Value),s.low k=true->Rel X e w (s.ren ρ) v->Rel X (e.ren ρ k) w s v
 | .junk,_,_,_=>trivial
 | .d _,_,_,h=>h
 | .nils,_,_,h=>h
 | .pd _,_,_,h=>h
 | .loc _ _,_,hb,h=>⟨Ac hb,h.2⟩
 | .row _,_,hb,h=>⟨Ac hb,h.2⟩
 | .mp _,_,hb,h=>⟨Ac hb,h.2⟩
 | .md _ _,_,_,h=>h
 | .prow _ _ _ _,_,hb,h=>⟨Ac hb,h.2⟩
 | .sl _ _ _ _,_,hb,h=>⟨Ac hb,h.2⟩
 | .rsl _ _ _ _,_,hb,h=>⟨Ac hb,h.2⟩
 | .rg _ _ _,_,_,h=>h
 | .fn _ caps,_,hb,⟨vs,h1,h2⟩=>⟨vs,h1,RelL.ren ρ k caps vs hb h2⟩
 | .agg ss,_,hb,⟨vs,h1,h2⟩=>⟨vs,h1,RelL.ren ρ k ss vs hb h2⟩
 | .tup ss,_,hb,⟨vs,h1,h2⟩=>⟨vs,h1,RelL.ren ρ k ss vs hb h2⟩
 | .val _,_,_,h=>h
theorem RelL.ren {X e w} (ρ:Nat->Nat) (k:Nat):∀ (ss:List SV) (vs:List Value),SV.lowL k ss=true->RelL X e w (SV.renL ρ ss) vs->RelL X (e.ren ρ k) w ss vs
 | [],[],_,_=>trivial
 | [],_::_,_,h=>h.elim
 | _::_,[],_,h=>h.elim
 | s::ss,v::vs,hb,h=>by
  simp only [SV.lowL,Ad] at hb
  exact⟨Rel.ren ρ k s v hb.1 h.1,RelL.ren ρ k ss vs hb.2 h.2⟩
end
def Hp.get:Hp->Nat->Option HB
 | [],_=>none
 | (d,s)::H,t=>match Aw d t with|true=>some s|false=>Hp.get H t
theorem Hp.get_mem:∀ (H:Hp) (t:Nat) (b:HB),Hp.get H t=some b->(t,b)∈H
 | [],_,_,h=>by simp [Hp.get] at h
 | (d,s)::H,t,b,h=>by
  simp only [Hp.get] at h
  cases hb:Aw d t with
  | true=>rw [hb] at h;have:=Aj hb;subst this;cases h;simp
  | false=>rw [hb] at h;exact Ah _ (Hp.get_mem H t b h)
theorem r5 {α β:Type} (f:α->Option β):∀ (l:List α),(l.filterMap f).Nodup->∀ p q b,p∈l->q∈l->f p=some b->f q=some b->p=q
 | [],_,_,_,_,h,_,_,_=>by simp at h
 | x::l,hn,p,q,b,hp,hq,fp,fq=>by
  have hn':(l.filterMap f).Nodup:=by
   rw [Bf] at hn;split at hn
   ·exact hn
   ·exact (List.nodup_cons.1 hn).2
  rcases List.mem_cons.1 hp with rfl|hp'<;>rcases List.mem_cons.1 hq with rfl|hq'
  ·rfl
  ·exfalso;rw [Bf,fp] at hn;exact (List.nodup_cons.1 hn).1 (List.mem_filterMap.2 ⟨q,hq',fq⟩)
  ·exfalso;rw [Bf,fq] at hn;exact (List.nodup_cons.1 hn).1 (List.mem_filterMap.2 ⟨p,hp',fp⟩)
  ·exact r5 f l hn' p q b hp' hq' fp fq
theorem gr {α β:Type} (f:α->Option β) (H:List α) (hH:(H.filterMap f).Nodup):∀ (l:List α),l.Nodup->(∀ p∈l,p∈H)->(l.filterMap f).Nodup
 | [],_,_=>by simp
 | x::l,hn,hs=>by
  obtain⟨h1,h2⟩:=List.nodup_cons.1 hn
  have ih:=gr f H hH l h2 λp hp=>hs p (Ah _ hp)
  rw [Bf]
  split
  ·exact ih
  ·rename_i b hb
   refine List.nodup_cons.2 ⟨λhm=>?_,ih⟩
   obtain⟨q,hq,fq⟩:=List.mem_filterMap.1 hm
   exact h1 (r5 f H hH x q b (hs x (Ae ..)) (hs q (Ah _ hq)) hb fq▸hq)
def Knows (ρ:Nat->Nat) (L:Sl):Sl->Prop
 | []=>True
 | (t,s)::r=>Sl.get L t=s.ren ρ/\Knows ρ L r
def KnowsH (ρ:Nat->Nat) (H:Hp):Hp->Prop
 | []=>True
 | (i,b)::r=>Hp.get H (ρ i)=some (b.ren ρ)/\KnowsH ρ H r
def Sl.low (k:Nat):Sl->Bool
 | []=>true
 | (_,s)::r=>s.low k && Sl.low k r
def Hp.low (k:Nat):Hp->Bool
 | []=>true
 | (i,b)::r=>As i k && (b.low k && Hp.low k r)
def notIn (i:Nat):List Nat->Bool
 | []=>true
 | j::r=>!(Aw i j) && notIn i r
def a7:List Nat->Bool
 | []=>true
 | i::r=>notIn i r && a7 r
theorem f7 (i:Nat):∀ l,notIn i l=true->i ∉ l
 | [],_=>by simp
 | j::r,h=>by
  simp only [notIn,Ad,Bool.not_eq_true'] at h
  have h1:=Bj h.1
  simp [h1,f7 i r h.2]
theorem eh:∀ l,a7 l=true->l.Nodup
 | [],_=>by simp
 | i::r,h=>by
  simp only [a7,Ad] at h
  exact List.nodup_cons.2 ⟨f7 i r h.1,eh r h.2⟩
theorem Knows.slot {X e w} {a:Act} {ρ:Nat->Nat} {L:Sl} {k:Nat} (hL:∀ t,Rel X e w (L.get t) (a.tmps.getD t undef)):∀ (L':Sl),Knows ρ L L'->Sl.low k L'=true->∀ t,Rel X (e.ren ρ k) w (L'.get t) (a.tmps.getD t undef)
 | [],_,_,_=>trivial
 | (d,s)::r,⟨h1,h2⟩,hb,t=>by
  simp only [Sl.low,Ad] at hb
  rw [Sl.get_cons]
  split
  ·rename_i hd
   subst hd
   exact Rel.ren ρ k _ _ hb.1 (h1▸hL d)
  ·exact Knows.slot hL r h2 hb.2 t
theorem KnowsH.mem {ρ:Nat->Nat} {H:Hp}:∀ (H':Hp),KnowsH ρ H H'->∀ p∈H',(ρ p.1,p.2.ren ρ)∈H
 | [],_,_,h=>by simp at h
 | (i,b)::r,⟨h1,h2⟩,p,hp=>by
  rcases List.mem_cons.1 hp with rfl|hp
  ·exact Hp.get_mem _ _ _ h1
  ·exact KnowsH.mem r h2 p hp
theorem Hp.low_spec {k:Nat}:∀ (H:Hp),Hp.low k H=true->∀ p∈H,p.1<k/\p.2.low k=true
 | [],_,_,h=>by simp at h
 | (i,b)::r,h,p,hp=>by
  simp only [Hp.low,Ad,Nat.blt_eq] at h
  rcases List.mem_cons.1 hp with rfl|hp
  ·exact⟨h.1,h.2.1⟩
  ·exact Hp.low_spec r h.2.2 p hp
theorem yu (e:Env) (ρ:Nat->Nat) (k:Nat) (p:Nat×HB):HB.owned (e.ren ρ k) p=HB.owned e (ρ p.1,p.2.ren ρ):=by
 obtain⟨i,b⟩:=p;cases b<;>rfl
theorem ownedL_ren (e:Env) (ρ:Nat->Nat) (k:Nat) (H:Hp):ae (e.ren ρ k) H=ae e (H.map λp=>(ρ p.1,p.2.ren ρ)):=by
 unfold ae;rw [List.filterMap_map];congr 1;funext p;exact yu e ρ k p
def ld (ρ:Nat->Nat):Nat->Bool
 | 0=>true
 | j+1=>Aw (ρ j) j && ld ρ j
theorem anchorOk_spec {ρ:Nat->Nat}:∀ (J:Nat),ld ρ J=true->∀ j,j<J->ρ j=j
 | 0,_,_,h=>by omega
 | J+1,h,j,hj=>by
  simp only [ld,Ad] at h;rcases Nat.lt_or_ge j J with h1|h1
  ·exact anchorOk_spec J h.2 j h1
  ·have:j=J:=by omega
   subst this;exact Aj h.1
theorem Heap.ren {Γ:Ctx} {k:Nat->Prop} {H:Hp} {e:Env} {w:World} (h:Heap Γ k H e w) (ρ:Nat->Nat) (k':Nat) (H':Hp) (hH:KnowsH ρ H H') (hb:Hp.low k' H'=true)
  (hd:a7 (H'.map λp=>ρ p.1)=true) (hd':a7 (H'.map (·.1))=true) (hj:B6 Γ.J k'=true) (ha:ld ρ Γ.J=true) :
  Heap Γ k' H' (e.ren ρ k') w/\∀ b,Γ.X (e.ren ρ k') H' b->Γ.X e H b:=by
 have hmem:=KnowsH.mem H' hH;have hown:∀ b,b∈ae (e.ren ρ k') H'->b∈ae e H:=by
  intro b hb;obtain⟨p,hp,ho⟩:=List.mem_filterMap.1 hb;exact List.mem_filterMap.2 ⟨_,hmem p hp,by rw [<- yu e ρ k'];exact ho⟩
 have hX:∀ b,Γ.X (e.ren ρ k') H' b->Γ.X e H b:=λb hx=>hx.imp id (hown b)
 refine⟨⟨λ_=>Iff.rfl,λp hp=>⟨(Hp.low_spec H' hb p hp).1,?_⟩,eh _ hd',?_,λb hbm=>h.mine b (hown b hbm),h.os,h.tape,h.output,h.drawn,h.size,h.block,h.obound,h.tabs,λj hjl=>Aq hjl (Ac hj),λj hjl=>(congrArg e.an (anchorOk_spec _ ha j hjl)).trans (h.anchor j hjl)⟩,hX⟩
 ·have hr:=(h.heap _ (hmem p hp)).2;have hbl:=(Hp.low_spec H' hb p hp).2;obtain⟨i,b⟩:=p;cases b with
  | blk ty cs =>
   obtain⟨vs,h1,h2,h3⟩:=hr;exact⟨vs,h1,RelL.keep (Af _) (λ_ _ _=>rfl) (λb _ hy=>hX b hy) _ _ (RelL.ren ρ k' cs vs hbl h2),h3⟩
  | row ty es xs =>
   obtain⟨vs,h1,h2,h3,h4⟩:=hr;refine⟨vs,h1,h2,h3,λi hi j hj=>?_⟩
   obtain⟨v,g1,g2⟩:=h4 i hi j hj;exact⟨v,g1,RepC.keep (Af _) (λ_ _ _=>rfl) (λb _ hy=>hX b hy) g2⟩
  | map kd kvs=>exact hr
 ·rw [ownedL_ren];refine gr _ H h.nodup _ ?_ ?_
  ·have hn:=eh _ hd;refine List.Pairwise.of_map (f:=λp:Nat×HB=>p.1) (S:=(·≠·)) (λa b hab he=>hab (by rw [he])) ?_;simpa [List.map_map,List.Nodup,Function.comp_def] using hn
  ·intro p hp;obtain⟨q,hq,rfl⟩:=List.mem_map.1 hp;exact hmem q hq
theorem ag {Γ:Ctx} {k:Nat} {L:Sl} {H:Hp} (ρ:Nat->Nat) {k':Nat} {L':Sl} {H':Hp} (hL:Knows ρ L L') (hH:KnowsH ρ H H') (hb:Sl.low k' L'=true) (hbH:Hp.low k' H'=true)
  (hd:a7 (H'.map λp=>ρ p.1)=true) (hd':a7 (H'.map (·.1))=true) (hj:B6 Γ.J k'=true) (ha:ld ρ Γ.J=true):Ent Γ k L H k' L' H':=by
 intro e a w m;obtain⟨h1,h2⟩:=m.toHeap.ren ρ k' H' hH hbH hd hd' hj ha;refine⟨e.ren ρ k',⟨h1,m.defers,m.len,λt=>?_⟩⟩
 exact Rel.keep (Af _) (λ_ _ _=>rfl) (λb _ hy=>h2 b hy) _ _ (Knows.slot m.slot L' hL hb t)
theorem er {Γ:Ctx} {k:Nat} {L:Sl} {H:Hp} (ρ:Nat->Nat) {k':Nat} {L':Sl} {H':Hp} (hL:Knows ρ L L':=by (repeat' (first | exact trivial | refine ⟨rfl, ?_⟩))) (hH:KnowsH ρ H H':=by (repeat' (first | exact trivial | refine ⟨rfl, ?_⟩))) (hb:Sl.low k' L'=true:=by exact rfl) (hbH:Hp.low k' H'=true:=by exact rfl) (hd:a7 (H'.map λp=>ρ p.1)=true:=by exact rfl) (hd':a7 (H'.map (·.1))=true:=by exact rfl) (hj:Nat.ble Γ.J k'=true:=by exact rfl) (ha:ld ρ Γ.J=true:=by exact rfl):Ent Γ k L H k' L' H':=ag ρ hL hH hb hbH hd hd' hj ha
end
section
open Go Go.RowKit
variable [Bnds]
theorem str_beq (s u:ByteArray):(s.toList == u.toList)=decide (s=u):=by
 rw [ByteArray.toList_eq,ByteArray.toList_eq,Bool.eq_iff_iff];simp only [beq_iff_eq,decide_eq_true_eq];exact⟨λh=>by cases s;cases u;congr 1;exact Array.toList_inj.1 h,λh=>by rw [h]⟩
def Ctx.sh (Γ:Ctx) (t:TypeId):Sh:=(aj Γ.τ t).sh
def Ctx.cells (Γ:Ctx) (t:TypeId):Nat:=(aj Γ.τ t).cells
theorem Ctx.ti {Γ:Ctx} {t:TypeId} (h:Γ.sh t≠.other):tiOf Γ.P t=some (aj Γ.τ t):=tiGet_ok Γ.τok t h
theorem iq {P:Program} {t:TypeId} {i:TI} (h:tiOf P t=some i):∃ u inf z,P.underlying t=some u/\P.info? t=some inf/\inf.zero=some z/\i.sh=nx P u/\inf.size=i.cells/\inf.bytes=i.bytes/\z.cells.toList=i.zero/\i.eqs=flatEqB P t:=by
 unfold tiOf at h;split at h
 ·rename_i u inf h1 h2;split at h
  ·rename_i z hz;cases h;exact⟨u,inf,z,h1,h2,hz,rfl,rfl,rfl,rfl,rfl⟩
  ·cases h
 ·cases h
theorem Ctx.str {Γ:Ctx} {t:TypeId} (h:Γ.sh t = .str):Γ.P.underlying t=some .string:=by
 obtain⟨u,inf,z,h1,_,_,h4,_⟩:=iq (Γ.ti (by rw [h];intro h;cases h));rw [h1];have:nx Γ.P u = .str:=h4▸h
 cases u<;>simp [nx] at this ⊢
theorem Ctx.slice {Γ:Ctx} {t e:TypeId} (h:Γ.sh t = .slice e):Γ.P.underlying t=some (.slice e):=by
 obtain⟨u,inf,z,h1,_,_,h4,_⟩:=iq (Γ.ti (by rw [h];intro h;cases h));rw [h1];have:nx Γ.P u = .slice e:=h4▸h
 cases u<;>simp [nx] at this ⊢
 exact this
theorem Ctx.info {Γ:Ctx} {t:TypeId} (h:Γ.sh t≠.other):∃ inf z,Γ.P.info? t=some inf/\inf.zero=some z/\inf.size=Γ.cells t/\inf.bytes=(aj Γ.τ t).bytes/\z.cells.toList=(aj Γ.τ t).zero:=by
 obtain⟨u,inf,z,h1,h2,h3,h4,h5,h6,h7,_⟩:=iq (Γ.ti h);exact⟨inf,z,h2,h3,h5,h6,h7⟩
theorem Ctx.struct {Γ:Ctx} {t:TypeId} {l} (h:Γ.sh t = .struct l):∃ fs,Γ.P.underlying t=some (.struct fs)/\l=fs.toList.map λf=>(f.offset,f.type,((Γ.P.info? f.type).map (·.size)).getD 0):=by
 obtain⟨u,inf,z,h1,_,_,h4,_⟩:=iq (Γ.ti (by rw [h];intro h;cases h));have:nx Γ.P u = .struct l:=h4▸h
 cases u<;>simp [nx] at this
 rename_i fs;exact⟨fs,h1,this.symm⟩
def Sh.known:Sh->Bool|.other=>false|_=>true
theorem Sh.known_ne {s:Sh} (h:s.known=true):s≠.other:=by intro e;subst e;cases h
def Sh.isAgg:Sh->Bool|.struct _=>true|_=>false
theorem Ctx.agg {Γ:Ctx} {t:TypeId} (h:Γ.sh t≠.other):∀ w,(Go.isAgg t).run Γ.P w = .ok (Γ.sh t).isAgg w:=by
 intro w;obtain⟨u,inf,z,h1,_,_,h4,_⟩:=iq (Γ.ti h);have h5:nx Γ.P u=Γ.sh t:=h4.symm;rw [<- h5] at h ⊢;cases u<;>simp [Go.isAgg,run_underlying h1,nx,Sh.isAgg] at h ⊢
def cOkB:Value->Bool
 | .int k n=>(Lit.int k n).wf
 | .string s=>B6 s.size maxLen
 | _=>true
def de:Operand->Bool
 | .const v=>cOkB v
 | _=>true
theorem b7 {x:Operand} (h:de x=true):opOk x:=by
 cases x with
 | const v =>
  cases v with
  | int k n=>exact h
  | string s=>exact Ac h
  | _=>trivial
 | _=>trivial
section
variable {Γ : Ctx} {k : Nat -> Prop} {L : Sl} {H : Hp} {K : ca} {ops : List Oper} {rest : List Oper} {a : Act} {w : World} {e : Env}
theorem evI (m:Models Γ k L H e a w) {x:Operand} {i:IntKind} {n:Int} (h:ai L x = .d (.int i n)):a.eval x = .int i n:=by
 cases x with
 | tmp t =>
  have hr:=m.slot t;simp only [ai] at h;rw [h] at hr;show a.tmps.getD t undef=_;generalize a.tmps.getD t undef=v at hr;cases hr;rfl
 | const v =>
  simp only [ai] at h;unfold cSV at h;split at h<;>cases h
  rfl
 | global g=>cases h
 | func f=>cases h
theorem evIw (m:Models Γ k L H e a w) {x:Operand} {i:IntKind} {n:Int} (hx:de x=true) (h:ai L x = .d (.int i n)):(Lit.int i n).wf=true:=by
 have hr:=m.op x (b7 hx);rw [h] at hr;generalize a.eval x=v at hr;cases hr;assumption
theorem evB (m:Models Γ k L H e a w) {x:Operand} {b:Bool} (h:ai L x = .d (.bool b)):a.eval x = .bool b:=by
 cases x with
 | tmp t =>
  have hr:=m.slot t;simp only [ai] at h;rw [h] at hr;show a.tmps.getD t undef=_;generalize a.tmps.getD t undef=v at hr;cases hr;rfl
 | const v =>
  simp only [ai] at h;unfold cSV at h;split at h<;>cases h
  rfl
 | global g=>cases h
 | func f=>cases h
theorem evS (m:Models Γ k L H e a w) {x:Operand} {s:ByteArray} (h:ai L x = .d (.str s)):a.eval x = .string s:=by
 cases x with
 | tmp t =>
  have hr:=m.slot t;simp only [ai] at h;rw [h] at hr;show a.tmps.getD t undef=_;generalize a.tmps.getD t undef=v at hr;cases hr;rfl
 | const v =>
  simp only [ai] at h;unfold cSV at h;split at h<;>cases h
  rfl
 | global g=>cases h
 | func f=>cases h
def Ev (Γ:Ctx) (k:Nat->Prop) (L:Sl) (H:Hp) (op:Op) (ty:TypeId) (s:SV):Prop :=
 ∀ e a w,Models Γ k L H e a w->∃ v,(∀ (dst:Option Tmp) pos after guard w',Below w.heap.size w w'->(execOp a.eval ⟨dst,op,ty,pos,after,guard⟩).run Γ.P w' = .ok (.value v) w')/\Rel (Γ.X e H) e w s v
def OpOk (Γ:Ctx) (o:Oper) (k:Nat->Prop) (L:Sl) (H:Hp) (k':Nat->Prop) (L':Sl) (H':Hp):Prop :=
 ∀ e a w Q,Models Γ k L H e a w->o.wp Γ.P a w (λa' w'=>∃ e',Models Γ k' L' H' e' a' w') Q
theorem op_ev {d:Nat} {op:Op} {ty:TypeId} {pos:String} {af:Array Edge} {g:Option (Nat×Bool)} {s:SV} (h:Ev Γ k L H op ty s) (hd:As d Γ.n=true) :
  OpOk Γ ⟨some d,op,ty,pos,af,g⟩ k L H k ((d,s)::L) H:=by
 intro e a w Q m;obtain⟨v,h1,h2⟩:=h e a w m;unfold Oper.wp;rw [h1 (some d) pos af g w (Below.refl _ _)];exact⟨e,m.put (Ac hd) h2⟩
def mi:List Oper->Nat->Option Oper
 | [],_=>none
 | o::_,0=>some o
 | _::l,n+1=>mi l n
theorem xf:∀ (l:List Oper) (n:Nat),mi l n=l[n]?
 | [],_=>by simp [mi]
 | o::_,0=>by simp [mi]
 | _::l,n+1=>by simp [mi,xf l n]
def aq (ops:List Oper) (L:Sl):Option (Nat×Bool)->Option Bool
 | none=>some true
 | some (j,want)=>match mi ops j with
  | some o=>match o.dst with
   | some t=>match L.get t with
    | .d (.bool true)=>some want
    | .d (.bool false)=>some (!want)
    | .tup []=>some false
    | _=>none
   | none=>none
  | none=>none
theorem ie {o:Oper} {b:Bool} (m:Models Γ k L H e a w) (h:aq ops L o.guard=some b):Region.wanted o (yielded ops.toArray a.tmps)=b:=by
 unfold Region.wanted;cases hg:o.guard with
 | none=>rw [hg] at h;simpa [aq] using h
 | some q =>
  obtain⟨j,want⟩:=q;rw [hg] at h;simp only [aq,xf] at h;cases ho:ops[j]? with
  | none=>simp [ho] at h
  | some oj =>
   simp only [ho] at h;cases hd:oj.dst with
   | none=>simp [hd] at h
   | some t =>
    simp only [hd] at h;have hr:=m.slot t;have hy:∀ b',L.get t = .d (.bool b')->yielded ops.toArray a.tmps j=some b':=by
     intro b' hb';rw [hb'] at hr;generalize hv:a.tmps.getD t undef=v at hr;cases hr;have hv':a.tmps[t]?.getD undef=Value.bool b':=by rw [<- Dk];exact hv
     cases ht:a.tmps[t]? with
     | none=>rw [ht] at hv';cases hv'
     | some u=>rw [ht] at hv';simp only [C4] at hv';subst hv';simp [yielded,ho,hd,ht]
    cases hs:L.get t with
    | tup ss =>
     cases ss with
     | cons _ _=>simp [hs] at h
     | nil =>
      simp only [hs,Option.some.injEq] at h;subst h;rw [hs] at hr;obtain⟨vs,hv,hl⟩:=hr;cases vs with
      | cons _ _=>exact hl.elim
      | nil =>
       have hn:yielded ops.toArray a.tmps j=none:=by
        have hv':a.tmps[t]?.getD undef=Value.tuple #[]:=by rw [<- Dk];exact hv
        cases ht:a.tmps[t]? with
        | none=>simp [yielded,ho,hd,ht]
        | some u=>rw [ht] at hv';simp only [C4] at hv';subst hv';simp [yielded,ho,hd,ht]
       show (yielded ops.toArray a.tmps j == some want)=false;rw [hn];rfl
    | d x =>
     cases x with
     | bool b' =>
      simp only [hs] at h;simp only [hy b' hs];cases b'<;>cases want<;>simp_all
     | _=>simp [hs] at h
    | _=>simp [hs] at h
end
section
variable {Γ : Ctx} {k : Nat} {L : Sl} {H : Hp} {K : ca} {ops : List Oper} {rest : List Oper} {a : Act} {w : World} {e : Env}
theorem jk {op:Op} {ty:TypeId} {pos:String} {af:Array Edge} {g:Option (Nat×Bool)} {d:Option Nat} (hw:aq ops L g=some true)
  (h:∀ e a w,Models Γ k L H e a w->(Oper.mk d op ty pos af g).wp Γ.P a w (λa' w'=>∃ (k':Nat) (L':Sl) (H':Hp) (e':Env),Models Γ k' L' H' e' a' w'/\DL Γ ops rest K k' L' H') (lift Γ (fx K))) :
  DL Γ ops (⟨d,op,ty,pos,af,g⟩::rest) K k L H:=by
 intro e a w m;refine wpList_step λK' hK'=>?_
 rw [if_pos (ie m hw)];refine Oper.wp_mono ?_ (h e a w m);rintro a' w' ⟨k',L',H',e',m',hd⟩;exact hK' _ _ (hd e' a' w' m')
theorem dl_skip {op:Op} {ty:TypeId} {pos:String} {af:Array Edge} {g:Option (Nat×Bool)} {d:Nat} (hw:aq ops L g=some false) (hd:As d Γ.n=true)
  (h:DL Γ ops rest K k ((d,.tup [])::L) H):DL Γ ops (⟨some d,op,ty,pos,af,g⟩::rest) K k L H:=by
 intro e a w m;refine wpList_step λK' hK'=>?_
 rw [if_neg (by rw [ie m hw];exact Bool.false_ne_true)];exact hK' _ _ (h e _ w (m.put (s:=.tup []) (Ac hd) ⟨[],rfl,trivial⟩))
theorem dl_op {op:Op} {ty:TypeId} {pos:String} {af:Array Edge} {g:Option (Nat×Bool)} {d:Option Nat} {k':Nat} {L':Sl} {H':Hp} (hw:aq ops L g=some true)
  (h:OpOk Γ ⟨d,op,ty,pos,af,g⟩ k L H k' L' H') (hk:DL Γ ops rest K k' L' H'):DL Γ ops (⟨d,op,ty,pos,af,g⟩::rest) K k L H:=by
 refine jk hw λe a w m=>Oper.wp_mono ?_ (h e a w _ m)
 rintro a' w' ⟨e',m'⟩;exact⟨k',L',H',e',m',hk⟩
theorem dl_ev {d:Nat} {op:Op} {ty:TypeId} {pos:String} {af:Array Edge} {g:Option (Nat×Bool)} {s:SV} (hw:aq ops L g=some true) (h:Ev Γ k L H op ty s) (hd:As d Γ.n=true)
  (hk:DL Γ ops rest K k ((d,s)::L) H):DL Γ ops (⟨some d,op,ty,pos,af,g⟩::rest) K k L H:=by
 refine jk hw λe a w m=>?_
 obtain⟨v,h1,h2⟩:=h e a w m;unfold Oper.wp;rw [h1 (some d) pos af g w (Below.refl _ _)];exact⟨k,_,H,e,m.put (Ac hd) h2,hk⟩
theorem dl_split {t:Nat} {b:Bool} (hb:L.get t = .d (.bool b)) (ht:b=true->DL Γ ops rest K k ((t,.d (.bool true))::L) H) (hf:b=false->DL Γ ops rest K k ((t,.d (.bool false))::L) H) :
  DL Γ ops rest K k L H:=by
 intro e a w m;have key:∀ b',b=b'->Models Γ k ((t,.d (.bool b'))::L) H e a w:=λb' hb' =>
  ⟨m.toHeap,m.defers,m.len,λt'=>by
    rw [Sl.get_cons];split
    ·rename_i h;subst h;rw [<- hb',<- hb];exact m.slot t
    ·exact m.slot t'⟩
 cases b with
 | true=>exact ht rfl e a w (key true rfl)
 | false=>exact hf rfl e a w (key false rfl)
end
section
variable {Γ : Ctx} {k : Nat -> Prop} {L : Sl} {H : Hp} {K : ca} {ops : List Oper} {rest : List Oper} {a : Act} {w : World} {e : Env}
theorem ev_move {x:Operand} {ty:TypeId} (hx:de x=true):Ev Γ k L H (.move x) ty (ai L x):=by
 intro e a w m;exact⟨a.eval x,λ_ _ _ _ w' _=>by simp [execOp],m.op x (b7 hx)⟩
theorem ev_assign {x:Operand} {ty:TypeId} (hx:de x=true):Ev Γ k L H (.assign x) ty (ai L x):=by
 intro e a w m;exact⟨a.eval x,λ_ _ _ _ w' _=>by simp [execOp],m.op x (b7 hx)⟩
theorem ji {op:BinOp} {t t' ty:TypeId} {x y:Operand} {i:IntKind} {n m':Int} {s:SV} {v:Value} (hx:ai L x = .d (.int i n)) (hy:ai L y = .d (.int i m'))
  (hr:∀ P w,(binOp op t (.int i n) (.int i m')).run P w = .ok v w) (hv:∀ X e w,Rel X e w s v):Ev Γ k L H (.binOp op t x y t') ty s:=by
 intro e a w m;refine⟨v,λ_ _ _ _ w' _=>?_,hv _ _ _⟩
 simp only [execOp,evI m hx,evI m hy];have he:eqGuard op t x y (Value.int i n) (Value.int i m')=pure ():=by unfold eqGuard;split<;>rfl
 simp [he,hr]
section
variable {t t' ty : TypeId} {x y : Operand} {i : IntKind} {n m' : Int}
theorem ev_lss (hx:ai L x = .d (.int i n)) (hy:ai L y = .d (.int i m')):Ev Γ k L H (.binOp .lss t x y t') ty (.d (.bool (decide (n<m')))) :=
 ji hx hy (λP w=>by simp [binOp,Op.intCmp]) λ_ _ _=>.bool
theorem ev_leq (hx:ai L x = .d (.int i n)) (hy:ai L y = .d (.int i m')):Ev Γ k L H (.binOp .leq t x y t') ty (.d (.bool (decide (n<=m')))) :=
 ji hx hy (λP w=>by simp [binOp,Op.intCmp]) λ_ _ _=>.bool
theorem ev_gtr (hx:ai L x = .d (.int i n)) (hy:ai L y = .d (.int i m')):Ev Γ k L H (.binOp .gtr t x y t') ty (.d (.bool (decide (m'<n)))) :=
 ji hx hy (λP w=>by simp [binOp,Op.intCmp]) λ_ _ _=>.bool
theorem ev_geq (hx:ai L x = .d (.int i n)) (hy:ai L y = .d (.int i m')):Ev Γ k L H (.binOp .geq t x y t') ty (.d (.bool (decide (m'<=n)))) :=
 ji hx hy (λP w=>by simp [binOp,Op.intCmp]) λ_ _ _=>.bool
theorem ev_eql (hx:ai L x = .d (.int i n)) (hy:ai L y = .d (.int i m')):Ev Γ k L H (.binOp .eql t x y t') ty (.d (.bool (decide (n=m')))) :=
 ji hx hy (λP w=>by simp [binOp,Op.intCmp];rfl) λ_ _ _=>.bool
theorem ev_neq (hx:ai L x = .d (.int i n)) (hy:ai L y = .d (.int i m')):Ev Γ k L H (.binOp .neq t x y t') ty (.d (.bool (decide (n≠m')))) :=
 ji hx hy (λP w=>by simp [binOp,Op.intCmp];rfl) λ_ _ _=>.bool
end
section
variable {t t' ty : TypeId} {x y : Operand} {i : IntKind} {n m' : Int}
theorem ev_not {b:Bool} (hx:ai L x = .d (.bool b)):Ev Γ k L H (.unOp .not t x) ty (.d (.bool (!b))):=by
 intro e a w m;exact⟨.bool (!b),λ_ _ _ _ w' _=>by simp [execOp,evB m hx,Op.unary],.bool⟩
theorem ev_pick {c:Operand} {b:Bool} (hc:ai L c = .d (.bool b)) (hx:b=true->de x=true) (hy:b=false->de y=true) :
  Ev Γ k L H (.pick c x y) ty (match b with|true=>ai L x|false=>ai L y):=by
 intro e a w m;cases b with
 | true=>exact⟨a.eval x,λ_ _ _ _ w' _=>by simp [execOp,evB m hc,asBool],m.op x (b7 (hx rfl))⟩
 | false=>exact⟨a.eval y,λ_ _ _ _ w' _=>by simp [execOp,evB m hc,asBool],m.op y (b7 (hy rfl))⟩
theorem ev_eqs {s u:ByteArray} (hx:ai L x = .d (.str s)) (hy:ai L y = .d (.str u)):Ev Γ k L H (.binOp .eql t x y t') ty (.d (.bool (decide (s=u)))):=by
 intro e a w m;refine⟨_,λ_ _ _ _ w' _=>?_,.bool⟩
 simp only [execOp,evS m hx,evS m hy];simp [eqGuard,binOp,Op.stringOp,str_beq]
theorem ev_nes {s u:ByteArray} (hx:ai L x = .d (.str s)) (hy:ai L y = .d (.str u)):Ev Γ k L H (.binOp .neq t x y t') ty (.d (.bool (decide (s≠u)))):=by
 intro e a w m;refine⟨_,λ_ _ _ _ w' _=>?_,.bool⟩
 simp only [execOp,evS m hx,evS m hy];simp [eqGuard,binOp,Op.stringOp,str_beq]
theorem ev_len_str {s:ByteArray} (ht:Γ.sh t = .str) (hx:ai L x = .d (.str s)) (hxo:de x=true):Ev Γ k L H (.call { callee:=.builtin .len,args:=#[x],argTypes:=#[t] }) ty (.d (.int .i64 s.size)):=by
 intro e a w m;have hs:s.size<=maxLen:=by
  have hr:=m.op x (b7 hxo);rw [hx] at hr;generalize a.eval x=v at hr;cases hr;assumption
 refine⟨.int .i64 s.size,λ_ _ _ _ w' _=>?_,.int (WalkArith.wf_i64 (by unfold maxLen at hs;omega))⟩
 simp [execOp,resolve,invoke,builtin,evS m hx,Builtin.len_,goInt,run_underlying (Ctx.str ht)]
theorem ev_index_str {s:ByteArray} {n:Int} (ht:Γ.sh t = .str) (hx:ai L x = .d (.str s)) (hy:ai L y = .d (.int .i64 n)) (h0:0<=n) (h1:n.toNat<s.size) :
  Ev Γ k L H (.index t x y) ty (.d (.int .u8 (s[n.toNat]'h1).toNat)):=by
 intro e a w m;refine⟨.int .u8 (s[n.toNat]'h1).toNat,λ_ _ _ _ w' _=>?_,.int (WalkArith.wf_u8 (by have:=(s[n.toNat]'h1).toNat_lt;omega))⟩
 simp [execOp,Instr.index,evS m hx,evI m hy,asIntOf,run_underlying (Ctx.str ht),h0,h1]
end
end
end
section
open Go Go.RowKit
variable [Bnds]
section
variable {Γ : Ctx} {k : Nat -> Prop} {L : Sl} {H : Hp} {K : ca} {ops : List Oper} {rest : List Oper} {a : Act} {w : World} {e : Env} {t t' ty : TypeId} {x y : Operand}
theorem Addr.add_at (b off j:Nat):(⟨b,off,none⟩:Addr).add j=⟨b,off+j,none⟩:=by
 unfold Go.Addr.add;split
 ·rename_i h;subst h;rfl
 ·rfl
theorem evT (m:Models Γ k L H e a w) {x:Operand} {s:SV} (h:ai L x=s) (hs:∀ v,cSV v≠s):Rel (Γ.X e H) e w s (a.eval x):=by
 cases x with
 | tmp t=>rw [<- h];exact m.slot t
 | const v=>exact absurd h (hs v)
 | global g=>rw [<- h];trivial
 | func f=>rw [<- h];exact⟨[],rfl,trivial⟩
theorem og (v:Value) (es:Nat) (xs:List (List D)):cSV v≠.d (.slice es xs):=by unfold cSV;split<;>simp
theorem cSV_pd (v:Value) (ds:List D):cSV v≠.pd ds:=by unfold cSV;split<;>simp
theorem cSV_loc (v:Value) (i o:Nat):cSV v≠.loc i o:=by unfold cSV;split<;>simp
theorem pu (v:Value) (i:Nat):cSV v≠.row i:=by unfold cSV;split<;>simp
theorem yb (v:Value) (i j s o:Nat):cSV v≠.prow i j s o:=by unfold cSV;split<;>simp
theorem cSV_agg (v:Value) (ss:List SV):cSV v≠.agg ss:=by unfold cSV;split<;>simp
theorem cSV_tup (v:Value) (ss:List SV):cSV v≠.tup ss:=by unfold cSV;split<;>simp
theorem RepC.slice_inv {X w v es xs} (h:RepC X w v (.slice es xs)):∃ ao cap,v = .slice ao xs.length cap/\xs.length<=cap/\cap<=maxLen/\(ao=none->xs=[]):=by
 cases h with
 | nil=>exact⟨none,0,rfl,by simp,Ai _,λ_=>rfl⟩
 | zero=>exact⟨_,0,rfl,by simp,Ai _,λ_=>rfl⟩
 | slice c hn hc hm=>subst hn;exact⟨_,_,rfl,hc,hm,λh=>by cases h⟩
theorem ev_len_d {es:Nat} {xs:List (List D)} (ht:Γ.sh t = .slice t') (hx:ai L x = .d (.slice es xs)):Ev Γ k L H (.call { callee:=.builtin .len,args:=#[x],argTypes:=#[t] }) ty (.d (.int .i64 xs.length)):=by
 intro e a w m;obtain⟨ao,cap,hv,h1,h2,_⟩:=(evT m hx (og · _ _)).slice_inv;refine⟨.int .i64 xs.length,λ_ _ _ _ w' _=>?_,.int (WalkArith.wf_i64 (by unfold maxLen at h2;omega))⟩
 simp [execOp,resolve,invoke,builtin,hv,Builtin.len_,goInt,run_underlying (Ctx.slice ht)]
theorem ev_len_nils (ht:Γ.sh t = .slice t') (hx:ai L x = .nils):Ev Γ k L H (.call { callee:=.builtin .len,args:=#[x],argTypes:=#[t] }) ty (.d (.int .i64 0)):=by
 intro e a w m;have hv:a.eval x = .slice none 0 0:=by
  have hok:opOk x:=by
   cases x with
   | const v=>simp only [ai] at hx;unfold cSV at hx;split at hx<;>simp_all [opOk,cOk]
   | _=>trivial
  have:=m.op x hok
  rw [hx] at this;exact this
 refine⟨.int .i64 0,λ_ _ _ _ w' _=>?_,.int (by decide)⟩
 simp [execOp,resolve,invoke,builtin,hv,Builtin.len_,goInt,run_underlying (Ctx.slice ht)]
theorem Hp.mem_of {id:Nat} {b:HB} (h:Hp.get H id=some b):(id,b)∈H:=Hp.get_mem H id b h
theorem ev_len_row {id es:Nat} {xs:List (List D)} {te:TypeId} (ht:Γ.sh t = .slice t') (hx:ai L x = .row id) (hH:Hp.get H id=some (.row te es xs)) :
  Ev Γ k L H (.call { callee:=.builtin .len,args:=#[x],argTypes:=#[t] }) ty (.d (.int .i64 xs.length)):=by
 intro e a w m;have hv:=(evT m hx (pu · _)).2.1;obtain⟨vs,ho,_⟩:=(m.heap _ (Hp.mem_of hH)).2;have hs:∃ ao cap,e.η id = .slice ao xs.length cap/\xs.length<=maxLen:=by
  rcases ho.2 with ⟨h1,h2⟩|⟨g,cap,cur,h1,_,_,h3,h4,_⟩
  ·exact⟨none,0,by rw [h1,h2],by rw [h2];exact Ai _⟩
  ·exact⟨_,_,h1,Ar h3 h4⟩
 obtain⟨ao,cap,hs,hm⟩:=hs;rw [hs] at hv;refine⟨.int .i64 xs.length,λ_ _ _ _ w' _=>?_,.int (WalkArith.wf_i64 (by unfold maxLen at hm;omega))⟩
 simp [execOp,resolve,invoke,builtin,hv,Builtin.len_,goInt,run_underlying (Ctx.slice ht)]
theorem RepC.at {X w v es} {xs:List (List D)} (h:RepC X w v (.slice es xs)) (i:Nat) (hi:i<xs.length):∃ b off n cap,v = .slice (some ⟨b,off,none⟩) n cap/\n=xs.length/\¬ X b/\b<w.heap.size /\
  ∀ j (hj:j<xs[i].length),∃ u,w.cell? ⟨b,off+i*es+j,none⟩=some u/\RepC X w u xs[i][j]:=by
 cases h with
 | nil=>simp at hi
 | zero=>simp at hi
 | slice c hn hc hm hX hb he hcell hrep=>exact⟨_,_,_,_,rfl,hn,hX,hb,λj hj=>⟨_,hcell i hi j hj,hrep i hi j hj⟩⟩
theorem cw {inf:TypeInfo} (h:Γ.P.info? t=some inf) (w:World):(sizeOf t).run Γ.P w = .ok inf.size w:=by
 simp [sizeOf,typeInfo,h]
theorem ev_index_d {es:Nat} {xs:List (List D)} {n:Int} (ht:Γ.sh t = .slice t') (hc:Γ.cells t'=es) (hkn:(Γ.sh t').known=true) (hx:ai L x = .d (.slice es xs)) (hy:ai L y = .d (.int .i64 n))
  (h0:0<=n) (h1:n.toNat<xs.length):Ev Γ k L H (.indexAddr t x y) ty (.pd (xs[n.toNat]'h1)):=by
 intro e a w m;have ho:=Sh.known_ne hkn;obtain⟨b,off,n',cap,hv,hn,hX,hb,hcell⟩:=(evT m hx (og · _ _)).at _ h1;obtain⟨inf,z,hi,_,hs,_⟩:=Ctx.info ho;refine⟨.pointer (some ⟨b,off+n.toNat*es,none⟩),λ_ _ _ _ w' _=>?_,⟨b,_,rfl,hb,hX,hcell⟩⟩
 have hlt:n<(n':Int):=by omega
 simp [execOp,Instr.indexAt,hv,evI m hy,asIntOf,run_underlying (Ctx.slice ht),h0,hlt,cw hi,hs,hc,Addr.add_at]
theorem ev_index_map {α:Type} {es:Nat} {l:List α} {f:α->List D} {n:Int} {j:Nat} (ht:Γ.sh t = .slice t') (hc:Γ.cells t'=es) (hkn:(Γ.sh t').known=true) (hx:ai L x = .d (.slice es (l.map f))) (hy:ai L y = .d (.int .i64 n))
  (hn:n=j) (h1:j<l.length):Ev Γ k L H (.indexAddr t x y) ty (.pd (f (l[j]'h1))):=by
 subst hn;have:=ev_index_d (Γ:=Γ) (k:=k) (L:=L) (H:=H) (ty:=ty) (t:=t) (x:=x) (y:=y) ht hc hkn hx hy (by omega) (by simpa using h1)
 simpa using this
theorem uw {s:TypeId} {f off fty sz:Nat} {l} {a0 a1:SV} (hs:Γ.sh s = .struct l) (hf:l[f]?=some (off,fty,sz)) (hz:Aw sz 0=false)
  (hx:ai L x=a0) (ha:(∃ ds,a0 = .pd ds/\a1 = .pd (ds.drop off))∨(∃ i o,a0 = .loc i o/\a1 = .loc i (o+off))∨(∃ i j es o,a0 = .prow i j es o/\a1 = .prow i j es (o+off))) :
  Ev Γ k L H (.fieldAddr s x f) ty a1:=by
 obtain⟨fs,hu,hl⟩:=Ctx.struct hs;subst hl;rw [List.getElem?_map] at hf;cases hff:fs.toList[f]? with
 | none=>rw [hff] at hf;cases hf
 | some fd =>
  rw [hff] at hf;simp only [Option.map_some,Option.some.injEq,Prod.mk.injEq] at hf;obtain⟨h1,h2,h3⟩:=hf;have hfa:fs[f]?=some fd:=by rw [<- Array.getElem?_toList];exact hff
  have hinf:∃ inf,Γ.P.info? fd.type=some inf/\inf.size≠0:=by
   cases hi:Γ.P.info? fd.type with
   | none=>rw [hi] at h3;exact absurd h3.symm (Bj hz)
   | some inf=>rw [hi] at h3;exact⟨inf,rfl,λh=>Bj hz (by rw [<- h3,<- h];rfl)⟩
  obtain⟨inf,hi,hne⟩:=hinf;have run:∀ (b o:Nat) (A:Act) (dst:Option Tmp) pos after guard w',A.eval x = .pointer (some ⟨b,o,none⟩) ->
    (execOp A.eval ⟨dst,.fieldAddr s x f,ty,pos,after,guard⟩).run Γ.P w' = .ok (.value (.pointer (some ⟨b,o+off,none⟩))) w':=by
   intro b o A dst pos after guard w' hA;simp [execOp,Instr.fieldAt,hA,run_underlying hu,hfa,Instr.sureAddr,fieldPlace,cw hi,hne,h1,Addr.add_at]
  intro e A w m;rcases ha with ⟨ds,rfl,rfl⟩|⟨i,o,rfl,rfl⟩|⟨i,j,es,o,rfl,rfl⟩
  ·obtain⟨b,o,hv,hb,hX,hcell⟩:=evT m hx (cSV_pd · _);refine⟨_,λdst pos after guard w' _=>run b o A dst pos after guard w' hv,⟨b,_,rfl,hb,hX,λj hj=>?_⟩⟩
   have hj':off+j<ds.length:=by simp at hj;omega
   obtain⟨u,g1,g2⟩:=hcell (off+j) hj';exact⟨u,by rw [Ek];exact g1,by simpa using g2⟩
  ·obtain⟨hid,hv⟩:=evT m hx (cSV_loc · _ _);exact⟨_,λdst pos after guard w' _=>run _ o A dst pos after guard w' hv,⟨hid,rfl⟩⟩
  ·obtain⟨hid,g,n,cap,h5,hv⟩:=evT m hx (yb · _ _ _ _);exact⟨_,λdst pos after guard w' _=>run _ _ A dst pos after guard w' hv,⟨hid,g,n,cap,h5,by rw [Ek]⟩⟩
theorem ev_field_pd {s:TypeId} {f off fty sz:Nat} {l} {ds:List D} (hs:Γ.sh s = .struct l) (hf:l[f]?=some (off,fty,sz)) (hz:Aw sz 0=false) (hx:ai L x = .pd ds):Ev Γ k L H (.fieldAddr s x f) ty (.pd (ds.drop off)) :=
 uw hs hf hz hx (.inl ⟨ds,rfl,rfl⟩)
theorem ev_field_loc {s:TypeId} {f off fty sz i o:Nat} {l} (hs:Γ.sh s = .struct l) (hf:l[f]?=some (off,fty,sz)) (hz:Aw sz 0=false) (hx:ai L x = .loc i o):Ev Γ k L H (.fieldAddr s x f) ty (.loc i (o+off)) :=
 uw hs hf hz hx (.inr (.inl ⟨i,o,rfl,rfl⟩))
theorem ev_field_prow {s:TypeId} {f off fty sz i j es o:Nat} {l} (hs:Γ.sh s = .struct l) (hf:l[f]?=some (off,fty,sz)) (hz:Aw sz 0=false) (hx:ai L x = .prow i j es o):Ev Γ k L H (.fieldAddr s x f) ty (.prow i j es (o+off)) :=
 uw hs hf hz hx (.inr (.inr ⟨i,j,es,o,rfl,rfl⟩))
theorem sc (ho:Γ.sh t≠.other) (hg:(Γ.sh t).isAgg=false) {A:Act} {p:Addr} {v:Value} {w':World} (hA:A.eval x = .pointer (some p)) (hc:w'.cell? p=some v) (dst:Option Tmp) (pos) (after) (guard) :
  (execOp A.eval ⟨dst,.load t x,ty,pos,after,guard⟩).run Γ.P w' = .ok (.value v) w':=by
 simp [execOp,Instr.loadAt,hA,Instr.sureAddr,loadVar,Ctx.agg ho,hg,hc]
theorem f9 {w w':World} (hb:Below w.heap.size w w') {p:Addr} {v:Value} (h:w.cell? p=some v):w'.cell? p=some v:=by
 rw [hb.cell (World.block_lt_of_cell? w p h)];exact h
theorem ev_load_pd {d0:D} {ds:List D} (hkn:(Γ.sh t).known=true) (hg:(Γ.sh t).isAgg=false) (hx:ai L x = .pd (d0::ds)):Ev Γ k L H (.load t x) ty (.d d0):=by
 intro e a w m;have ho:=Sh.known_ne hkn;obtain⟨b,off,hv,hb,hX,hcell⟩:=evT m hx (cSV_pd · _);obtain⟨u,g1,g2⟩:=hcell 0 (by simp);exact⟨u,λ_ _ _ _ w' hw=>sc ho hg hv (f9 hw g1) _ _ _ _,g2⟩
theorem HRel.blk_cell {X e w} {id:Nat} {te:TypeId} {cs:List SV} (h:HRel X e w (id,.blk te cs)) {o:Nat} {s:SV} (hc:cs[o]?=some s):∃ v,w.cell? ⟨e.β id,o,none⟩=some v/\Rel X e w s v:=by
 obtain⟨vs,h1,h2,_⟩:=h;obtain⟨v,g1,g2⟩:=RelL.get cs vs h2 o s hc;exact⟨v,by rw [cell_of_row w _ o _ te (0,0) h1];simpa using g1,g2⟩
theorem ev_load_loc {i o:Nat} {te:TypeId} {cs:List SV} {s:SV} (hkn:(Γ.sh t).known=true) (hg:(Γ.sh t).isAgg=false) (hx:ai L x = .loc i o) (hH:Hp.get H i=some (.blk te cs)) (hc:cs[o]?=some s) :
  Ev Γ k L H (.load t x) ty s:=by
 intro e a w m;have ho:=Sh.known_ne hkn;obtain⟨_,hv⟩:=evT m hx (cSV_loc · _ _);obtain⟨v,g1,g2⟩:=HRel.blk_cell (m.heap _ (Hp.mem_of hH)).2 hc;exact⟨v,λ_ _ _ _ w' hw=>sc ho hg hv (f9 hw g1) _ _ _ _,g2⟩
theorem xw {s:SV} (hx:ai L x=s) (hs:(∃ ds,s = .pd ds)∨(∃ i o,s = .loc i o)∨(∃ i j es o,s = .prow i j es o)):Ev Γ k L H (.nilCheck x) ty s:=by
 intro e a w m;have hv:∃ p,a.eval x = .pointer (some p)/\Rel (Γ.X e H) e w s (a.eval x):=by
  rcases hs with ⟨ds,rfl⟩|⟨i,o,rfl⟩|⟨i,j,es,o,rfl⟩
  ·have hr:=evT m hx (cSV_pd · _);obtain⟨b,off,hv,_⟩:=hr;exact⟨_,hv,evT m hx (cSV_pd · _)⟩
  ·have hr:=evT m hx (cSV_loc · _ _);exact⟨_,hr.2,hr⟩
  ·have hr:=evT m hx (yb · _ _ _ _);obtain⟨_,g,n,cap,_,hv⟩:=hr;exact⟨_,hv,evT m hx (yb · _ _ _ _)⟩
 obtain⟨p,hv,hr⟩:=hv;exact⟨a.eval x,λ_ _ _ _ w' _=>by simp [execOp,hv],hr⟩
theorem cSV_ptr (v:Value) (ds:List D):cSV v≠.d (.ptr ds):=by unfold cSV;split<;>simp
theorem ev_nilPtr {ds:List D} (hx:ai L x = .d (.ptr ds)):Ev Γ k L H (.nilCheck x) ty (.pd ds):=by
 intro e a w m;have hr:RepC (Γ.X e H) w (a.eval x) (.ptr ds):=evT m hx (cSV_ptr · _);obtain⟨v,hv⟩:∃ v,v=a.eval x:=⟨_,rfl⟩;rw [<- hv] at hr;cases hr with
 | @ptr _ _ b off ds c h1 h2 h3 h4 =>
  exact⟨a.eval x,λ_ _ _ _ w' _=>by simp [execOp,<- hv],b,off,hv.symm,h2,h1,λj hj=>⟨c j,h3 j hj,h4 j hj⟩⟩
theorem ev_extract {i:Nat} {ss:List SV} {s:SV} (hx:ai L x = .tup ss) (hi:ss[i]?=some s):Ev Γ k L H (.extract x i) ty s:=by
 intro e a w m;obtain⟨vs,hv,hr⟩:=evT m hx (cSV_tup · _);obtain⟨v,g1,g2⟩:=RelL.get ss vs hr i s hi;exact⟨v,λ_ _ _ _ w' _=>by simp [execOp,Instr.extract,hv,g1],g2⟩
theorem RelL.drop {X e w}:∀ (ss:List SV) (vs:List Value),RelL X e w ss vs->∀ n,RelL X e w (ss.drop n) (vs.drop n)
 | _,_,h,0=>h
 | [],[],_,_+1=>trivial
 | [],_::_,h,_=>h.elim
 | _::_,[],h,_=>h.elim
 | _::ss,_::vs,⟨_,h⟩,n+1=>RelL.drop ss vs h n
theorem RelL.take {X e w}:∀ (ss:List SV) (vs:List Value),RelL X e w ss vs->∀ n,RelL X e w (ss.take n) (vs.take n)
 | _,_,_,0=>by simp [RelL]
 | [],[],_,_+1=>trivial
 | [],_::_,h,_=>h.elim
 | _::_,[],h,_=>h.elim
 | _::ss,_::vs,⟨h1,h2⟩,n+1=>⟨h1,RelL.take ss vs h2 n⟩
theorem RelL.append {X e w}:∀ (ss:List SV) (vs:List Value) (ss':List SV) (vs':List Value),RelL X e w ss vs->RelL X e w ss' vs'->RelL X e w (ss++ss') (vs++vs')
 | [],[],_,_,_,h=>h
 | [],_::_,_,_,h,_=>h.elim
 | _::_,[],_,_,h,_=>h.elim
 | _::ss,_::vs,ss',vs',⟨h1,h2⟩,h=>⟨h1,RelL.append ss vs ss' vs' h2 h⟩
theorem HRel.blk_cells {X e w} {id:Nat} {te:TypeId} {cs:List SV} (h:HRel X e w (id,.blk te cs)) (o n:Nat) (hn:o+n<=cs.length) :
  ∃ vs:List Value,vs.length=n/\(∀ j v,vs[j]?=some v->w.cell? ((⟨e.β id,o,none⟩:Addr).add j)=some v)/\RelL X e w ((cs.drop o).take n) vs/\∀ v∈vs,v.oneCell'=true:=by
 obtain⟨vs,h1,h2,h3⟩:=h;have hl:=RelL.length _ _ h2;refine⟨(vs.drop o).take n,by simp;omega,λj v hj=>?_,RelL.take _ _ (RelL.drop _ _ h2 o) n,λv hv=>h3 v (List.mem_of_mem_drop (List.mem_of_mem_take hv))⟩
 rw [Addr.add_at,cell_of_row w _ _ _ te (0,0) h1];rw [List.getElem?_take] at hj;split at hj
 ·simpa using hj
 ·cases hj
theorem m8 (ho:Γ.sh t≠.other) (hg:(Γ.sh t).isAgg=true) {p:Addr} {vs:List Value} {w':World} (hn:vs.length=Γ.cells t) (hc:∀ j v,vs[j]?=some v->w'.cell? (p.add j)=some v) :
  (loadVar t p).run Γ.P w' = .ok (.agg vs.toArray) w':=by
 obtain⟨inf,z,hi,_,hs,_⟩:=Ctx.info ho;have:=run_loadCells_list (P:=Γ.P) (w:=w') p vs hc
 rw [hn,<- hs] at this;simp [loadVar,Ctx.agg ho,hg,cw hi,this]
theorem ev_load_agg_loc {i o:Nat} {te:TypeId} {cs:List SV} {l} (ht:Γ.sh t = .struct l) (hx:ai L x = .loc i o) (hH:Hp.get H i=some (.blk te cs)) (hn:B6 (o+Γ.cells t) cs.length=true) :
  Ev Γ k L H (.load t x) ty (.agg ((cs.drop o).take (Γ.cells t))):=by
 intro e a w m;obtain⟨_,hv⟩:=evT m hx (cSV_loc · _ _);obtain⟨vs,g1,g2,g3,_⟩:=HRel.blk_cells (m.heap _ (Hp.mem_of hH)).2 o (Γ.cells t) (Ac hn);have ho:Γ.sh t≠.other:=by rw [ht];intro h;cases h
 refine⟨.agg vs.toArray,λ_ _ _ _ w' hw=>?_,⟨vs,rfl,g3⟩⟩
 have hr:=m8 (Γ:=Γ) (t:=t) (w':=w') (p:=⟨e.β i,o,none⟩) ho (by rw [ht];rfl) g1 (λj v hj=>f9 hw (g2 j v hj));simp [execOp,Instr.loadAt,hv,Instr.sureAddr,hr]
theorem ev_load_agg_pd {ds:List D} {l} (ht:Γ.sh t = .struct l) (hx:ai L x = .pd ds) (hnb:B6 (Γ.cells t) ds.length=true):Ev Γ k L H (.load t x) ty (.agg ((ds.take (Γ.cells t)).map .d)):=by
 intro e a w m;have hn:=Ac hnb;obtain⟨b,off,hv,hb,hX,hcell⟩:=evT m hx (cSV_pd · _);have ho:Γ.sh t≠.other:=by rw [ht];intro h;cases h
 have key:∀ n,n<=ds.length->∃ vs:List Value,vs.length=n/\(∀ j v,vs[j]?=some v->w.cell? ((⟨b,off,none⟩:Addr).add j)=some v)/\RelL (Γ.X e H) e w ((ds.take n).map .d) vs:=by
  intro n;induction n with
  | zero=>intro _;exact⟨[],rfl,by simp,by simp [RelL]⟩
  | succ n ih =>
   intro hle;obtain⟨vs,h1,h2,h3⟩:=ih (by omega);obtain⟨u,g1,g2⟩:=hcell n (by omega);refine⟨vs++[u],by simp [h1],λj v hj=>?_,?_⟩
   ·by_cases hlt:j<vs.length
    ·rw [List.getElem?_append_left hlt] at hj;exact h2 j v hj
    ·rw [List.getElem?_append_right (by omega)] at hj;have:j=n:=by
      rcases Nat.lt_or_ge (j-vs.length) 1 with h|h
      ·omega
      ·rw [List.getElem?_eq_none (by simpa using h)] at hj;cases hj
     subst this;rw [Addr.add_at];simp [h1] at hj;rw [<- hj];exact g1
   ·rw [List.take_succ_eq_append_getElem (by omega),List.map_append];exact RelL.append _ _ _ _ h3 ⟨g2,trivial⟩
 obtain⟨vs,g1,g2,g3⟩:=key _ hn;refine⟨.agg vs.toArray,λ_ _ _ _ w' hw=>?_,⟨vs,rfl,g3⟩⟩
 have hr:=m8 (Γ:=Γ) (t:=t) (w':=w') (p:=⟨b,off,none⟩) ho (by rw [ht];rfl) g1 (λj v hj=>f9 hw (g2 j v hj));simp [execOp,Instr.loadAt,hv,Instr.sureAddr,hr]
end
end
end Go.Proofs.YtapciiffpnociadGreat
