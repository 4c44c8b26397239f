/- Several texts in one: Gx Tab GxOps. Condition: none. -/
import Derived.WalkKit
import Derived.Deep.Quiet
import Derived.Sort.LoopGhostIn
import Derived.OrdersIn
import Derived.TacticsIn
import Derived.RangeFuncRecord
import Derived.Test.YtapciiffpnociabGreatDoorProg
import Derived.KernelRfl
import Derived.WalkSpells
import Derived.Orders
namespace Go.Proofs.YtapciiffpnociabGreatDoor
open Go Go.RowKit
inductive D where
 | int (k:IntKind) (n:Int)
 | bool (b:Bool)
 | str (s:ByteArray)
 | slice (es:Nat) (xs:List (List D))
 | ptr (ds:List D)
inductive RepC (X:Nat→Prop) (w:World):Value→D→Prop
 | int {k n} (h:(Lit.int k n).wf=true):RepC X w (.int k n) (.int k n)
 | bool {b}:RepC X w (.bool b) (.bool b)
 | str {s} (h:s.size≤maxLen):RepC X w (.string s) (.str s)
 | nil {es}:RepC X w (.slice none 0 0) (.slice es [])
 | zero {es a}:RepC X w (.slice (some a) 0 0) (.slice es [])
 | slice {b off n cap es:Nat} {xs:List (List D)} (c:Nat→Nat→Value) (hn:n=xs.length) (hc:n≤cap) (hm:cap≤maxLen) (hX:¬ X b) (hb:b < w.heap.size)
   (he:∀ i (h:i < xs.length),(xs[i]'h).length=es)
   (hcell:∀ i (h:i < xs.length) j (_:j < (xs[i]'h).length),w.cell? ⟨b,off + i * es + j,none⟩=some (c i j))
   (hrep:∀ i (h:i < xs.length) j (hj:j < (xs[i]'h).length),RepC X w (c i j) ((xs[i]'h)[j]'hj))
   (hz:∀ i (h:i < xs.length) j (_:j < (xs[i]'h).length),w.frozen? ⟨b,off + i * es + j,none⟩=false) :
   RepC X w (.slice (some ⟨b,off,none⟩) n cap) (.slice es xs)
 | ptr {b off:Nat} {ds:List D} (c:Nat→Value) (hX:¬ X b) (hb:b < w.heap.size) (hcell:∀ j (_:j < ds.length),w.cell? ⟨b,off + j,none⟩=some (c j)) (hrep:∀ j (hj:j < ds.length),RepC X w (c j) (ds[j]'hj)) (hz:∀ j (_:j < ds.length),w.frozen? ⟨b,off + j,none⟩=false) :
   RepC X w (.pointer (some ⟨b,off,none⟩)) (.ptr ds)
theorem frozen_of_block {w w':World} {b o:Nat} (h:w'.heap[b]? = w.heap[b]?):w'.frozen? ⟨b,o,none⟩=w.frozen? ⟨b,o,none⟩:=by simp only [World.frozen?,h]
theorem frozen_of_row {w:World} {b o:Nat} {c:Array Value} {t:TypeId} (h:w.heap[b]? = some (.cells c t (0,0))):w.frozen? ⟨b,o,none⟩=false:=by simp [World.frozen?,h]
theorem RepC.keep {X Y:Nat→Prop} {w w':World} (hs:w.heap.size≤w'.heap.size) (hb:∀ b,b < w.heap.size→¬ X b→w'.heap[b]? = w.heap[b]?) (hY:∀ b,b < w.heap.size→Y b→X b)
  {v:Value} {x:D} (h:RepC X w v x):RepC Y w' v x:=by
 induction h with
 | int h=>exact .int h
 | bool=>exact .bool
 | str h=>exact .str h
 | nil=>exact .nil
 | zero=>exact .zero
 | slice c hn hc hm hX hb' he hcell hrep hz ih =>
  exact .slice c hn hc hm (fun hy=>hX (hY _ hb' hy)) (Nat.lt_of_lt_of_le hb' hs) he
   (fun i h j hj=>(World.cell?_of_block (w:=w) (hb _ hb' hX)).trans (hcell i h j hj)) ih (fun i h j hj=>(frozen_of_block (w:=w) (hb _ hb' hX)).trans (hz i h j hj))
 | ptr c hX hb' hcell hrep hz ih =>
  exact .ptr c (fun hy=>hX (hY _ hb' hy)) (Nat.lt_of_lt_of_le hb' hs) (fun j hj=>(World.cell?_of_block (w:=w) (hb _ hb' hX)).trans (hcell j hj)) ih (fun j hj=>(frozen_of_block (w:=w) (hb _ hb' hX)).trans (hz j hj))
inductive MK where
 | str (s:ByteArray)
 | pair (a b:Int)
def MK.val:MK→Value
 | .str s=>.string s
 | .pair a b=>.agg #[.int .i64 a,.int .i64 b]
def MK.ok (kd:Bool):MK→Prop
 | .str s=>kd=true∧s.size≤maxLen
 | .pair a b=>kd=false∧(Lit.int .i64 a).wf=true∧(Lit.int .i64 b).wf=true
def Stamps (es:Array MapEntry) (clock:Nat):Prop:=es.toList.Pairwise (fun x y=>x.born≠y.born)∧∀ x∈es.toList,x.born < clock
structure MapIs (w:World) (b:Nat) (kd:Bool) (kvs:List (MK × Int)):Prop where
 es:∃ (es:Array MapEntry) (clock:Nat),w.heap[b]? = some (.map es clock)∧es.toList.map (fun x=>(x.key,x.val))=kvs.map (fun p=>(p.1.val,Value.int .i64 p.2))∧Stamps es clock
 keys:kvs.Pairwise fun p q=>p.1≠q.1
 wf:∀ p∈kvs,p.1.ok kd∧(Lit.int .i64 p.2).wf=true
theorem MapIs.keep {w w':World} {b:Nat} {kd:Bool} {kvs:List (MK × Int)} (h:MapIs w b kd kvs) (hb:∀ es clock,w.heap[b]? = some (.map es clock)→w'.heap[b]? = some (.map es clock)):MapIs w' b kd kvs :=
 let ⟨es,clock,h1,h2⟩:=h.es
 ⟨⟨es,clock,hb _ _ h1,h2⟩,h.keys,h.wf⟩
inductive SV where
 | junk
 | d (x:D)
 | nils
 | pd (ds:List D)
 | loc (id off:Nat)
 | row (id:Nat)
 | mp (id:Nat)
 | md (kd:Bool) (kvs:List (MK × Int))
 | prow (id k es off:Nat)
 | sl (id off n cap:Nat)
 | rsl (id es k n:Nat)
 | rg (B q:Nat) (x:D)
 | fn (f:FuncId) (caps:List SV)
 | agg (ss:List SV)
 | tup (ss:List SV)
 | val (v:Value)
inductive ShpC (X:Nat→Prop) (w:World):Value→D→Prop
 | int {k n m} (h:(Lit.int k m).wf=true):ShpC X w (.int k m) (.int k n)
 | bool {b c}:ShpC X w (.bool b) (.bool c)
 | str {s t} (h:s.size≤maxLen):ShpC X w (.string s) (.str t)
 | nil {es}:ShpC X w (.slice none 0 0) (.slice es [])
 | zero {es a}:ShpC X w (.slice (some a) 0 0) (.slice es [])
 | slice {b off n cap es:Nat} {xs:List (List D)} (c:Nat→Nat→Value) (hn:n=xs.length) (hc:n≤cap) (hm:cap≤maxLen) (hX:¬ X b) (hb:b < w.heap.size)
   (he:∀ i (h:i < xs.length),(xs[i]'h).length=es)
   (hcell:∀ i (h:i < xs.length) j (_:j < (xs[i]'h).length),w.cell? ⟨b,off + i * es + j,none⟩=some (c i j))
   (hrep:∀ i (h:i < xs.length) j (hj:j < (xs[i]'h).length),ShpC X w (c i j) ((xs[i]'h)[j]'hj))
   (hz:∀ i (h:i < xs.length) j (_:j < (xs[i]'h).length),w.frozen? ⟨b,off + i * es + j,none⟩=false) :
   ShpC X w (.slice (some ⟨b,off,none⟩) n cap) (.slice es xs)
 | ptr {b off:Nat} {ds:List D} (c:Nat→Value) (hX:¬ X b) (hb:b < w.heap.size) (hcell:∀ j (_:j < ds.length),w.cell? ⟨b,off + j,none⟩=some (c j)) (hrep:∀ j (hj:j < ds.length),ShpC X w (c j) (ds[j]'hj)) (hz:∀ j (_:j < ds.length),w.frozen? ⟨b,off + j,none⟩=false) :
   ShpC X w (.pointer (some ⟨b,off,none⟩)) (.ptr ds)
theorem RepC.shp {X:Nat→Prop} {w:World} {v:Value} {x:D} (h:RepC X w v x):ShpC X w v x:=by
 induction h with
 | int h=>exact .int h
 | bool=>exact .bool
 | str h=>exact .str h
 | nil=>exact .nil
 | zero=>exact .zero
 | slice c hn hc hm hX hb he hcell hrep hz ih=>exact .slice c hn hc hm hX hb he hcell ih hz
 | ptr c hX hb hcell hrep hz ih=>exact .ptr c hX hb hcell ih hz
theorem ShpC.keep {X Y:Nat→Prop} {w w':World} (hs:w.heap.size≤w'.heap.size) (hb:∀ b,b < w.heap.size→¬ X b→w'.heap[b]? = w.heap[b]?) (hY:∀ b,b < w.heap.size→Y b→X b)
  {v:Value} {x:D} (h:ShpC X w v x):ShpC Y w' v x:=by
 induction h with
 | int h=>exact .int h
 | bool=>exact .bool
 | str h=>exact .str h
 | nil=>exact .nil
 | zero=>exact .zero
 | slice c hn hc hm hX hb' he hcell hrep hz ih =>
  exact .slice c hn hc hm (fun hy=>hX (hY _ hb' hy)) (Nat.lt_of_lt_of_le hb' hs) he
   (fun i h j hj=>(World.cell?_of_block (w:=w) (hb _ hb' hX)).trans (hcell i h j hj)) ih (fun i h j hj=>(frozen_of_block (w:=w) (hb _ hb' hX)).trans (hz i h j hj))
 | ptr c hX hb' hcell hrep hz ih =>
  exact .ptr c (fun hy=>hX (hY _ hb' hy)) (Nat.lt_of_lt_of_le hb' hs) (fun j hj=>(World.cell?_of_block (w:=w) (hb _ hb' hX)).trans (hcell j hj)) ih (fun j hj=>(frozen_of_block (w:=w) (hb _ hb' hX)).trans (hz j hj))
def lim (X:Nat→Prop) (B q:Nat):Nat→Prop:=fun b=>X b∨match q with|0=>B≤b|_=>b < B
theorem lim_sub {X Y:Nat→Prop} {B q n:Nat} (h:∀ b,b < n→Y b→X b):∀ b,b < n→lim Y B q b→lim X B q b:=fun b hb h2=>h2.imp (h b hb) id
def RgC (X:Nat→Prop) (w:World) (B q:Nat) (v:Value) (x:D):Prop:=B≤w.heap.size∧match q with|2=>ShpC (lim X B 2) w v x|q=>RepC (lim X B q) w v x
theorem RgC.keep {X Y:Nat→Prop} {w w':World} {B q:Nat} (hs:w.heap.size≤w'.heap.size) (hb:∀ b,b < w.heap.size→¬ X b→w'.heap[b]? = w.heap[b]?) (hY:∀ b,b < w.heap.size→Y b→X b)
  {v:Value} {x:D} (h:RgC X w B q v x):RgC Y w' B q v x:=by
 refine⟨Nat.le_trans h.1 hs,?_⟩
 have h2:=h.2
 split
 ·exact ShpC.keep hs (fun b h1 h3=>hb b h1 fun h4=>h3 (.inl h4)) (lim_sub hY) h2
 ·split at h2
  ·rename_i h5;exact absurd rfl h5
  ·exact RepC.keep hs (fun b h1 h3=>hb b h1 fun h4=>h3 (.inl h4)) (lim_sub hY) h2
inductive HB where
 | blk (ty:TypeId) (cs:List SV)
 | row (ty:TypeId) (es:Nat) (xs:List (List D))
 | map (kd:Bool) (kvs:List (MK × Int))
abbrev Sl:=List (Nat × SV)
abbrev Hp:=List (Nat × HB)
structure Env where
 β:Nat→Nat
 η:Nat→Value
 dom:Nat→Prop
def Env.an (e:Env) (j:Nat):Nat × Value:=(e.β j,e.η j)
theorem Env.an_ext {e e':Env} {j:Nat} (h:e'.β j=e.β j∧e'.η j=e.η j):e'.an j=e.an j:=Prod.ext h.1 h.2
theorem Env.an_β {e e':Env} {j:Nat} (h:e'.an j=e.an j):e'.β j=e.β j:=congrArg Prod.fst h
theorem Env.an_η {e e':Env} {j:Nat} (h:e'.an j=e.an j):e'.η j=e.η j:=congrArg Prod.snd h
abbrev lo (k:Nat):Nat→Prop:=fun i=>i < k
instance:Coe Nat (Nat→Prop):=⟨lo⟩
mutual
def Rel (X:Nat→Prop) (e:Env) (w:World):SV→Value→Prop
 | .junk,_=>True
 | .d x,v=>RepC X w v x
 | .nils,v=>v = .slice none 0 0
 | .pd ds,v=>∃ b off,v = .pointer (some ⟨b,off,none⟩)∧b < w.heap.size∧¬ X b∧∀ j (h:j < ds.length),∃ u,w.cell? ⟨b,off + j,none⟩=some u∧RepC X w u ds[j]
 | .loc id off,v=>e.dom id∧v = .pointer (some ⟨e.β id,off,none⟩)
 | .row id,v=>e.dom id∧v=e.η id∧v.oneCell' = true
 | .mp id,v=>e.dom id∧v = .map (some (e.β id))
 | .md kd kvs,v=>∃ b,v = .map (some b)∧b < w.heap.size∧¬ X b∧MapIs w b kd kvs
 | .prow id k es off,v=>e.dom id∧∃ g n cap,e.η id = .slice (some ⟨g,0,none⟩) n cap∧v = .pointer (some ⟨g,k * es + off,none⟩)
 | .sl id off n cap,v=>e.dom id∧n≤cap∧cap≤maxLen∧∃ o,v = .slice (some ⟨e.β id,o,none⟩) n cap∧(0 < cap→o=off)
 | .rsl id es k n,v=>e.dom id∧v.oneCell' = true∧((e.η id = .slice none 0 0∧v = .slice none 0 0∧k=0∧n=0)∨∃ g n0 cap o,e.η id = .slice (some ⟨g,0,none⟩) n0 cap∧k≤cap∧cap≤maxLen∧n≤cap - k∧v = .slice (some ⟨g,o,none⟩) n (cap - k)∧(k < cap∨k=0→o=k * es))
 | .rg B q x,v=>RgC X w B q v x
 | .fn f caps,v=>∃ vs,v = .func (.func f) #[] (List.toArray vs)∧RelL X e w caps vs
 | .agg ss,v=>∃ vs,v = .agg (List.toArray vs)∧RelL X e w ss vs
 | .tup ss,v=>∃ vs,v = .tuple (List.toArray vs)∧RelL X e w ss vs
 | .val u,v=>v=u
def RelL (X:Nat→Prop) (e:Env) (w:World):List SV→List Value→Prop
 | [],[]=>True
 | s::ss,v::vs=>Rel X e w s v∧RelL X e w ss vs
 | _,_=>False
end
mutual
theorem Rel.keep {X Y:Nat→Prop} {e:Env} {w w':World} (hs:w.heap.size≤w'.heap.size) (hb:∀ b,b < w.heap.size→¬ X b→w'.heap[b]? = w.heap[b]?) (hY:∀ b,b < w.heap.size→Y b→X b) :
  ∀ (s:SV) (v:Value),Rel X e w s v→Rel Y e w' s v
 | .junk,_,_=>trivial
 | .d _,_,h=>RepC.keep hs hb hY h
 | .nils,_,h=>h
 | .pd _,_,⟨b,off,h1,h2,h3,h4⟩=>⟨b,off,h1,Nat.lt_of_lt_of_le h2 hs,fun hy=>h3 (hY _ h2 hy),fun j hj =>
   let ⟨u,g1,g2⟩:=h4 j hj
   ⟨u,(World.cell?_of_block (w:=w) (hb _ h2 h3)).trans g1,RepC.keep hs hb hY g2⟩⟩
 | .loc _ _,_,h=>h
 | .row _,_,h=>h
 | .mp _,_,h=>h
 | .md _ _,_,⟨b,h1,h2,h3,h4⟩=>⟨b,h1,Nat.lt_of_lt_of_le h2 hs,fun hy=>h3 (hY _ h2 hy),h4.keep fun _ _ hh=>(hb _ h2 h3).trans hh⟩
 | .prow _ _ _ _,_,h=>h
 | .sl _ _ _ _,_,h=>h
 | .rsl _ _ _ _,_,h=>h
 | .rg _ _ _,_,h=>RgC.keep hs hb hY h
 | .fn _ caps,_,⟨vs,h1,h2⟩=>⟨vs,h1,RelL.keep hs hb hY caps vs h2⟩
 | .agg ss,_,⟨vs,h1,h2⟩=>⟨vs,h1,RelL.keep hs hb hY ss vs h2⟩
 | .tup ss,_,⟨vs,h1,h2⟩=>⟨vs,h1,RelL.keep hs hb hY ss vs h2⟩
 | .val _,_,h=>h
theorem RelL.keep {X Y:Nat→Prop} {e:Env} {w w':World} (hs:w.heap.size≤w'.heap.size) (hb:∀ b,b < w.heap.size→¬ X b→w'.heap[b]? = w.heap[b]?) (hY:∀ b,b < w.heap.size→Y b→X b) :
  ∀ (ss:List SV) (vs:List Value),RelL X e w ss vs→RelL Y e w' ss vs
 | [],[],_=>trivial
 | [],_::_,h=>h.elim
 | _::_,[],h=>h.elim
 | s::ss,v::vs,⟨h1,h2⟩=>⟨Rel.keep hs hb hY s v h1,RelL.keep hs hb hY ss vs h2⟩
end
theorem RelL.length {X e w}:∀ (ss:List SV) (vs:List Value),RelL X e w ss vs→ss.length=vs.length
 | [],[],_=>rfl
 | [],_::_,h=>h.elim
 | _::_,[],h=>h.elim
 | _::ss,_::vs,⟨_,h⟩=>by simp [RelL.length ss vs h]
theorem RelL.get {X e w}:∀ (ss:List SV) (vs:List Value),RelL X e w ss vs→∀ (i:Nat) (s:SV),ss[i]? = some s→∃ v,vs[i]? = some v∧Rel X e w s v
 | [],[],_,_,_,h=>by simp at h
 | [],_::_,h,_,_,_=>h.elim
 | _::_,[],h,_,_,_=>h.elim
 | s::ss,v::vs,⟨h1,h2⟩,i,s',hi=>by
  cases i with
  | zero=>simp at hi;subst hi;exact⟨v,by simp,h1⟩
  | succ i=>simpa using RelL.get ss vs h2 i s' (by simpa using hi)
theorem RelL.mk {X e w}:∀ (ss:List SV) (vs:List Value),ss.length=vs.length→(∀ (i:Nat) (s:SV) (v:Value),ss[i]? = some s→vs[i]? = some v→Rel X e w s v)→RelL X e w ss vs
 | [],[],_,_=>trivial
 | [],_::_,h,_=>by simp at h
 | _::_,[],h,_=>by simp at h
 | s::ss,v::vs,h,hr=>⟨hr 0 s v (by simp) (by simp),RelL.mk ss vs (by simpa using h) fun i s' v' h1 h2=>hr (i + 1) s' v' (by simpa using h1) (by simpa using h2)⟩
theorem RelL.set {X e w}:∀ (ss:List SV) (vs:List Value),RelL X e w ss vs→∀ (i:Nat) (s:SV) (v:Value),Rel X e w s v→RelL X e w (ss.set i s) (vs.set i v)
 | [],[],_,_,_,_,_=>trivial
 | [],_::_,h,_,_,_,_=>h.elim
 | _::_,[],h,_,_,_,_=>h.elim
 | s::ss,v::vs,⟨h1,h2⟩,i,s',v',hr=>by
  cases i with
  | zero=>exact⟨hr,h2⟩
  | succ i=>exact⟨h1,RelL.set ss vs h2 i s' v' hr⟩
def HB.owned (e:Env):Nat × HB→Option Nat
 | (id,.blk _ _)=>some (e.β id)
 | (id,.row _ _ _)=>(e.η id).ownBlock
 | (id,.map _ _)=>some (e.β id)
def ownedL (e:Env) (H:Hp):List Nat:=H.filterMap (HB.owned e)
def HRel (X:Nat→Prop) (e:Env) (w:World):Nat × HB→Prop
 | (id,.blk ty cs)=>∃ vs,w.heap[e.β id]? = some (.cells (List.toArray vs) ty (0,0))∧RelL X e w cs vs∧∀ v∈vs,v.oneCell' = true
 | (id,.row ty es xs)=>∃ vs,w.ownsRow 0 ty es (e.η id) xs.length vs∧(∀ i (h:i < xs.length),(xs[i]'h).length=es)∧(∀ v∈vs,v.oneCell' = true) ∧
   ∀ i (h:i < xs.length) j (hj:j < (xs[i]'h).length),∃ v,vs[i * es + j]? = some v∧RepC X w v ((xs[i]'h)[j]'hj)
 | (id,.map kd kvs)=>MapIs w (e.β id) kd kvs
inductive Sh where
 | int (k:IntKind)
 | bool
 | str
 | slice (e:TypeId)
 | struct (fs:List (Nat × TypeId × Nat))
 | ptr (e:TypeId)
 | map (k e:TypeId)
 | other
structure TI where
 sh:Sh
 cells:Nat
 bytes:Nat
 zero:List Value
 eqs:Bool
def shOf (P:Program):TypeDesc→Sh
 | .int k=>.int k
 | .bool=>.bool
 | .string=>.str
 | .slice e=>.slice e
 | .struct fs=>.struct (fs.toList.map fun f=>(f.offset,f.type,((P.info? f.type).map (·.size)).getD 0))
 | .pointer e=>.ptr e
 | .map k e=>.map k e
 | _=>.other
def flatEqB (P:Program) (t:TypeId):Bool:=match P.underlying t with
 | some (.struct fs) => !P.stoodInHeld t && (!P.eqGuardType P.depth t && fs.toList.all fun f => f.name != "_")
 | _=>false
def tiOf (P:Program) (t:TypeId):Option TI :=
 match P.underlying t,P.info? t with
 | some u,some i=>match i.zero with
  | some z=>some ⟨shOf P u,i.size,i.bytes,z.cells.toList,flatEqB P t⟩
  | none=>none
 | _,_=>none
def tiGet:List (Nat × TI)→Nat→TI
 | [],_=>⟨.other,0,0,[],false⟩
 | (d,s)::L,t=>match Nat.beq d t with|true=>s|false=>tiGet L t
def TabOk (P:Program) (τ:List (Nat × TI)):Prop:=τ.map (fun p=>tiOf P p.1)=τ.map (fun p=>some p.2)
theorem tiGet_ok {P:Program}:∀ {τ:List (Nat × TI)},TabOk P τ→∀ t,(tiGet τ t).sh≠.other→tiOf P t=some (tiGet τ t)
 | [],_,_,hn=>absurd rfl hn
 | (d,s)::L,h,t,hn=>by
  simp only [TabOk,List.map_cons,List.cons.injEq] at h
  simp only [tiGet] at hn ⊢
  cases hb:Nat.beq d t with
  | true=>have:=Nat.eq_of_beq_eq_true hb;subst this;exact h.1
  | false=>rw [hb] at hn;exact tiGet_ok (τ:=L) h.2 t hn
structure Pan where
 may:Value→Sl→Hp→Prop
 base:List Deferred
structure Ctx where
 P:Program
 τ:List (Nat × TI)
 τok:TabOk P τ
 O:Nat→Prop
 w0:World
 E0:Nat→Prop
 n:Nat
 J:Nat
 β0:Nat→Nat × Value
 rd:Option Nat
 pan:Pan
 mks:Bool
 dr:Bool
structure Beld (dr:Bool) (B:Nat) (w w':World):Prop extends Below B w w' where
 drawn:dr=true→w.drawn≤w'.drawn
theorem Beld.refl (dr:Bool) (B:Nat) (w:World):Beld dr B w w:=⟨Below.refl B w,fun _=>Nat.le_refl _⟩
theorem Beld.trans {dr:Bool} {B:Nat} {a b c:World} (h:Beld dr B a b) (k:Beld dr B b c):Beld dr B a c:=⟨h.toBelow.trans k.toBelow,fun hd=>Nat.le_trans (h.drawn hd) (k.drawn hd)⟩
theorem Beld.mono {dr:Bool} {B B':Nat} {w w':World} (h:Beld dr B w w') (hB:B'≤B):Beld dr B' w w':=⟨h.toBelow.mono hB,h.drawn⟩
theorem Beld.drew {dr:Bool} {B:Nat} {a w:World} (h:Beld dr B a w):Beld dr B a w.drew:=⟨h.toBelow.drew,fun hd=>Nat.le_trans (h.drawn hd) (Nat.le_succ _)⟩
abbrev noPan:Pan:=⟨fun _ _ _=>False,[]⟩
class NoDr (Γ:Ctx):Prop where
 no:Γ.dr=false
instance {P τ τok O w0 E0 n J β0 rd pan mks}:NoDr ⟨P,τ,τok,O,w0,E0,n,J,β0,rd,pan,mks,false⟩:=⟨rfl⟩
theorem Beld.no {Γ:Ctx} [h:NoDr Γ] {B:Nat} {w w':World} (hb:Below B w w'):Beld Γ.dr B w w':=⟨hb,fun hd=>by rw [h.no] at hd;cases hd⟩
theorem NoDr.any {Γ:Ctx} [h:NoDr Γ] {p:Prop} (hd:Γ.dr=true):p:=by rw [h.no] at hd;cases hd
def mark (r:Nat):Deferred:={ target:=.collected r,args:=#[] }
def Marks (n:Nat) (ro:Bool) (bs:List Deferred) (ds:List Deferred) (w:World):Prop:=∃ rs:List Nat,ds=rs.map mark++bs∧(ro=false→rs=[])∧rs.Nodup∧∀ r∈rs,n≤r∧w.heap[r]? = some (.deferred (some []))
theorem Marks.nil {n:Nat} {ro:Bool} {bs:List Deferred} {w:World}:Marks n ro bs bs w:=⟨[],rfl,fun _=>rfl,.nil,fun _ h=>nomatch h⟩
theorem Marks.keep {n:Nat} {ro:Bool} {bs ds:List Deferred} {w w':World} (h:Marks n ro bs ds w) (hk:∀ r:Nat,w.heap[r]? = some (Obj.deferred (some []))→w'.heap[r]? = w.heap[r]?):Marks n ro bs ds w' :=
 let ⟨rs,h1,h0,h2,h3⟩:=h
 ⟨rs,h1,h0,h2,fun r hr=>⟨(h3 r hr).1,(hk r (h3 r hr).2).trans (h3 r hr).2⟩⟩
theorem lt_of_heap {w:World} {r:Nat} {o:Obj} (h:w.heap[r]? = some o):r < w.heap.size:=(Array.getElem?_eq_some_iff.1 h).1
theorem Marks.below {n:Nat} {ro:Bool} {bs ds:List Deferred} {w w':World} (h:Marks n ro bs ds w) (hb:Below w.heap.size w w'):Marks n ro bs ds w' :=
 h.keep fun r hr=>hb.block r (lt_of_heap hr)
def Ctx.X (Γ:Ctx) (e:Env) (H:Hp):Nat→Prop:=fun b=>Γ.O b∨b∈ownedL e H
def Sl.get:Sl→Nat→SV
 | [],_=>.junk
 | (d,s)::L,t=>match Nat.beq d t with|true=>s|false=>Sl.get L t
def Tabs (P : Program) (E : Nat → Prop) (w : World) : Prop := ∀ g, P.globalNamed "internal/strconv.uint64pow10" = some g → ¬ E g ∧ ∃ a b, w.heap[g]? = some (.cells (((List.range 20).map fun i => Value.int .u64 ((10 ^ i : Nat) : Int)).toArray) a b)
theorem Tabs.sub {P:Program} {E E':Nat→Prop} {w:World} (h:Tabs P E w) (ho:∀ b,E' b→E b):Tabs P E' w:=fun g hg =>
 let ⟨h1,h2⟩:=h g hg
 ⟨fun hx=>h1 (ho g hx),h2⟩
structure Heap (Γ:Ctx) (k:Nat→Prop) (H:Hp) (e:Env) (w:World):Prop where
 top:∀ i,e.dom i↔k i
 heap:∀ p∈H,e.dom p.1∧HRel (Γ.X e H) e w p
 ids:(H.map (·.1)).Nodup
 nodup:(ownedL e H).Nodup
 mine:∀ b∈ownedL e H,(Γ.E0 b∨Γ.w0.heap.size≤b)∧¬ Γ.O b
 os:w.os=Γ.w0.os
 tape:w.tape=Γ.w0.tape
 output:w.output=Γ.w0.output
 drawn:Γ.dr=true→Γ.w0.drawn≤w.drawn
 size:Γ.w0.heap.size≤w.heap.size
 block:∀ b,b < Γ.w0.heap.size→¬ Γ.E0 b→w.heap[b]? = Γ.w0.heap[b]?
 obound:∀ b,Γ.O b→b < Γ.w0.heap.size∧¬ Γ.E0 b
 tabs:Tabs Γ.P Γ.E0 Γ.w0
 jle:∀ j,j < Γ.J→k j
 anchor:∀ j,j < Γ.J→e.an j=Γ.β0 j
structure Models (Γ:Ctx) (k:Nat→Prop) (L:Sl) (H:Hp) (e:Env) (a:Act) (w:World):Prop extends Heap Γ k H e w where
 defers:Marks Γ.w0.heap.size Γ.mks Γ.pan.base a.defers w
 len:a.tmps.size=Γ.n
 slot:∀ t,Rel (Γ.X e H) e w (L.get t) (a.tmps.getD t undef)
theorem Heap.tabsAt {Γ:Ctx} {k:Nat→Prop} {H:Hp} {e:Env} {w:World} (h:Heap Γ k H e w):Tabs Γ.P (fun b=>b∈ownedL e H) w:=fun g hg=>by
 obtain⟨h1,a,b,h2⟩:=h.tabs g hg
 have hlt:g < Γ.w0.heap.size:=(Array.getElem?_eq_some_iff.1 h2).1
 refine⟨fun hx=>?_,a,b,(h.block g hlt h1).trans h2⟩
 rcases (h.mine g hx).1 with h3|h3
 ·exact h1 h3
 ·omega
theorem Heap.lt {Γ:Ctx} {k:Nat→Prop} {H:Hp} {e:Env} {w:World} (h:Heap Γ k H e w):∀ b∈ownedL e H,b < w.heap.size:=by
 intro b hb
 obtain⟨p,hp,hb⟩:=List.mem_filterMap.1 hb
 have hr:=(h.heap p hp).2
 obtain⟨id,hbk⟩:=p
 cases hbk with
 | blk ty cs =>
  obtain⟨vs,h1,_⟩:=hr
  simp [HB.owned] at hb;subst hb
  exact (Array.getElem?_eq_some_iff.1 h1).1
 | row ty es xs =>
  obtain⟨vs,h1,_⟩:=hr
  exact (h1.lt b hb).2
 | map kd kvs =>
  obtain⟨⟨es,clock,h1,_⟩,_,_⟩:=hr
  simp [HB.owned] at hb;subst hb
  exact (Array.getElem?_eq_some_iff.1 h1).1
def plainObj:Obj→Bool
 | .cells _ _ _=>true
 | .map _ _=>true
 | _=>false
theorem Heap.owned_cells {Γ:Ctx} {k:Nat→Prop} {H:Hp} {e:Env} {w:World} (h:Heap Γ k H e w) {b:Nat} (hb:b∈ownedL e H):∃ o,w.heap[b]? = some o∧plainObj o=true:=by
 obtain⟨p,hp,hb⟩:=List.mem_filterMap.1 hb
 have hr:=(h.heap p hp).2
 obtain⟨id,hbk⟩:=p
 cases hbk with
 | blk ty cs =>
  obtain⟨vs,h1,_⟩:=hr
  simp [HB.owned] at hb;subst hb
  exact⟨_,h1,rfl⟩
 | row ty es xs =>
  obtain⟨vs,h1,_⟩:=hr
  rcases h1.2 with ⟨hv,_⟩|⟨g,cap,cur,hv,_,hh,_⟩
  ·simp [HB.owned,hv,Value.ownBlock] at hb
  ·simp [HB.owned,hv,Value.ownBlock] at hb;subst hb
   exact⟨_,hh,rfl⟩
 | map kd kvs =>
  obtain⟨⟨es,clock,h1,_⟩,_,_⟩:=hr
  simp [HB.owned] at hb;subst hb
  exact⟨_,h1,rfl⟩
theorem Heap.owned_mark {Γ:Ctx} {k:Nat→Prop} {H:Hp} {e:Env} {w:World} (h:Heap Γ k H e w) {r:Nat} (hr:w.heap[r]? = some (Obj.deferred (some []))):r ∉ ownedL e H:=by
 intro hb
 obtain⟨o,h1,h2⟩:=h.owned_cells hb
 rw [hr] at h1
 cases h1
 cases h2
theorem HRel.keep {X Y:Nat→Prop} {e:Env} {w w':World} (hs:w.heap.size≤w'.heap.size) (hb:∀ b,b < w.heap.size→¬ X b→w'.heap[b]? = w.heap[b]?) (hY:∀ b,b < w.heap.size→Y b→X b)
  (p:Nat × HB) (ho:∀ b,HB.owned e p=some b→w'.heap[b]? = w.heap[b]?) (h:HRel X e w p):HRel Y e w' p:=by
 obtain⟨id,hbk⟩:=p
 cases hbk with
 | blk ty cs =>
  obtain⟨vs,h1,h2,h3⟩:=h
  exact⟨vs,(ho _ rfl).trans h1,RelL.keep hs hb hY _ _ h2,h3⟩
 | row ty es xs =>
  obtain⟨vs,h1,h2,h3,h4⟩:=h
  refine⟨vs,?_,h2,h3,fun i hi j hj=>?_⟩
  ·refine⟨h1.1,?_⟩
   rcases h1.2 with h5|⟨g,cap,cur,hv,hg,hh,r⟩
   ·exact Or.inl h5
   ·exact Or.inr ⟨g,cap,cur,hv,hg,(ho g (by simp [HB.owned,hv,Value.ownBlock])).trans hh,r⟩
  ·obtain⟨v,g1,g2⟩:=h4 i hi j hj
   exact⟨v,g1,RepC.keep hs hb hY g2⟩
 | map kd kvs=>exact MapIs.keep h fun es clock h1=>(ho _ rfl).trans h1
theorem Heap.below {Γ:Ctx} {k:Nat→Prop} {H:Hp} {e:Env} {w w':World} (h:Heap Γ k H e w) (hb:Beld Γ.dr w.heap.size w w'):Heap Γ k H e w' where
 top:=h.top
 heap p hp:=⟨(h.heap p hp).1,HRel.keep hb.size (fun b hb' _=>hb.block b hb') (fun _ _ hy=>hy) p (fun b ho=>hb.block b (h.lt b (List.mem_filterMap.2 ⟨p,hp,ho⟩))) (h.heap p hp).2⟩
 ids:=h.ids
 nodup:=h.nodup
 mine:=h.mine
 os:=hb.os.trans h.os
 tape:=hb.tape.trans h.tape
 output:=hb.output.trans h.output
 drawn hd:=Nat.le_trans (h.drawn hd) (hb.drawn hd)
 size:=Nat.le_trans h.size hb.size
 block b h1 h2:=(hb.block b (Nat.lt_of_lt_of_le h1 h.size)).trans (h.block b h1 h2)
 obound:=h.obound
 tabs:=h.tabs
 jle:=h.jle
 anchor:=h.anchor
theorem Models.below {Γ:Ctx} {k:Nat→Prop} {L:Sl} {H:Hp} {e:Env} {a:Act} {w w':World} (h:Models Γ k L H e a w) (hb:Beld Γ.dr w.heap.size w w'):Models Γ k L H e a w' where
 toHeap:=h.toHeap.below hb
 defers:=h.defers.below hb.toBelow
 len:=h.len
 slot t:=Rel.keep hb.size (fun b hb' _=>hb.block b hb') (fun _ _ hy=>hy) _ _ (h.slot t)
theorem Sl.get_cons (d:Nat) (s:SV) (L:Sl) (t:Nat):Sl.get ((d,s)::L) t=if d=t then s else Sl.get L t:=by
 simp only [Sl.get]
 cases h:Nat.beq d t with
 | true=>rw [if_pos (Nat.eq_of_beq_eq_true h)]
 | false=>rw [if_neg (Nat.ne_of_beq_eq_false h)]
theorem Act.getD_put (a:Act) (d:Nat) (v:Value) (t:Nat) (hd:d < a.tmps.size):(a.put (some d) v).tmps.getD t undef=if d=t then v else a.tmps.getD t undef:=by
 simp only [Act.put,Array.getD_eq_getD_getElem?,Array.getElem?_setIfInBounds]
 by_cases h:d=t
 ·subst h;simp [hd]
 ·simp [h]
theorem Models.put {Γ:Ctx} {k:Nat→Prop} {L:Sl} {H:Hp} {e:Env} {a:Act} {w:World} (h:Models Γ k L H e a w) {d:Nat} {s:SV} {v:Value} (hd:d < Γ.n) (hr:Rel (Γ.X e H) e w s v) :
  Models Γ k ((d,s)::L) H e (a.put (some d) v) w where
 toHeap:=h.toHeap
 defers:=h.defers
 len:=by simp [Act.put,h.len]
 slot t:=by
  rw [Sl.get_cons,Act.getD_put _ _ _ _ (by rw [h.len];exact hd)]
  split
  ·exact hr
  ·exact h.slot t
def cSV:Value→SV
 | .int k n=>.d (.int k n)
 | .bool b=>.d (.bool b)
 | .string s=>.d (.str s)
 | .slice none 0 0=>.nils
 | v=>.val v
def cOk:Value→Prop
 | .int k n=>(Lit.int k n).wf=true
 | .string s=>s.size≤maxLen
 | _=>True
theorem cSV_rel {X e w} (v:Value) (h:cOk v):Rel X e w (cSV v) v:=by
 unfold cSV
 split
 ·exact .int h
 ·exact .bool
 ·exact .str h
 ·rfl
 ·rfl
def opSV (L:Sl):Operand→SV
 | .tmp t=>L.get t
 | .const v=>cSV v
 | .func f=>.fn f []
 | _=>.junk
def opOk:Operand→Prop
 | .const v=>cOk v
 | _=>True
theorem Models.op {Γ:Ctx} {k:Nat→Prop} {L:Sl} {H:Hp} {e:Env} {a:Act} {w:World} (h:Models Γ k L H e a w) (x:Operand) (hx:opOk x):Rel (Γ.X e H) e w (opSV L x) (a.eval x):=by
 cases x with
 | tmp t=>exact h.slot t
 | const v=>exact cSV_rel v hx
 | global g=>trivial
 | func f=>exact⟨[],rfl,trivial⟩
abbrev Post:=Exit→Nat→Sl→Hp→Prop
def Fell (Γ:Ctx) (x:Exit) (a:Act) (w:World):Prop:=∃ (v:Value) (k:Nat) (L:Sl) (H:Hp) (e:Env),x = .panic [{ v,recovered:=false }]∧Γ.pan.may v L H∧Models Γ k L H e a w
def lift (Γ:Ctx) (Q:Post):Exit→Act→World→Prop:=fun x a w=>(∃ (k:Nat) (L:Sl) (H:Hp) (e:Env),Models Γ k L H e a w∧Q x k L H)∨Fell Γ x a w
theorem lift_mono {Γ:Ctx} {Q Q':Post} (h:∀ x k L H,Q x k L H→Q' x k L H):∀ x a w,lift Γ Q x a w→lift Γ Q' x a w:=fun _ _ _ hl=>hl.imp (fun⟨k,L,H,e,m,hq⟩=>⟨k,L,H,e,m,h _ _ _ _ hq⟩) id
abbrev wideR (ro:Option Nat):Fence:={ Fence.wide with round:=ro }
def DW (Γ:Ctx) (c:Code) (Q:Post) (k:Nat) (L:Sl) (H:Hp):Prop:=∀ e a w,Models Γ k L H e a w→c.wpIn (wideR Γ.rd) 0 Γ.P (lift Γ Q) a w
abbrev Next':=Nat→Sl→Hp→Prop
def onNormal (K:Next'):Post:=fun x k L H=>x = .normal∧K k L H
def DL (Γ:Ctx) (ops:List Oper) (rest:List Oper) (K:Next') (k:Nat) (L:Sl) (H:Hp):Prop :=
 ∀ e a w,Models Γ k L H e a w→wpList Γ.P ops.toArray (lift Γ (onNormal K)) rest a w
def thenD (K:Next') (Q:Post):Post:=fun x k L H=>match x with
 | .normal=>K k L H
 | x=>Q x k L H
section
variable {Γ : Ctx} {k : Nat} {L : Sl} {H : Hp} {Q : Post} {K : Next'} {ops : List Oper} {rest : List Oper} {o : Oper}
theorem dw_skip (h:Q .normal k L H):DW Γ .skip Q k L H:=fun e _ _ m=>wpIn_skip (.inl ⟨k,L,H,e,m,h⟩)
theorem dw_ret (h:Q .ret k L H):DW Γ .ret Q k L H:=fun e _ _ m=>wpIn_ret (.inl ⟨k,L,H,e,m,h⟩)
theorem dw_exit {id} (h:Q (.exit id) k L H):DW Γ (.exit id) Q k L H:=fun e _ _ m=>wpIn_exit (.inl ⟨k,L,H,e,m,h⟩)
theorem dw_seq {x y:Code} (h:∀ K:Next',(∀ k L H,DW Γ y Q k L H→K k L H)→DW Γ x (thenD K Q) k L H):DW Γ (.seq x y) Q k L H:=by
 intro e a w m
 refine wpIn_seq (wpIn_mono (h (DW Γ y Q) (fun _ _ _ h=>h) e a w m) ?_)
 rintro ex a' w' (⟨k',L',H',e',m',hq⟩|hf)
 ·cases ex with
  | normal=>exact hq e' a' w' m'
  | _=>exact .inl ⟨k',L',H',e',m',hq⟩
 ·obtain⟨v,k',L',H',e',rfl,r⟩:=hf
  exact .inr ⟨v,k',L',H',e',rfl,r⟩
theorem dw_cond {c:Operand} {x y:Code} {b:Bool} (hc:opSV L c = .d (.bool b)) (ht:b=true→DW Γ x Q k L H) (hf:b=false→DW Γ y Q k L H):DW Γ (.cond c x y) Q k L H:=by
 intro e a w m
 have hr:Rel (Γ.X e H) e w (opSV L c) (a.eval c):=by
  cases c with
  | const v =>
   refine m.op _ ?_
   cases v <;> first|trivial|(simp [opSV,cSV] at hc)
  | _=>exact m.op _ trivial
 rw [hc] at hr
 have hv:a.eval c = .bool b:=by
  generalize a.eval c=v at hr
  cases hr;rfl
 cases b
 ·exact wpIn_cond_false hv (hf rfl e a w m)
 ·exact wpIn_cond_true hv (ht rfl e a w m)
def inBlockD (id:Nat) (Q:Post):Post:=fun x k L H=>match x with
 | .exit id'=>match Nat.beq id' id with
  | true=>Q .normal k L H
  | false=>Q (.exit id') k L H
 | x=>Q x k L H
theorem dw_block {id:Nat} {c:Code} (h:DW Γ c (inBlockD id Q) k L H):DW Γ (.block id c) Q k L H:=by
 intro e a w m
 refine wpIn_block (wpIn_mono (h e a w m) ?_)
 rintro ex a' w' (⟨k',L',H',e',m',hq⟩|hf)
 ·cases ex with
  | exit id' =>
   simp only [Exit.inBlock]
   simp only [inBlockD] at hq
   cases hb:Nat.beq id' id with
   | true=>rw [hb] at hq;rw [if_pos (Nat.eq_of_beq_eq_true hb)];exact .inl ⟨k',L',H',e',m',hq⟩
   | false=>rw [hb] at hq;rw [if_neg (Nat.ne_of_beq_eq_false hb)];exact .inl ⟨k',L',H',e',m',hq⟩
  | _=>exact .inl ⟨k',L',H',e',m',hq⟩
 ·obtain⟨v,k',L',H',e',rfl,r⟩:=hf
  exact .inr ⟨v,k',L',H',e',rfl,r⟩
theorem dl_nil (h:K k L H):DL Γ ops [] K k L H:=fun e _ _ m=>wpList_nil (.inl ⟨k,L,H,e,m,rfl,h⟩)
def noDefer:List Oper→Bool
 | []=>true
 | o::l=>(match o.op with|.defer _=>false|_=>true) && noDefer l
theorem noDefer_spec:∀ {l:List Oper},noDefer l=true→∀ o∈l,∀ c,o.op≠.defer c
 | [],_,_,h=>nomatch h
 | o::l,h,x,hx=>by
  simp only [noDefer,Bool.and_eq_true] at h
  rcases List.mem_cons.1 hx with rfl|hx
  ·intro c hc;rw [hc] at h;exact absurd h.1 (by simp)
  ·exact noDefer_spec h.2 x hx
theorem callsIn_wideR {ro:Option Nat} {n:Nat} {P:Program} {f:FuncId} {args:Array Value} {w:World} {R:Ending→World→Prop} (h:Calls P f args w R):CallsIn (wideR ro) n P f args w R :=
 ⟨trivial,fun cs _=>let ⟨e,w',fr,r,s,x⟩:=h cs;⟨e,w',fr,r,comesIn_wide.2 s,x⟩⟩
theorem depth_wideR {ro:Option Nat} {p:Prop}:(wideR ro).depth.isSome=true→p:=fun h=>nomatch h
theorem Oper.wp_in {ro:Option Nat} {P:Program} {o:Oper} {a:Act} {w:World} {K:Act→World→Prop} {Q:Exit→Act→World→Prop} (hd:∀ c,o.op≠.defer c) (h:o.wp P a w K Q):o.wpIn (wideR ro) 0 P a w K Q:=by
 refine⟨fun _ _=>trivial,?_⟩
 rw [Oper.semAt_eq _ _ _ hd]
 unfold Oper.wp at h
 generalize (execOp a.eval o).run P w=r at h
 cases r with
 | ok x w' =>
  cases x <;> simp only [Oper.upon,Oper.uponIn] at h ⊢ <;> first
   | exact h
   | exact⟨depth_wideR,callsIn_wideR h⟩
   | exact⟨depth_wideR,fun c cs _=>let ⟨v,w'',r,s⟩:=h c cs;⟨v,w'',r,stepsIn_wide.2 s⟩⟩
   | exact h.elim
 | halt x w'=>cases x <;> simp only [Oper.upon,Oper.uponIn] at h ⊢ <;> exact h
theorem wpList_in {ro:Option Nat} {P:Program} {ops:Array Oper} {Q:Exit→Act→World→Prop} (hQ:¬ LetsOut Q):∀ (l:List Oper),noDefer l=true→∀ a w,wpList P ops Q l a w→wpListIn (wideR ro) 0 P ops Q l a w
 | [],_,_,_,h=>h
 | o::l,hn,a,w,h=>by
  have hd:=noDefer_spec hn o (List.mem_cons_self ..)
  have hn':noDefer l=true:=by simp only [noDefer,Bool.and_eq_true] at hn;exact hn.2
  unfold wpList at h
  unfold wpListIn
  split at h
  ·rename_i hw
   rw [if_pos hw]
   rcases h with h|h
   ·exact Oper.wpIn_mono (fun a w=>wpList_in hQ l hn' a w) (Oper.wp_in hd h)
   ·exact absurd h.2 hQ
  ·rename_i hw
   rw [if_neg hw]
   exact⟨fun _ _=>trivial,wpList_in hQ l hn' _ _ h⟩
theorem wpOp_in {ro:Option Nat} {P:Program} {l:List Oper} {Q:Exit→Act→World→Prop} (hQ:¬ LetsOut Q) (hn:noDefer l=true) {i:Nat} {K:Act→World→Prop} {a:Act} {w:World} (h:wpOp P l.toArray Q i K a w):wpOpIn (wideR ro) 0 P l.toArray Q i K a w:=by
 unfold wpOp at h
 unfold wpOpIn
 cases ho:l.toArray[i]? with
 | none=>rw [ho] at h;exact h
 | some o =>
  rw [ho] at h
  have hm:o∈l:=by
   rw [List.getElem?_toArray] at ho
   exact List.mem_of_getElem? ho
  simp only at h ⊢
  split at h
  ·rename_i hw
   rw [if_pos hw]
   rcases h with h|h
   ·exact Oper.wp_in (noDefer_spec hn o hm) h
   ·exact absurd h.2 hQ
  ·rename_i hw
   rw [if_neg hw]
   exact⟨fun _ _=>trivial,h⟩
theorem wpAny_in {ro:Option Nat} {P:Program} {l:List Oper} {md:Region.Mode} {Q:Exit→Act→World→Prop} (hQ:¬ LetsOut Q) (hn:noDefer l=true):∀ (fuel:Nat) (listed:Array Bool) (a:Act) (w:World),wpAny P md l.toArray Q fuel listed a w→wpAnyIn (wideR ro) 0 P md l.toArray Q fuel listed a w
 | 0,_,_,_,h=>h
 | fuel + 1,_,_,_,h=>⟨h.1,fun i hi=>wpOpIn_mono (fun a w=>wpAny_in hQ hn fuel _ a w) (wpOp_in hQ hn (h.2 i hi))⟩
theorem letsOut_lift {Γ:Ctx} {K:Next'}:¬ LetsOut (lift Γ (onNormal K)):=by
 rintro⟨a,w,⟨k,L,H,e,m,hx,_⟩|⟨v,k,L,H,e,hx,_⟩⟩
 ·cases hx
 ·cases hx
theorem dw_region {id:Nat} {l:List Oper} (hn:noDefer l=true) (h:DL Γ l l (Q .normal) k L H):DW Γ (.region id l.toArray false) Q k L H:=by
 intro e a w m
 refine wpIn_mono (wpIn_region_lit (wpList_in letsOut_lift l hn _ _ (h e a w m))) (lift_mono ?_)
 rintro ex k' L' H' ⟨rfl,hq⟩
 exact hq
def Ent (Γ:Ctx) (k:Nat) (L:Sl) (H:Hp) (k':Nat) (L':Sl) (H':Hp):Prop :=
 ∀ e a w,Models Γ k L H e a w→∃ e',Models Γ k' L' H' e' a w
theorem Ent.refl:Ent Γ k L H k L H:=fun e _ _ m=>⟨e,m⟩
theorem dw_ent {c:Code} {k' L' H'} (he:Ent Γ k L H k' L' H') (h:DW Γ c Q k' L' H'):DW Γ c Q k L H:=fun e a w m =>
 let ⟨e',m'⟩:=he e a w m
 h e' a w m'
structure St where
 k:Nat
 L:Sl
 H:Hp
theorem dw_loop {ι:Type} {c:Code} (I:ι→St) (μ:ι→Nat) (x0:ι) (h0:Ent Γ k L H (I x0).k (I x0).L (I x0).H)
  (round:∀ x,DW Γ c (thenD (fun k' L' H'=>∃ y,Ent Γ k' L' H' (I y).k (I y).L (I y).H∧μ y < μ x) Q) (I x).k (I x).L (I x).H):DW Γ (.loop c) Q k L H:=by
 intro e a w m
 obtain⟨e0,m0⟩:=h0 e a w m
 refine wpIn_loop_ghost (fun n a w=>∃ x,μ x=n∧∃ e,Models Γ (I x).k (I x).L (I x).H e a w) (μ x0) ⟨x0,rfl,e0,m0⟩ ?_
 rintro n a w ⟨x,rfl,e,m⟩
 refine wpIn_mono (round x e a w m) ?_
 rintro ex a' w' (⟨k',L',H',e',m',hq⟩|hf)
 ·cases ex with
  | normal =>
   obtain⟨y,hy,hlt⟩:=hq
   obtain⟨e2,m2⟩:=hy e' a' w' m'
   exact⟨_,hlt,y,rfl,e2,m2⟩
  | _=>exact .inl ⟨k',L',H',e',m',hq⟩
 ·obtain⟨v,k',L',H',e',rfl,r⟩:=hf
  exact .inr ⟨v,k',L',H',e',rfl,r⟩
end
mutual
def SV.ren (ρ:Nat→Nat):SV→SV
 | .junk=>.junk
 | .d x=>.d x
 | .nils=>.nils
 | .pd ds=>.pd ds
 | .loc id off=>.loc (ρ id) off
 | .row id=>.row (ρ id)
 | .mp id=>.mp (ρ id)
 | .md kd kvs=>.md kd kvs
 | .prow id k es off=>.prow (ρ id) k es off
 | .sl id off n cap=>.sl (ρ id) off n cap
 | .rsl id es k n=>.rsl (ρ id) es k n
 | .rg B q x=>.rg B q x
 | .fn f caps=>.fn f (SV.renL ρ caps)
 | .agg ss=>.agg (SV.renL ρ ss)
 | .tup ss=>.tup (SV.renL ρ ss)
 | .val v=>.val v
def SV.renL (ρ:Nat→Nat):List SV→List SV
 | []=>[]
 | s::ss=>SV.ren ρ s::SV.renL ρ ss
end
mutual
def SV.low (k:Nat):SV→Bool
 | .loc id _=>Nat.blt id k
 | .row id=>Nat.blt id k
 | .mp id=>Nat.blt id k
 | .md _ _=>true
 | .prow id _ _ _=>Nat.blt id k
 | .sl id _ _ _=>Nat.blt id k
 | .rsl id _ _ _=>Nat.blt id k
 | .rg _ _ _=>true
 | .fn _ caps=>SV.lowL k caps
 | .agg ss=>SV.lowL k ss
 | .tup ss=>SV.lowL k ss
 | .junk=>true
 | .d _=>true
 | .nils=>true
 | .pd _=>true
 | .val _=>true
def SV.lowL (k:Nat):List SV→Bool
 | []=>true
 | s::ss=>SV.low k s && SV.lowL k ss
end
def HB.ren (ρ:Nat→Nat):HB→HB
 | .blk ty cs=>.blk ty (SV.renL ρ cs)
 | .row ty es xs=>.row ty es xs
 | .map kd kvs=>.map kd kvs
def HB.low (k:Nat):HB→Bool
 | .blk _ cs=>SV.lowL k cs
 | .row _ _ _=>true
 | .map _ _=>true
def Env.ren (e:Env) (ρ:Nat→Nat) (k:Nat):Env:=⟨fun i=>e.β (ρ i),fun i=>e.η (ρ i),lo k⟩
mutual
theorem Rel.ren {X e w} (ρ:Nat→Nat) (k:Nat):∀ (s:SV) (v:Value),s.low k=true→Rel X e w (s.ren ρ) v→Rel X (e.ren ρ k) w s v
 | .junk,_,_,_=>trivial
 | .d _,_,_,h=>h
 | .nils,_,_,h=>h
 | .pd _,_,_,h=>h
 | .loc _ _,_,hb,h=>⟨Nat.le_of_ble_eq_true hb,h.2⟩
 | .row _,_,hb,h=>⟨Nat.le_of_ble_eq_true hb,h.2⟩
 | .mp _,_,hb,h=>⟨Nat.le_of_ble_eq_true hb,h.2⟩
 | .md _ _,_,_,h=>h
 | .prow _ _ _ _,_,hb,h=>⟨Nat.le_of_ble_eq_true hb,h.2⟩
 | .sl _ _ _ _,_,hb,h=>⟨Nat.le_of_ble_eq_true hb,h.2⟩
 | .rsl _ _ _ _,_,hb,h=>⟨Nat.le_of_ble_eq_true hb,h.2⟩
 | .rg _ _ _,_,_,h=>h
 | .fn _ caps,_,hb,⟨vs,h1,h2⟩=>⟨vs,h1,RelL.ren ρ k caps vs hb h2⟩
 | .agg ss,_,hb,⟨vs,h1,h2⟩=>⟨vs,h1,RelL.ren ρ k ss vs hb h2⟩
 | .tup ss,_,hb,⟨vs,h1,h2⟩=>⟨vs,h1,RelL.ren ρ k ss vs hb h2⟩
 | .val _,_,_,h=>h
theorem RelL.ren {X e w} (ρ:Nat→Nat) (k:Nat):∀ (ss:List SV) (vs:List Value),SV.lowL k ss=true→RelL X e w (SV.renL ρ ss) vs→RelL X (e.ren ρ k) w ss vs
 | [],[],_,_=>trivial
 | [],_::_,_,h=>h.elim
 | _::_,[],_,h=>h.elim
 | s::ss,v::vs,hb,h=>by
  simp only [SV.lowL,Bool.and_eq_true] at hb
  exact⟨Rel.ren ρ k s v hb.1 h.1,RelL.ren ρ k ss vs hb.2 h.2⟩
end
def Hp.get:Hp→Nat→Option HB
 | [],_=>none
 | (d,s)::H,t=>match Nat.beq d t with|true=>some s|false=>Hp.get H t
theorem Hp.get_mem:∀ (H:Hp) (t:Nat) (b:HB),Hp.get H t=some b→(t,b)∈H
 | [],_,_,h=>by simp [Hp.get] at h
 | (d,s)::H,t,b,h=>by
  simp only [Hp.get] at h
  cases hb:Nat.beq d t with
  | true=>rw [hb] at h;have:=Nat.eq_of_beq_eq_true hb;subst this;cases h;simp
  | false=>rw [hb] at h;exact List.mem_cons_of_mem _ (Hp.get_mem H t b h)
theorem filterMap_inj {α β:Type} (f:α→Option β):∀ (l:List α),(l.filterMap f).Nodup→∀ p q b,p∈l→q∈l→f p=some b→f q=some b→p=q
 | [],_,_,_,_,h,_,_,_=>by simp at h
 | x::l,hn,p,q,b,hp,hq,fp,fq=>by
  have hn':(l.filterMap f).Nodup:=by
   rw [List.filterMap_cons] at hn
   split at hn
   ·exact hn
   ·exact (List.nodup_cons.1 hn).2
  rcases List.mem_cons.1 hp with rfl|hp' <;> rcases List.mem_cons.1 hq with rfl|hq'
  ·rfl
  ·exfalso
   rw [List.filterMap_cons,fp] at hn
   exact (List.nodup_cons.1 hn).1 (List.mem_filterMap.2 ⟨q,hq',fq⟩)
  ·exfalso
   rw [List.filterMap_cons,fq] at hn
   exact (List.nodup_cons.1 hn).1 (List.mem_filterMap.2 ⟨p,hp',fp⟩)
  ·exact filterMap_inj f l hn' p q b hp' hq' fp fq
theorem filterMap_nodup {α β:Type} (f:α→Option β) (H:List α) (hH:(H.filterMap f).Nodup):∀ (l:List α),l.Nodup→(∀ p∈l,p∈H)→(l.filterMap f).Nodup
 | [],_,_=>by simp
 | x::l,hn,hs=>by
  obtain⟨h1,h2⟩:=List.nodup_cons.1 hn
  have ih:=filterMap_nodup f H hH l h2 fun p hp=>hs p (List.mem_cons_of_mem _ hp)
  rw [List.filterMap_cons]
  split
  ·exact ih
  ·rename_i b hb
   refine List.nodup_cons.2 ⟨fun hm=>?_,ih⟩
   obtain⟨q,hq,fq⟩:=List.mem_filterMap.1 hm
   exact h1 (filterMap_inj f H hH x q b (hs x (List.mem_cons_self ..)) (hs q (List.mem_cons_of_mem _ hq)) hb fq▸hq)
def Knows (ρ:Nat→Nat) (L:Sl):Sl→Prop
 | []=>True
 | (t,s)::r=>Sl.get L t=s.ren ρ∧Knows ρ L r
def KnowsH (ρ:Nat→Nat) (H:Hp):Hp→Prop
 | []=>True
 | (i,b)::r=>Hp.get H (ρ i)=some (b.ren ρ)∧KnowsH ρ H r
def Sl.low (k:Nat):Sl→Bool
 | []=>true
 | (_,s)::r=>s.low k && Sl.low k r
def Hp.low (k:Nat):Hp→Bool
 | []=>true
 | (i,b)::r=>Nat.blt i k && (b.low k && Hp.low k r)
def notIn (i:Nat):List Nat→Bool
 | []=>true
 | j::r=>!(Nat.beq i j) && notIn i r
def distinct:List Nat→Bool
 | []=>true
 | i::r=>notIn i r && distinct r
theorem notIn_spec (i:Nat):∀ l,notIn i l=true→i ∉ l
 | [],_=>by simp
 | j::r,h=>by
  simp only [notIn,Bool.and_eq_true,Bool.not_eq_true'] at h
  have h1:=Nat.ne_of_beq_eq_false h.1
  simp [h1,notIn_spec i r h.2]
theorem distinct_spec:∀ l,distinct l=true→l.Nodup
 | [],_=>by simp
 | i::r,h=>by
  simp only [distinct,Bool.and_eq_true] at h
  exact List.nodup_cons.2 ⟨notIn_spec i r h.1,distinct_spec r h.2⟩
theorem Knows.slot {X e w} {a:Act} {ρ:Nat→Nat} {L:Sl} {k:Nat} (hL:∀ t,Rel X e w (L.get t) (a.tmps.getD t undef)):∀ (L':Sl),Knows ρ L L'→Sl.low k L' = true→∀ t,Rel X (e.ren ρ k) w (L'.get t) (a.tmps.getD t undef)
 | [],_,_,_=>trivial
 | (d,s)::r,⟨h1,h2⟩,hb,t=>by
  simp only [Sl.low,Bool.and_eq_true] at hb
  rw [Sl.get_cons]
  split
  ·rename_i hd
   subst hd
   exact Rel.ren ρ k _ _ hb.1 (h1▸hL d)
  ·exact Knows.slot hL r h2 hb.2 t
theorem KnowsH.mem {ρ:Nat→Nat} {H:Hp}:∀ (H':Hp),KnowsH ρ H H'→∀ p∈H',(ρ p.1,p.2.ren ρ)∈H
 | [],_,_,h=>by simp at h
 | (i,b)::r,⟨h1,h2⟩,p,hp=>by
  rcases List.mem_cons.1 hp with rfl|hp
  ·exact Hp.get_mem _ _ _ h1
  ·exact KnowsH.mem r h2 p hp
theorem Hp.low_spec {k:Nat}:∀ (H:Hp),Hp.low k H=true→∀ p∈H,p.1 < k∧p.2.low k=true
 | [],_,_,h=>by simp at h
 | (i,b)::r,h,p,hp=>by
  simp only [Hp.low,Bool.and_eq_true,Nat.blt_eq] at h
  rcases List.mem_cons.1 hp with rfl|hp
  ·exact⟨h.1,h.2.1⟩
  ·exact Hp.low_spec r h.2.2 p hp
theorem owned_ren (e:Env) (ρ:Nat→Nat) (k:Nat) (p:Nat × HB):HB.owned (e.ren ρ k) p=HB.owned e (ρ p.1,p.2.ren ρ):=by
 obtain⟨i,b⟩:=p
 cases b <;> rfl
theorem ownedL_ren (e:Env) (ρ:Nat→Nat) (k:Nat) (H:Hp):ownedL (e.ren ρ k) H=ownedL e (H.map fun p=>(ρ p.1,p.2.ren ρ)):=by
 unfold ownedL
 rw [List.filterMap_map]
 congr 1
 funext p
 exact owned_ren e ρ k p
def anchorOk (ρ:Nat→Nat):Nat→Bool
 | 0=>true
 | j + 1=>Nat.beq (ρ j) j && anchorOk ρ j
theorem anchorOk_spec {ρ:Nat→Nat}:∀ (J:Nat),anchorOk ρ J=true→∀ j,j < J→ρ j=j
 | 0,_,_,h=>by omega
 | J + 1,h,j,hj=>by
  simp only [anchorOk,Bool.and_eq_true] at h
  rcases Nat.lt_or_ge j J with h1|h1
  ·exact anchorOk_spec J h.2 j h1
  ·have:j=J:=by omega
   subst this;exact Nat.eq_of_beq_eq_true h.1
theorem Heap.ren {Γ:Ctx} {k:Nat→Prop} {H:Hp} {e:Env} {w:World} (h:Heap Γ k H e w) (ρ:Nat→Nat) (k':Nat) (H':Hp) (hH:KnowsH ρ H H') (hb:Hp.low k' H' = true)
  (hd:distinct (H'.map fun p=>ρ p.1)=true) (hd':distinct (H'.map (·.1))=true) (hj:Nat.ble Γ.J k' = true) (ha:anchorOk ρ Γ.J=true) :
  Heap Γ k' H' (e.ren ρ k') w∧∀ b,Γ.X (e.ren ρ k') H' b→Γ.X e H b:=by
 have hmem:=KnowsH.mem H' hH
 have hown:∀ b,b∈ownedL (e.ren ρ k') H'→b∈ownedL e H:=by
  intro b hb
  obtain⟨p,hp,ho⟩:=List.mem_filterMap.1 hb
  exact List.mem_filterMap.2 ⟨_,hmem p hp,by rw [← owned_ren e ρ k'];exact ho⟩
 have hX:∀ b,Γ.X (e.ren ρ k') H' b→Γ.X e H b:=fun b hx=>hx.imp id (hown b)
 refine⟨⟨fun _=>Iff.rfl,fun p hp=>⟨(Hp.low_spec H' hb p hp).1,?_⟩,distinct_spec _ hd',?_,fun b hbm=>h.mine b (hown b hbm),h.os,h.tape,h.output,h.drawn,h.size,h.block,h.obound,h.tabs,fun j hjl=>Nat.lt_of_lt_of_le hjl (Nat.le_of_ble_eq_true hj),fun j hjl=>(congrArg e.an (anchorOk_spec _ ha j hjl)).trans (h.anchor j hjl)⟩,hX⟩
 ·have hr:=(h.heap _ (hmem p hp)).2
  have hbl:=(Hp.low_spec H' hb p hp).2
  obtain⟨i,b⟩:=p
  cases b with
  | blk ty cs =>
   obtain⟨vs,h1,h2,h3⟩:=hr
   exact⟨vs,h1,RelL.keep (Nat.le_refl _) (fun _ _ _=>rfl) (fun b _ hy=>hX b hy) _ _ (RelL.ren ρ k' cs vs hbl h2),h3⟩
  | row ty es xs =>
   obtain⟨vs,h1,h2,h3,h4⟩:=hr
   refine⟨vs,h1,h2,h3,fun i hi j hj=>?_⟩
   obtain⟨v,g1,g2⟩:=h4 i hi j hj
   exact⟨v,g1,RepC.keep (Nat.le_refl _) (fun _ _ _=>rfl) (fun b _ hy=>hX b hy) g2⟩
  | map kd kvs=>exact hr
 ·rw [ownedL_ren]
  refine filterMap_nodup _ H h.nodup _ ?_ ?_
  ·have hn:=distinct_spec _ hd
   refine List.Pairwise.of_map (f:=fun p:Nat × HB=>p.1) (S:=(·≠·)) (fun a b hab he=>hab (by rw [he])) ?_
   simpa [List.map_map,List.Nodup,Function.comp_def] using hn
  ·intro p hp
   obtain⟨q,hq,rfl⟩:=List.mem_map.1 hp
   exact hmem q hq
theorem ent_ren {Γ:Ctx} {k:Nat} {L:Sl} {H:Hp} (ρ:Nat→Nat) {k':Nat} {L':Sl} {H':Hp} (hL:Knows ρ L L') (hH:KnowsH ρ H H') (hb:Sl.low k' L' = true) (hbH:Hp.low k' H' = true)
  (hd:distinct (H'.map fun p=>ρ p.1)=true) (hd':distinct (H'.map (·.1))=true) (hj:Nat.ble Γ.J k' = true) (ha:anchorOk ρ Γ.J=true):Ent Γ k L H k' L' H':=by
 intro e a w m
 obtain⟨h1,h2⟩:=m.toHeap.ren ρ k' H' hH hbH hd hd' hj ha
 refine⟨e.ren ρ k',⟨h1,m.defers,m.len,fun t=>?_⟩⟩
 exact Rel.keep (Nat.le_refl _) (fun _ _ _=>rfl) (fun b _ hy=>h2 b hy) _ _ (Knows.slot m.slot L' hL hb t)
open Go
def tab:List (Nat × TI):=[
 (2,⟨.int .i64,1,8,[.int .i64 0],false⟩),
 (3,⟨.int .i64,1,8,[.int .i64 0],false⟩),
 (4,⟨.bool,1,1,[.bool false],false⟩),
 (5,⟨.int .u8,1,1,[.int .u8 0],false⟩),
 (6,⟨.int .u8,1,1,[.int .u8 0],false⟩),
 (7,⟨.struct [(0,2,1),(1,3,1),(2,4,1),(3,6,1)],4,24,[.int .i64 0,.int .i64 0,.bool false,.int .u8 0],true⟩),
 (8,⟨.struct [(0,2,1),(1,3,1),(2,4,1),(3,6,1)],4,24,[.int .i64 0,.int .i64 0,.bool false,.int .u8 0],true⟩),
 (9,⟨.str,1,16,[.string ⟨#[]⟩],false⟩),
 (10,⟨.str,1,16,[.string ⟨#[]⟩],false⟩),
 (11,⟨.str,1,16,[.string ⟨#[]⟩],false⟩),
 (12,⟨.int .u64,1,8,[.int .u64 0],false⟩),
 (13,⟨.struct [(0,9,1),(1,12,1)],2,24,[.string ⟨#[]⟩,.int .u64 0],false⟩),
 (14,⟨.struct [(0,9,1),(1,12,1)],2,24,[.string ⟨#[]⟩,.int .u64 0],false⟩),
 (15,⟨.ptr 165,1,8,[.pointer none],false⟩),
 (16,⟨.ptr 168,1,8,[.pointer none],false⟩),
 (17,⟨.ptr 175,1,8,[.pointer none],false⟩),
 (18,⟨.struct [(0,17,1)],1,8,[.pointer none],false⟩),
 (19,⟨.struct [(0,17,1)],1,8,[.pointer none],false⟩),
 (21,⟨.int .i32,1,4,[.int .i32 0],false⟩),
 (22,⟨.slice 47,1,24,[.slice none 0 0],false⟩),
 (23,⟨.struct [(0,22,1)],1,24,[.slice none 0 0],true⟩),
 (24,⟨.struct [(0,22,1)],1,24,[.slice none 0 0],true⟩),
 (25,⟨.int .i64,1,8,[.int .i64 0],false⟩),
 (36,⟨.slice 43,1,24,[.slice none 0 0],false⟩),
 (42,⟨.struct [(0,3,1),(1,3,1),(2,9,1)],3,32,[.int .i64 0,.int .i64 0,.string ⟨#[]⟩],true⟩),
 (43,⟨.struct [(0,3,1),(1,3,1),(2,9,1)],3,32,[.int .i64 0,.int .i64 0,.string ⟨#[]⟩],true⟩),
 (44,⟨.slice 49,1,24,[.slice none 0 0],false⟩),
 (45,⟨.slice 51,1,24,[.slice none 0 0],false⟩),
 (46,⟨.struct [(0,3,1),(1,9,1),(2,44,1),(3,3,1),(4,45,1)],5,80,[.int .i64 0,.string ⟨#[]⟩,.slice none 0 0,.int .i64 0,.slice none 0 0],true⟩),
 (47,⟨.struct [(0,3,1),(1,9,1),(2,44,1),(3,3,1),(4,45,1)],5,80,[.int .i64 0,.string ⟨#[]⟩,.slice none 0 0,.int .i64 0,.slice none 0 0],true⟩),
 (48,⟨.struct [(0,9,1),(1,3,1)],2,24,[.string ⟨#[]⟩,.int .i64 0],true⟩),
 (49,⟨.struct [(0,9,1),(1,3,1)],2,24,[.string ⟨#[]⟩,.int .i64 0],true⟩),
 (50,⟨.struct [(0,3,1),(1,3,1),(2,3,1),(3,9,1),(4,44,1)],5,64,[.int .i64 0,.int .i64 0,.int .i64 0,.string ⟨#[]⟩,.slice none 0 0],true⟩),
 (51,⟨.struct [(0,3,1),(1,3,1),(2,3,1),(3,9,1),(4,44,1)],5,64,[.int .i64 0,.int .i64 0,.int .i64 0,.string ⟨#[]⟩,.slice none 0 0],true⟩),
 (52,⟨.ptr 58,1,8,[.pointer none],false⟩),
 (53,⟨.ptr 56,1,8,[.pointer none],false⟩),
 (54,⟨.slice 5,1,24,[.slice none 0 0],false⟩),
 (55,⟨.struct [(0,53,1),(1,54,1)],2,32,[.pointer none,.slice none 0 0],true⟩),
 (56,⟨.struct [(0,53,1),(1,54,1)],2,32,[.pointer none,.slice none 0 0],true⟩),
 (57,⟨.struct [(0,56,2)],2,32,[.pointer none,.slice none 0 0],true⟩),
 (58,⟨.struct [(0,56,2)],2,32,[.pointer none,.slice none 0 0],true⟩),
 (70,⟨.slice 9,1,24,[.slice none 0 0],false⟩),
 (72,⟨.ptr 74,1,8,[.pointer none],false⟩),
 (73,⟨.struct [(0,36,1),(1,3,1),(2,3,1)],3,40,[.slice none 0 0,.int .i64 0,.int .i64 0],true⟩),
 (74,⟨.struct [(0,36,1),(1,3,1),(2,3,1)],3,40,[.slice none 0 0,.int .i64 0,.int .i64 0],true⟩),
 (75,⟨.struct [(0,36,1),(1,3,1),(2,3,1),(3,4,1)],4,48,[.slice none 0 0,.int .i64 0,.int .i64 0,.bool false],true⟩),
 (76,⟨.struct [(0,36,1),(1,3,1),(2,3,1),(3,4,1)],4,48,[.slice none 0 0,.int .i64 0,.int .i64 0,.bool false],true⟩),
 (85,⟨.ptr 87,1,8,[.pointer none],false⟩),
 (86,⟨.struct [(0,9,1),(1,3,1)],2,24,[.string ⟨#[]⟩,.int .i64 0],true⟩),
 (87,⟨.struct [(0,9,1),(1,3,1)],2,24,[.string ⟨#[]⟩,.int .i64 0],true⟩),
 (96,⟨.ptr 5,1,8,[.pointer none],false⟩),
 (98,⟨.int .i64,1,8,[.int .i64 0],false⟩),
 (103,⟨.ptr 76,1,8,[.pointer none],false⟩),
 (125,⟨.ptr 51,1,8,[.pointer none],false⟩),
 (131,⟨.int .u64,1,8,[.int .u64 0],false⟩),
 (140,⟨.int .u32,1,4,[.int .u32 0],false⟩),
 (143,⟨.int .u64,1,8,[.int .u64 0],false⟩),
 (145,⟨.int .i64,1,8,[.int .i64 0],false⟩),
 (148,⟨.ptr 156,1,8,[.pointer none],false⟩),
 (155,⟨.struct [(0,9,1),(1,9,1),(2,60,1)],3,48,[.string ⟨#[]⟩,.string ⟨#[]⟩,.nilIface],false⟩),
 (156,⟨.struct [(0,9,1),(1,9,1),(2,60,1)],3,48,[.string ⟨#[]⟩,.string ⟨#[]⟩,.nilIface],false⟩),
 (161,⟨.ptr 163,1,8,[.pointer none],false⟩),
 (162,⟨.struct [(0,9,1)],1,16,[.string ⟨#[]⟩],true⟩),
 (163,⟨.struct [(0,9,1)],1,16,[.string ⟨#[]⟩],true⟩),
 (164,⟨.struct [(0,17,1),(1,17,1),(2,17,1),(3,9,1)],4,40,[.pointer none,.pointer none,.pointer none,.string ⟨#[]⟩],false⟩),
 (165,⟨.struct [(0,17,1),(1,17,1),(2,17,1),(3,9,1)],4,40,[.pointer none,.pointer none,.pointer none,.string ⟨#[]⟩],false⟩),
 (167,⟨.struct [(0,166,0)],0,0,[],false⟩),
 (168,⟨.struct [(0,166,0)],0,0,[],false⟩),
 (169,⟨.int .u8,1,1,[.int .u8 0],false⟩),
 (170,⟨.int .u8,1,1,[.int .u8 0],false⟩),
 (172,⟨.int .i32,1,4,[.int .i32 0],false⟩),
 (173,⟨.int .i32,1,4,[.int .i32 0],false⟩),
 (174,⟨.struct [(0,12,1),(1,12,1),(2,140,1),(3,169,1),(4,5,1),(5,5,1),(6,170,1),(7,171,1),(8,96,1),(9,172,1),(10,173,1)],11,48,[.int .u64 0,.int .u64 0,.int .u32 0,.int .u8 0,.int .u8 0,.int .u8 0,.int .u8 0,.nilFunc,.pointer none,.int .i32 0,.int .i32 0],false⟩),
 (175,⟨.struct [(0,12,1),(1,12,1),(2,140,1),(3,169,1),(4,5,1),(5,5,1),(6,170,1),(7,171,1),(8,96,1),(9,172,1),(10,173,1)],11,48,[.int .u64 0,.int .u64 0,.int .u32 0,.int .u8 0,.int .u8 0,.int .u8 0,.int .u8 0,.nilFunc,.pointer none,.int .i32 0,.int .i32 0],false⟩)]
theorem tab_ok:TabOk Tryz.prog tab:=by
 unfold TabOk
 kernel_rfl
end Go.Proofs.YtapciiffpnociabGreatDoor
namespace Go.Proofs.YtapciiffpnociabGreatDoor
open Go Go.RowKit
theorem str_beq (s u:ByteArray):(s.toList == u.toList)=decide (s=u):=by
 rw [ByteArray.toList_eq,ByteArray.toList_eq,Bool.eq_iff_iff]
 simp only [beq_iff_eq,decide_eq_true_eq]
 exact⟨fun h=>by cases s;cases u;congr 1;exact Array.toList_inj.1 h,fun h=>by rw [h]⟩
def Ctx.sh (Γ:Ctx) (t:TypeId):Sh:=(tiGet Γ.τ t).sh
def Ctx.cells (Γ:Ctx) (t:TypeId):Nat:=(tiGet Γ.τ t).cells
theorem Ctx.ti {Γ:Ctx} {t:TypeId} (h:Γ.sh t≠.other):tiOf Γ.P t=some (tiGet Γ.τ t):=tiGet_ok Γ.τok t h
theorem ti_parts {P:Program} {t:TypeId} {i:TI} (h:tiOf P t=some i):∃ u inf z,P.underlying t=some u∧P.info? t=some inf∧inf.zero=some z∧i.sh=shOf P u∧inf.size=i.cells∧inf.bytes=i.bytes∧z.cells.toList=i.zero∧i.eqs=flatEqB P t:=by
 unfold tiOf at h
 split at h
 ·rename_i u inf h1 h2
  split at h
  ·rename_i z hz
   cases h
   exact⟨u,inf,z,h1,h2,hz,rfl,rfl,rfl,rfl,rfl⟩
  ·cases h
 ·cases h
theorem Ctx.str {Γ:Ctx} {t:TypeId} (h:Γ.sh t = .str):Γ.P.underlying t=some .string:=by
 obtain⟨u,inf,z,h1,_,_,h4,_⟩:=ti_parts (Γ.ti (by rw [h];intro h;cases h))
 rw [h1]
 have:shOf Γ.P u = .str:=h4▸h
 cases u <;> simp [shOf] at this ⊢
theorem Ctx.slice {Γ:Ctx} {t e:TypeId} (h:Γ.sh t = .slice e):Γ.P.underlying t=some (.slice e):=by
 obtain⟨u,inf,z,h1,_,_,h4,_⟩:=ti_parts (Γ.ti (by rw [h];intro h;cases h))
 rw [h1]
 have:shOf Γ.P u = .slice e:=h4▸h
 cases u <;> simp [shOf] at this ⊢
 exact this
theorem Ctx.info {Γ:Ctx} {t:TypeId} (h:Γ.sh t≠.other):∃ inf z,Γ.P.info? t=some inf∧inf.zero=some z∧inf.size=Γ.cells t∧inf.bytes=(tiGet Γ.τ t).bytes∧z.cells.toList=(tiGet Γ.τ t).zero:=by
 obtain⟨u,inf,z,h1,h2,h3,h4,h5,h6,h7,_⟩:=ti_parts (Γ.ti h)
 exact⟨inf,z,h2,h3,h5,h6,h7⟩
theorem Ctx.struct {Γ:Ctx} {t:TypeId} {l} (h:Γ.sh t = .struct l):∃ fs,Γ.P.underlying t=some (.struct fs)∧l=fs.toList.map fun f=>(f.offset,f.type,((Γ.P.info? f.type).map (·.size)).getD 0):=by
 obtain⟨u,inf,z,h1,_,_,h4,_⟩:=ti_parts (Γ.ti (by rw [h];intro h;cases h))
 have:shOf Γ.P u = .struct l:=h4▸h
 cases u <;> simp [shOf] at this
 rename_i fs
 exact⟨fs,h1,this.symm⟩
def Sh.known:Sh→Bool|.other=>false|_=>true
theorem Sh.known_ne {s:Sh} (h:s.known=true):s≠.other:=by intro e;subst e;cases h
def Sh.isAgg:Sh→Bool|.struct _=>true|_=>false
theorem Ctx.agg {Γ:Ctx} {t:TypeId} (h:Γ.sh t≠.other):∀ w,(Go.isAgg t).run Γ.P w = .ok (Γ.sh t).isAgg w:=by
 intro w
 obtain⟨u,inf,z,h1,_,_,h4,_⟩:=ti_parts (Γ.ti h)
 have h5:shOf Γ.P u=Γ.sh t:=h4.symm
 rw [← h5] at h ⊢
 cases u <;> simp [Go.isAgg,run_underlying h1,shOf,Sh.isAgg] at h ⊢
def cOkB:Value→Bool
 | .int k n=>(Lit.int k n).wf
 | .string s=>Nat.ble s.size maxLen
 | _=>true
def opOkB:Operand→Bool
 | .const v=>cOkB v
 | _=>true
theorem opOkB_spec {x:Operand} (h:opOkB x=true):opOk x:=by
 cases x with
 | const v =>
  cases v with
  | int k n=>exact h
  | string s=>exact Nat.le_of_ble_eq_true h
  | _=>trivial
 | _=>trivial
section
variable {Γ : Ctx} {k : Nat → Prop} {L : Sl} {H : Hp} {K : Next'} {ops : List Oper} {rest : List Oper} {a : Act} {w : World} {e : Env}
theorem evI (m:Models Γ k L H e a w) {x:Operand} {i:IntKind} {n:Int} (h:opSV L x = .d (.int i n)):a.eval x = .int i n:=by
 cases x with
 | tmp t =>
  have hr:=m.slot t
  simp only [opSV] at h
  rw [h] at hr
  show a.tmps.getD t undef=_
  generalize a.tmps.getD t undef=v at hr
  cases hr;rfl
 | const v =>
  simp only [opSV] at h
  unfold cSV at h
  split at h <;> cases h
  rfl
 | global g=>cases h
 | func f=>cases h
theorem evIw (m:Models Γ k L H e a w) {x:Operand} {i:IntKind} {n:Int} (hx:opOkB x=true) (h:opSV L x = .d (.int i n)):(Lit.int i n).wf=true:=by
 have hr:=m.op x (opOkB_spec hx)
 rw [h] at hr
 generalize a.eval x=v at hr
 cases hr;assumption
theorem evB (m:Models Γ k L H e a w) {x:Operand} {b:Bool} (h:opSV L x = .d (.bool b)):a.eval x = .bool b:=by
 cases x with
 | tmp t =>
  have hr:=m.slot t
  simp only [opSV] at h
  rw [h] at hr
  show a.tmps.getD t undef=_
  generalize a.tmps.getD t undef=v at hr
  cases hr;rfl
 | const v =>
  simp only [opSV] at h
  unfold cSV at h
  split at h <;> cases h
  rfl
 | global g=>cases h
 | func f=>cases h
theorem evS (m:Models Γ k L H e a w) {x:Operand} {s:ByteArray} (h:opSV L x = .d (.str s)):a.eval x = .string s:=by
 cases x with
 | tmp t =>
  have hr:=m.slot t
  simp only [opSV] at h
  rw [h] at hr
  show a.tmps.getD t undef=_
  generalize a.tmps.getD t undef=v at hr
  cases hr;rfl
 | const v =>
  simp only [opSV] at h
  unfold cSV at h
  split at h <;> cases h
  rfl
 | global g=>cases h
 | func f=>cases h
def Ev (Γ:Ctx) (k:Nat→Prop) (L:Sl) (H:Hp) (op:Op) (ty:TypeId) (s:SV):Prop :=
 ∀ e a w,Models Γ k L H e a w→∃ v,(∀ (dst:Option Tmp) pos after guard w',Below w.heap.size w w'→(execOp a.eval ⟨dst,op,ty,pos,after,guard⟩).run Γ.P w' = .ok (.value v) w')∧Rel (Γ.X e H) e w s v
def OpOk (Γ:Ctx) (o:Oper) (k:Nat→Prop) (L:Sl) (H:Hp) (k':Nat→Prop) (L':Sl) (H':Hp):Prop :=
 ∀ e a w Q,Models Γ k L H e a w→o.wp Γ.P a w (fun a' w'=>∃ e',Models Γ k' L' H' e' a' w') Q
theorem op_ev {d:Nat} {op:Op} {ty:TypeId} {pos:String} {af:Array Edge} {g:Option (Nat × Bool)} {s:SV} (h:Ev Γ k L H op ty s) (hd:Nat.blt d Γ.n=true) :
  OpOk Γ ⟨some d,op,ty,pos,af,g⟩ k L H k ((d,s)::L) H:=by
 intro e a w Q m
 obtain⟨v,h1,h2⟩:=h e a w m
 unfold Oper.wp
 rw [h1 (some d) pos af g w (Below.refl _ _)]
 exact⟨e,m.put (Nat.le_of_ble_eq_true hd) h2⟩
def nthOp:List Oper→Nat→Option Oper
 | [],_=>none
 | o::_,0=>some o
 | _::l,n + 1=>nthOp l n
theorem nthOp_eq:∀ (l:List Oper) (n:Nat),nthOp l n=l[n]?
 | [],_=>by simp [nthOp]
 | o::_,0=>by simp [nthOp]
 | _::l,n + 1=>by simp [nthOp,nthOp_eq l n]
def wantedSV (ops:List Oper) (L:Sl):Option (Nat × Bool)→Option Bool
 | none=>some true
 | some (j,want)=>match nthOp ops j with
  | some o=>match o.dst with
   | some t=>match L.get t with
    | .d (.bool true)=>some want
    | .d (.bool false)=>some (!want)
    | .tup []=>some false
    | _=>none
   | none=>none
  | none=>none
theorem wantedSV_spec {o:Oper} {b:Bool} (m:Models Γ k L H e a w) (h:wantedSV ops L o.guard=some b):Region.wanted o (yielded ops.toArray a.tmps)=b:=by
 unfold Region.wanted
 cases hg:o.guard with
 | none=>rw [hg] at h;simpa [wantedSV] using h
 | some q =>
  obtain⟨j,want⟩:=q
  rw [hg] at h
  simp only [wantedSV,nthOp_eq] at h
  cases ho:ops[j]? with
  | none=>simp [ho] at h
  | some oj =>
   simp only [ho] at h
   cases hd:oj.dst with
   | none=>simp [hd] at h
   | some t =>
    simp only [hd] at h
    have hr:=m.slot t
    have hy:∀ b',L.get t = .d (.bool b')→yielded ops.toArray a.tmps j=some b':=by
     intro b' hb'
     rw [hb'] at hr
     generalize hv:a.tmps.getD t undef=v at hr
     cases hr
     have hv':a.tmps[t]?.getD undef=Value.bool b':=by rw [← Array.getD_eq_getD_getElem?];exact hv
     cases ht:a.tmps[t]? with
     | none=>rw [ht] at hv';cases hv'
     | some u=>rw [ht] at hv';simp only [Option.getD_some] at hv';subst hv';simp [yielded,ho,hd,ht]
    cases hs:L.get t with
    | tup ss =>
     cases ss with
     | cons _ _=>simp [hs] at h
     | nil =>
      simp only [hs,Option.some.injEq] at h
      subst h
      rw [hs] at hr
      obtain⟨vs,hv,hl⟩:=hr
      cases vs with
      | cons _ _=>exact hl.elim
      | nil =>
       have hn:yielded ops.toArray a.tmps j=none:=by
        have hv':a.tmps[t]?.getD undef=Value.tuple #[]:=by rw [← Array.getD_eq_getD_getElem?];exact hv
        cases ht:a.tmps[t]? with
        | none=>simp [yielded,ho,hd,ht]
        | some u=>rw [ht] at hv';simp only [Option.getD_some] at hv';subst hv';simp [yielded,ho,hd,ht]
       show (yielded ops.toArray a.tmps j == some want)=false
       rw [hn];rfl
    | d x =>
     cases x with
     | bool b' =>
      simp only [hs] at h
      simp only [hy b' hs]
      cases b' <;> cases want <;> simp_all
     | _=>simp [hs] at h
    | _=>simp [hs] at h
end
section
variable {Γ : Ctx} {k : Nat} {L : Sl} {H : Hp} {K : Next'} {ops : List Oper} {rest : List Oper} {a : Act} {w : World} {e : Env}
theorem dl_run {op:Op} {ty:TypeId} {pos:String} {af:Array Edge} {g:Option (Nat × Bool)} {d:Option Nat} (hw:wantedSV ops L g=some true)
  (h:∀ e a w,Models Γ k L H e a w→(Oper.mk d op ty pos af g).wp Γ.P a w (fun a' w'=>∃ (k':Nat) (L':Sl) (H':Hp) (e':Env),Models Γ k' L' H' e' a' w'∧DL Γ ops rest K k' L' H') (lift Γ (onNormal K))) :
  DL Γ ops (⟨d,op,ty,pos,af,g⟩::rest) K k L H:=by
 intro e a w m
 refine wpList_step fun K' hK'=>?_
 rw [if_pos (wantedSV_spec m hw)]
 refine Oper.wp_mono ?_ (h e a w m)
 rintro a' w' ⟨k',L',H',e',m',hd⟩
 exact hK' _ _ (hd e' a' w' m')
theorem dl_skip {op:Op} {ty:TypeId} {pos:String} {af:Array Edge} {g:Option (Nat × Bool)} {d:Nat} (hw:wantedSV ops L g=some false) (hd:Nat.blt d Γ.n=true)
  (h:DL Γ ops rest K k ((d,.tup [])::L) H):DL Γ ops (⟨some d,op,ty,pos,af,g⟩::rest) K k L H:=by
 intro e a w m
 refine wpList_step fun K' hK'=>?_
 rw [if_neg (by rw [wantedSV_spec m hw];exact Bool.false_ne_true)]
 exact hK' _ _ (h e _ w (m.put (s:=.tup []) (Nat.le_of_ble_eq_true hd) ⟨[],rfl,trivial⟩))
theorem dl_op {op:Op} {ty:TypeId} {pos:String} {af:Array Edge} {g:Option (Nat × Bool)} {d:Option Nat} {k':Nat} {L':Sl} {H':Hp} (hw:wantedSV ops L g=some true)
  (h:OpOk Γ ⟨d,op,ty,pos,af,g⟩ k L H k' L' H') (hk:DL Γ ops rest K k' L' H'):DL Γ ops (⟨d,op,ty,pos,af,g⟩::rest) K k L H:=by
 refine dl_run hw fun e a w m=>Oper.wp_mono ?_ (h e a w _ m)
 rintro a' w' ⟨e',m'⟩
 exact⟨k',L',H',e',m',hk⟩
theorem dl_ev {d:Nat} {op:Op} {ty:TypeId} {pos:String} {af:Array Edge} {g:Option (Nat × Bool)} {s:SV} (hw:wantedSV ops L g=some true) (h:Ev Γ k L H op ty s) (hd:Nat.blt d Γ.n=true)
  (hk:DL Γ ops rest K k ((d,s)::L) H):DL Γ ops (⟨some d,op,ty,pos,af,g⟩::rest) K k L H:=by
 refine dl_run hw fun e a w m=>?_
 obtain⟨v,h1,h2⟩:=h e a w m
 unfold Oper.wp
 rw [h1 (some d) pos af g w (Below.refl _ _)]
 exact⟨k,_,H,e,m.put (Nat.le_of_ble_eq_true hd) h2,hk⟩
theorem dl_split {t:Nat} {b:Bool} (hb:L.get t = .d (.bool b)) (ht:b=true→DL Γ ops rest K k ((t,.d (.bool true))::L) H) (hf:b=false→DL Γ ops rest K k ((t,.d (.bool false))::L) H) :
  DL Γ ops rest K k L H:=by
 intro e a w m
 have key:∀ b',b=b'→Models Γ k ((t,.d (.bool b'))::L) H e a w:=fun b' hb' =>
  ⟨m.toHeap,m.defers,m.len,fun t'=>by
    rw [Sl.get_cons]
    split
    ·rename_i h;subst h;rw [← hb',← hb];exact m.slot t
    ·exact m.slot t'⟩
 cases b with
 | true=>exact ht rfl e a w (key true rfl)
 | false=>exact hf rfl e a w (key false rfl)
end
section
variable {Γ : Ctx} {k : Nat → Prop} {L : Sl} {H : Hp} {K : Next'} {ops : List Oper} {rest : List Oper} {a : Act} {w : World} {e : Env}
theorem ev_move {x:Operand} {ty:TypeId} (hx:opOkB x=true):Ev Γ k L H (.move x) ty (opSV L x):=by
 intro e a w m
 exact⟨a.eval x,fun _ _ _ _ w' _=>by simp [execOp],m.op x (opOkB_spec hx)⟩
theorem ev_assign {x:Operand} {ty:TypeId} (hx:opOkB x=true):Ev Γ k L H (.assign x) ty (opSV L x):=by
 intro e a w m
 exact⟨a.eval x,fun _ _ _ _ w' _=>by simp [execOp],m.op x (opOkB_spec hx)⟩
theorem ev_bin_int {op:BinOp} {t t' ty:TypeId} {x y:Operand} {i:IntKind} {n m':Int} {s:SV} {v:Value} (hx:opSV L x = .d (.int i n)) (hy:opSV L y = .d (.int i m'))
  (hr:∀ P w,(binOp op t (.int i n) (.int i m')).run P w = .ok v w) (hv:∀ X e w,Rel X e w s v):Ev Γ k L H (.binOp op t x y t') ty s:=by
 intro e a w m
 refine⟨v,fun _ _ _ _ w' _=>?_,hv _ _ _⟩
 simp only [execOp,evI m hx,evI m hy]
 have he:eqGuard op t x y (Value.int i n) (Value.int i m')=pure ():=by unfold eqGuard;split <;> rfl
 simp [he,hr]
section
variable {t t' ty : TypeId} {x y : Operand} {i : IntKind} {n m' : Int}
theorem ev_lss (hx:opSV L x = .d (.int i n)) (hy:opSV L y = .d (.int i m')):Ev Γ k L H (.binOp .lss t x y t') ty (.d (.bool (decide (n < m')))) :=
 ev_bin_int hx hy (fun P w=>by simp [binOp,Op.intCmp]) fun _ _ _=>.bool
theorem ev_leq (hx:opSV L x = .d (.int i n)) (hy:opSV L y = .d (.int i m')):Ev Γ k L H (.binOp .leq t x y t') ty (.d (.bool (decide (n≤m')))) :=
 ev_bin_int hx hy (fun P w=>by simp [binOp,Op.intCmp]) fun _ _ _=>.bool
theorem ev_gtr (hx:opSV L x = .d (.int i n)) (hy:opSV L y = .d (.int i m')):Ev Γ k L H (.binOp .gtr t x y t') ty (.d (.bool (decide (m' < n)))) :=
 ev_bin_int hx hy (fun P w=>by simp [binOp,Op.intCmp]) fun _ _ _=>.bool
theorem ev_geq (hx:opSV L x = .d (.int i n)) (hy:opSV L y = .d (.int i m')):Ev Γ k L H (.binOp .geq t x y t') ty (.d (.bool (decide (m'≤n)))) :=
 ev_bin_int hx hy (fun P w=>by simp [binOp,Op.intCmp]) fun _ _ _=>.bool
theorem ev_eql (hx:opSV L x = .d (.int i n)) (hy:opSV L y = .d (.int i m')):Ev Γ k L H (.binOp .eql t x y t') ty (.d (.bool (decide (n=m')))) :=
 ev_bin_int hx hy (fun P w=>by simp [binOp,Op.intCmp];rfl) fun _ _ _=>.bool
theorem ev_neq (hx:opSV L x = .d (.int i n)) (hy:opSV L y = .d (.int i m')):Ev Γ k L H (.binOp .neq t x y t') ty (.d (.bool (decide (n≠m')))) :=
 ev_bin_int hx hy (fun P w=>by simp [binOp,Op.intCmp];rfl) fun _ _ _=>.bool
end
section
variable {t t' ty : TypeId} {x y : Operand} {i : IntKind} {n m' : Int}
theorem ev_not {b:Bool} (hx:opSV L x = .d (.bool b)):Ev Γ k L H (.unOp .not t x) ty (.d (.bool (!b))):=by
 intro e a w m
 exact⟨.bool (!b),fun _ _ _ _ w' _=>by simp [execOp,evB m hx,Op.unary],.bool⟩
theorem ev_pick {c:Operand} {b:Bool} (hc:opSV L c = .d (.bool b)) (hx:b=true→opOkB x=true) (hy:b=false→opOkB y=true) :
  Ev Γ k L H (.pick c x y) ty (match b with|true=>opSV L x|false=>opSV L y):=by
 intro e a w m
 cases b with
 | true=>exact⟨a.eval x,fun _ _ _ _ w' _=>by simp [execOp,evB m hc,asBool],m.op x (opOkB_spec (hx rfl))⟩
 | false=>exact⟨a.eval y,fun _ _ _ _ w' _=>by simp [execOp,evB m hc,asBool],m.op y (opOkB_spec (hy rfl))⟩
theorem ev_eqs {s u:ByteArray} (hx:opSV L x = .d (.str s)) (hy:opSV L y = .d (.str u)):Ev Γ k L H (.binOp .eql t x y t') ty (.d (.bool (decide (s=u)))):=by
 intro e a w m
 refine⟨_,fun _ _ _ _ w' _=>?_,.bool⟩
 simp only [execOp,evS m hx,evS m hy]
 simp [eqGuard,binOp,Op.stringOp,str_beq]
theorem ev_nes {s u:ByteArray} (hx:opSV L x = .d (.str s)) (hy:opSV L y = .d (.str u)):Ev Γ k L H (.binOp .neq t x y t') ty (.d (.bool (decide (s≠u)))):=by
 intro e a w m
 refine⟨_,fun _ _ _ _ w' _=>?_,.bool⟩
 simp only [execOp,evS m hx,evS m hy]
 simp [eqGuard,binOp,Op.stringOp,str_beq]
theorem ev_len_str {s:ByteArray} (ht:Γ.sh t = .str) (hx:opSV L x = .d (.str s)) (hxo:opOkB x=true):Ev Γ k L H (.call { callee:=.builtin .len,args:=#[x],argTypes:=#[t] }) ty (.d (.int .i64 s.size)):=by
 intro e a w m
 have hs:s.size≤maxLen:=by
  have hr:=m.op x (opOkB_spec hxo)
  rw [hx] at hr
  generalize a.eval x=v at hr
  cases hr;assumption
 refine⟨.int .i64 s.size,fun _ _ _ _ w' _=>?_,.int (WalkArith.wf_i64 (by unfold maxLen at hs;omega))⟩
 simp [execOp,resolve,invoke,builtin,evS m hx,Builtin.len_,goInt,run_underlying (Ctx.str ht)]
theorem ev_index_str {s:ByteArray} {n:Int} (ht:Γ.sh t = .str) (hx:opSV L x = .d (.str s)) (hy:opSV L y = .d (.int .i64 n)) (h0:0≤n) (h1:n.toNat < s.size) :
  Ev Γ k L H (.index t x y) ty (.d (.int .u8 (s[n.toNat]'h1).toNat)):=by
 intro e a w m
 refine⟨.int .u8 (s[n.toNat]'h1).toNat,fun _ _ _ _ w' _=>?_,.int (WalkArith.wf_u8 (by have:=(s[n.toNat]'h1).toNat_lt;omega))⟩
 simp [execOp,Instr.index,evS m hx,evI m hy,asIntOf,run_underlying (Ctx.str ht),h0,h1]
end
end
end Go.Proofs.YtapciiffpnociabGreatDoor
