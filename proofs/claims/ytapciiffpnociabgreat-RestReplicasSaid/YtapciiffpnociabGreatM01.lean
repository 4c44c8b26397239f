/- Several texts in one: Gx GxOps GxMem. Condition: none. -/
import Derived.Deep.Quiet
import Derived.Sort.LoopGhostIn
import Derived.OrdersIn
import Derived.RangeFuncRecord
import Derived.WalkSpells
set_option linter.all false
open Array renaming getD_eq_getD_getElem?→Da
open Bool renaming and_eq_true→Ae
open List renaming filterMap_cons→Br,mem_cons_of_mem→Ak,mem_cons_self→Ac,toArray→Gl
open Nat renaming add_assoc→Ew,beq→Az,ble→Cj,blt→Av,eq_of_beq_eq_true→Ao,le_of_ble_eq_true→Ab,le_refl→Af,le_trans→Aw,lt_of_lt_of_le→As,ne_of_beq_eq_false→By,zero_le→Ai
open Option renaming getD_some→Cm
namespace Go.Proofs.YtapciiffpnociabGreat
open Go Go.RowKit
variable {pos:String} {af:Array Edge} {g:Option (Nat×Bool)}
section
open Go Go.RowKit
class Y0 where
 B:Nat
 F:Nat
variable [Y0]
inductive D where
 | int (k:IntKind) (n:Int)
 | bool (b:Bool)
 | str (s:ByteArray)
 | slice (es:Nat) (xs:List (List D))
 | ptr (ds:List D)
 | own (B:Nat) (x:D)
def lim (X:Nat->Prop) (B q:Nat):Nat->Prop:=λb=>X b∨match q with|0=>B<=b|_=>b<B
def wD {X Y:Nat->Prop} {B q n:Nat} (h:∀ b,b<n->Y b->X b):∀ b,b<n->lim Y B q b->lim X B q b:=λb c d=>d.imp (h b c) id
inductive Q0:(Nat->Prop)->World->Value->D->Prop
 | int {X w k n} (h:(Lit.int k n).wf=true):Q0 X w (.int k n) (.int k n)
 | bool {X w b}:Q0 X w (.bool b) (.bool b)
 | str {X w s} (h:s.size<=maxLen):Q0 X w (.string s) (.str s)
 | nil {X w es}:Q0 X w (.slice none 0 0) (.slice es [])
 | zero {X w es a}:Q0 X w (.slice (some a) 0 0) (.slice es [])
 | slice {X:Nat->Prop} {w:World} {b off n cap es:Nat} {xs:List (List D)} (c:Nat->Nat->Value) (hn:n=xs.length) (hc:n<=cap) (hm:cap<=maxLen) (hX:¬ X b) (hb:b<w.heap.size)
   (he:∀ i (h:i<xs.length),(xs[i]'h).length=es)
   (hcell:∀ i (h:i<xs.length) j (_:j<(xs[i]'h).length),w.cell? ⟨b,off+i*es+j,none⟩=some (c i j))
   (hrep:∀ i (h:i<xs.length) j (hj:j<(xs[i]'h).length),Q0 X w (c i j) ((xs[i]'h)[j]'hj))
   (hz:Y0.F<=b->∀ i (h:i<xs.length) j (_:j<(xs[i]'h).length),w.frozen? ⟨b,off+i*es+j,none⟩=false) :
   Q0 X w (.slice (some ⟨b,off,none⟩) n cap) (.slice es xs)
 | ptr {X:Nat->Prop} {w:World} {b off:Nat} {ds:List D} (c:Nat->Value) (hX:¬ X b) (hb:b<w.heap.size) (hcell:∀ j (_:j<ds.length),w.cell? ⟨b,off+j,none⟩=some (c j)) (hrep:∀ j (hj:j<ds.length),Q0 X w (c j) (ds[j]'hj)) (hz:Y0.F<=b->∀ j (_:j<ds.length),w.frozen? ⟨b,off+j,none⟩=false) :
   Q0 X w (.pointer (some ⟨b,off,none⟩)) (.ptr ds)
 | own {X:Nat->Prop} {w:World} {B:Nat} {v:Value} {x:D} (h:Q0 (lim X B 1) w v x):Q0 X w v (.own B x)
def jc {w w':World} {b o:Nat} (h:w'.heap[b]?=w.heap[b]?):w'.frozen? ⟨b,o,none⟩=w.frozen? ⟨b,o,none⟩:=by simp only [World.frozen?,h]
def ky {w:World} {b o:Nat} {c:Array Value} {t:TypeId} (h:w.heap[b]?=some (.cells c t (0,0))):w.frozen? ⟨b,o,none⟩=false:=by simp [World.frozen?,h]
def Q0.N1 {X Y:Nat->Prop} {w w':World} (m:w.heap.size<=w'.heap.size) (hb:∀ b,b<w.heap.size->¬ X b->w'.heap[b]?=w.heap[b]?) (p:∀ b,b<w.heap.size->Y b->X b)
  {v:Value} {x:D} (h:Q0 X w v x):Q0 Y w' v x:=by
 induction h generalizing Y with
 | int h=>exact .int h
 | bool=>exact .bool
 | str h=>exact .str h
 | nil=>exact .nil
 | zero=>exact .zero
 | slice c z A B l f C q E r ih =>
  exact .slice c z A B (λs=>l<|p _ f s) (As f m) C
   (λi h j d=>(World.cell?_of_block<|hb _ f l).trans<|q i h j d) (λi h j d=>ih i h j d m hb p) (λu i h j d=>(jc<|hb _ f l).trans<|r u i h j d)
 | ptr c l f q E r ih =>
  exact .ptr c (λs=>l<|p _ f s) (As f m) (λj d=>(World.cell?_of_block<|hb _ f l).trans<|q j d) (λj d=>ih j d m hb p)<|λu j d=>(jc<|hb _ f l).trans<|r u j d
 | own h ih=>exact .own<|ih m (λb F G=>hb b F λI=>G<|.inl I)<|wD p
inductive MK where
 | str (s:ByteArray)
 | pair (a b:Int)
def MK.val:MK->Value
 | .str s=>.string s
 | .pair a b=>.agg #[.int .i64 a,.int .i64 b]
def MK.ok (kd:Bool):MK->Prop
 | .str s=>kd=true/\s.size<=maxLen
 | .pair a b=>kd=false/\(Lit.int .i64 a).wf=true/\(Lit.int .i64 b).wf=true
def yx (es:Array MapEntry) (b:Nat):Prop:=es.toList.Pairwise (λx y=>x.born≠y.born)/\∀ x∈es.toList,x.born<b
structure W6 (w:World) (b:Nat) (kd:Bool) (kvs:List (MK×Int)):Prop where
 es:∃ (es:Array MapEntry) (clock:Nat),w.heap[b]?=some (.map es clock)/\es.toList.map (λx=>(x.key,x.val))=kvs.map (λp=>(p.1.val,Value.int .i64 p.2))/\yx es clock
 keys:kvs.Pairwise λp q=>p.1≠q.1
 wf:∀ p∈kvs,p.1.ok kd/\(Lit.int .i64 p.2).wf=true
def W6.N1 {w w':World} {b:Nat} {kd:Bool} {kvs:List (MK×Int)} (h:W6 w b kd kvs) (hb:∀ es c,w.heap[b]?=some (.map es c)->w'.heap[b]?=some (.map es c)):W6 w' b kd kvs:=
 let ⟨es,c,d,f⟩:=h.es
 ⟨⟨es,c,hb _ _ d,f⟩,h.keys,h.wf⟩
inductive SV where
 | V1
 | d (x:D)
 | Q1
 | pd (ds:List D)
 | loc (id off:Nat)
 | row (id:Nat)
 | mp (id:Nat)
 | md (kd:Bool) (kvs:List (MK×Int))
 | P3 (id k es off:Nat)
 | sl (id off n cap:Nat)
 | R5 (id es k n:Nat)
 | rg (B q:Nat) (x:D)
 | fn (f:FuncId) (caps:List SV)
 | agg (ss:List SV)
 | M2 (ss:List SV)
 | val (v:Value)
inductive U3 (X:Nat->Prop) (w:World):Value->D->Prop
 | int {k n m} (h:(Lit.int k m).wf=true):U3 X w (.int k m) (.int k n)
 | bool {b c}:U3 X w (.bool b) (.bool c)
 | str {s t} (h:s.size<=maxLen):U3 X w (.string s) (.str t)
 | nil {es}:U3 X w (.slice none 0 0) (.slice es [])
 | zero {es a}:U3 X w (.slice (some a) 0 0) (.slice es [])
 | slice {b off n cap es:Nat} {xs:List (List D)} (c:Nat->Nat->Value) (hn:n=xs.length) (hc:n<=cap) (hm:cap<=maxLen) (hX:¬ X b) (hb:b<w.heap.size)
   (he:∀ i (h:i<xs.length),(xs[i]'h).length=es)
   (hcell:∀ i (h:i<xs.length) j (_:j<(xs[i]'h).length),w.cell? ⟨b,off+i*es+j,none⟩=some (c i j))
   (hrep:∀ i (h:i<xs.length) j (hj:j<(xs[i]'h).length),U3 X w (c i j) ((xs[i]'h)[j]'hj))
   (hz:Y0.F<=b->∀ i (h:i<xs.length) j (_:j<(xs[i]'h).length),w.frozen? ⟨b,off+i*es+j,none⟩=false) :
   U3 X w (.slice (some ⟨b,off,none⟩) n cap) (.slice es xs)
 | ptr {b off:Nat} {ds:List D} (c:Nat->Value) (hX:¬ X b) (hb:b<w.heap.size) (hcell:∀ j (_:j<ds.length),w.cell? ⟨b,off+j,none⟩=some (c j)) (hrep:∀ j (hj:j<ds.length),U3 X w (c j) (ds[j]'hj)) (hz:Y0.F<=b->∀ j (_:j<ds.length),w.frozen? ⟨b,off+j,none⟩=false) :
   U3 X w (.pointer (some ⟨b,off,none⟩)) (.ptr ds)
 | own {B:Nat} {v:Value} {x:D} (h:U3 X w v x):U3 X w v (.own B x)
abbrev SV.i (n:Int):SV:=.d (.int .i64 n)
abbrev SV.b (b:Bool):SV:=.d (.bool b)
abbrev SV.t (s:ByteArray):SV:=.d (.str s)
abbrev SV.s (e:Nat) (xs:List (List D)):SV:=.d (.slice e xs)
def U3.Rg {X Y:Nat->Prop} {w:World} (p:∀ b,Y b->X b) {v:Value} {x:D} (h:U3 X w v x):U3 Y w v x:=by
 induction h with
 | int h=>exact .int h
 | bool=>exact .bool
 | str h=>exact .str h
 | nil=>exact .nil
 | zero=>exact .zero
 | slice c q r s d f u j z l ih=>exact .slice c q r s (λm=>d<|p _ m) f u j ih l
 | ptr c d f j z l ih=>exact .ptr c (λm=>d<|p _ m) f j ih l
 | own h ih=>exact .own ih
def Q0.XQ {X:Nat->Prop} {w:World} {v:Value} {x:D} (h:Q0 X w v x):U3 X w v x:=by
 induction h with
 | int h=>exact .int h
 | bool=>exact .bool
 | str h=>exact .str h
 | nil=>exact .nil
 | zero=>exact .zero
 | slice c l m p b d q f r j ih=>exact .slice c l m p b d q f ih j
 | ptr c b d f r j ih=>exact .ptr c b d f ih j
 | own h ih=>exact .own<|ih.Rg λ_ h=>.inl h
def U3.N1 {X Y:Nat->Prop} {w w':World} (s:w.heap.size<=w'.heap.size) (hb:∀ b,b<w.heap.size->¬ X b->w'.heap[b]?=w.heap[b]?) (u:∀ b,b<w.heap.size->Y b->X b)
  {v:Value} {x:D} (h:U3 X w v x):U3 Y w' v x:=by
 induction h with
 | int h=>exact .int h
 | bool=>exact .bool
 | str h=>exact .str h
 | nil=>exact .nil
 | zero=>exact .zero
 | slice c z A B f d C m E p ih =>
  exact .slice c z A B (λq=>f<|u _ d q) (As d s) C
   (λi h j l=>(World.cell?_of_block (w:=w)<|hb _ d f).trans<|m i h j l) ih (λr i h j l=>(jc (w:=w)<|hb _ d f).trans<|p r i h j l)
 | ptr c f d m E p ih =>
  exact .ptr c (λq=>f<|u _ d q) (As d s) (λj l=>(World.cell?_of_block (w:=w)<|hb _ d f).trans<|m j l) ih<|λr j l=>(jc (w:=w)<|hb _ d f).trans<|p r j l
 | own h ih=>exact .own ih
def Zm (X:Nat->Prop) (w:World) (B q:Nat) (v:Value) (x:D):Prop:=B<=w.heap.size/\match q with|2=>U3 (lim X B 2) w v x|q=>Q0 (lim X B q) w v x
def Zm.N1 {X Y:Nat->Prop} {w w':World} {B q:Nat} (c:w.heap.size<=w'.heap.size) (hb:∀ b,b<w.heap.size->¬ X b->w'.heap[b]?=w.heap[b]?) (m:∀ b,b<w.heap.size->Y b->X b)
  {v:Value} {x:D} (h:Zm X w B q v x):Zm Y w' B q v x:=by
 refine⟨Aw h.1 c,?_⟩
 have d:=h.2;split
 ·exact U3.N1 c (λb f j=>hb b f λl=>j<|.inl l) (wD m) d
 ·split at d
  ·rename_i p;exact absurd rfl p
  ·exact Q0.N1 c (λb f j=>hb b f λl=>j<|.inl l) (wD m) d
inductive HB where
 | M1 (ty:TypeId) (cs:List SV)
 | row (ty:TypeId) (es:Nat) (xs:List (List D))
 | map (kd:Bool) (kvs:List (MK×Int))
abbrev Sl:=List (Nat×SV)
abbrev Hp:=List (Nat×HB)
structure Env where
 β:Nat->Nat
 η:Nat->Value
 U4:Nat->Prop
def Env.an (e:Env) (j:Nat):Nat×Value:=(e.β j,e.η j)
def Env.WK {e e':Env} {j:Nat} (h:e'.β j=e.β j/\e'.η j=e.η j):e'.an j=e.an j:=Prod.ext h.1 h.2
def Env.pU {e e':Env} {j:Nat} (h:e'.an j=e.an j):e'.β j=e.β j:=congrArg Prod.fst h
def Env.HZ {e e':Env} {j:Nat} (h:e'.an j=e.an j):e'.η j=e.η j:=congrArg Prod.snd h
abbrev lo (k:Nat):Nat->Prop:=λi=>i<k
instance:Coe Nat (Nat->Prop):=⟨lo⟩
mutual
def Rel (X:Nat->Prop) (e:Env) (w:World):SV->Value->Prop
 | .V1,_=>True
 | .d x,v=>Q0 X w v x
 | .Q1,v=>v=.slice none 0 0
 | .pd r,v=>∃ b off,v=.pointer (some ⟨b,off,none⟩)/\b<w.heap.size/\¬ X b/\∀ j (h:j<r.length),∃ u,w.cell? ⟨b,off+j,none⟩=some u/\Q0 X w u r[j]
 | .loc id off,v=>e.U4 id/\v=.pointer (some ⟨e.β id,off,none⟩)
 | .row id,v=>e.U4 id/\v=e.η id/\v.oneCell'=true
 | .mp id,v=>e.U4 id/\v=.map (some (e.β id))
 | .md s z,v=>∃ b,v=.map (some b)/\b<w.heap.size/\¬ X b/\W6 w b s z
 | .P3 id k m off,v=>e.U4 id/\∃ g n c,e.η id=.slice (some ⟨g,0,none⟩) n c/\v=.pointer (some ⟨g,k*m+off,none⟩)
 | .sl id off n c,v=>e.U4 id/\n<=c/\c<=maxLen/\∃ o,v=.slice (some ⟨e.β id,o,none⟩) n c/\(0<c->o=off)
 | .R5 id m k n,v=>e.U4 id/\v.oneCell'=true/\((e.η id=.slice none 0 0/\v=.slice none 0 0/\k=0/\n=0)∨∃ g A c o,e.η id=.slice (some ⟨g,0,none⟩) A c/\k<=c/\c<=maxLen/\n<=c-k/\v=.slice (some ⟨g,o,none⟩) n (c-k)/\(k<c∨k=0->o=k*m))
 | .rg B q x,v=>Zm X w B q v x
 | .fn f C,v=>∃ l,v=.func (.func f) #[] (Gl l)/\O0 X e w C l
 | .agg p,v=>∃ l,v=.agg (Gl l)/\O0 X e w p l
 | .M2 p,v=>∃ l,v=.tuple (Gl l)/\O0 X e w p l
 | .val u,v=>v=u
def O0 (X:Nat->Prop) (e:Env) (w:World):List SV->List Value->Prop
 | [],[]=>True
 | s::b,v::c=>Rel X e w s v/\O0 X e w b c
 | _,_=>False
end
mutual
def Rel.N1 {X Y:Nat->Prop} {e:Env} {w w':World} (l:w.heap.size<=w'.heap.size) (hb:∀ b,b<w.heap.size->¬ X b->w'.heap[b]?=w.heap[b]?) (m:∀ b,b<w.heap.size->Y b->X b) :
  ∀ (s:SV) (v:Value),Rel X e w s v->Rel Y e w' s v
 | .V1,_,_=>trivial
 | .d _,_,h=>Q0.N1 l hb m h
 | .Q1,_,h=>h
 | .pd _,_,⟨b,off,f,c,q,r⟩=>⟨b,off,f,As c l,λz=>q (m _ c z),λj B =>
   let ⟨u,C,E⟩:=r j B
   ⟨u,(World.cell?_of_block (w:=w)<|hb _ c q).trans C,Q0.N1 l hb m E⟩⟩
 | .loc _ _,_,h=>h
 | .row _,_,h=>h
 | .mp _,_,h=>h
 | .md _ _,_,⟨b,f,c,q,r⟩=>⟨b,f,As c l,λz=>q (m _ c z),r.N1 λ_ _ F=>(hb _ c q).trans F⟩
 | .P3 _ _ _ _,_,h=>h
 | .sl _ _ _ _,_,h=>h
 | .R5 _ _ _ _,_,h=>h
 | .rg _ _ _,_,h=>Zm.N1 l hb m h
 | .fn _ G,_,⟨p,f,c⟩=>⟨p,f,O0.N1 l hb m G p c⟩
 | .agg A,_,⟨p,f,c⟩=>⟨p,f,O0.N1 l hb m A p c⟩
 | .M2 A,_,⟨p,f,c⟩=>⟨p,f,O0.N1 l hb m A p c⟩
 | .val _,_,h=>h
def O0.N1 {X Y:Nat->Prop} {e:Env} {w w':World} (c:w.heap.size<=w'.heap.size) (hb:∀ b,b<w.heap.size->¬ X b->w'.heap[b]?=w.heap[b]?) (d:∀ b,b<w.heap.size->Y b->X b) :
  ∀ (ss:List SV) (vs:List Value),O0 X e w ss vs->O0 Y e w' ss vs
 | [],[],_=>trivial
 | [],_::_,h=>h.elim
 | _::_,[],h=>h.elim
 | s::ss,v::vs,⟨f,j⟩=>⟨Rel.N1 c hb d s v f,O0.N1 c hb d ss vs j⟩
end
def O0.length {X e w}:∀ (ss:List SV) (vs:List Value),O0 X e w ss vs->ss.length=vs.length
 | [],[],_=>rfl
 | [],_::_,h=>h.elim
 | _::_,[],h=>h.elim
 | _::ss,_::vs,⟨_,h⟩=>by simp [O0.length ss vs h]
def O0.get {X e w}:∀ (ss:List SV) (vs:List Value),O0 X e w ss vs->∀ (i:Nat) (s:SV),ss[i]?=some s->∃ v,vs[i]?=some v/\Rel X e w s v
 | [],[],_,_,_,h=>by simp at h
 | [],_::_,h,_,_,_=>h.elim
 | _::_,[],h,_,_,_=>h.elim
 | s::ss,v::vs,⟨c,d⟩,i,f,b=>by
  cases i with
  | zero=>simp at b;subst b;exact⟨v,by simp,c⟩
  | succ i=>simpa using O0.get ss vs d i f (by simpa using b)
def O0.mk {X e w}:∀ (ss:List SV) (vs:List Value),ss.length=vs.length->(∀ (i:Nat) (s:SV) (v:Value),ss[i]?=some s->vs[i]?=some v->Rel X e w s v)->O0 X e w ss vs
 | [],[],_,_=>trivial
 | [],_::_,h,_=>by simp at h
 | _::_,[],h,_=>by simp at h
 | s::ss,v::vs,h,b=>⟨b 0 s v (by simp) (by simp),O0.mk ss vs (by simpa using h) λi c d f j=>b (i+1) c d (by simpa using f) (by simpa using j)⟩
def O0.set {X e w}:∀ (ss:List SV) (vs:List Value),O0 X e w ss vs->∀ (i:Nat) (s:SV) (v:Value),Rel X e w s v->O0 X e w (ss.set i s) (vs.set i v)
 | [],[],_,_,_,_,_=>trivial
 | [],_::_,h,_,_,_,_=>h.elim
 | _::_,[],h,_,_,_,_=>h.elim
 | s::ss,v::vs,⟨d,b⟩,i,f,j,c=>by
  cases i with
  | zero=>exact⟨c,b⟩
  | succ i=>exact⟨d,O0.set ss vs b i f j c⟩
def HB.owned (e:Env):Nat×HB->Option Nat
 | (id,.M1 _ _)=>some (e.β id)
 | (id,.row _ _ _)=>(e.η id).ownBlock
 | (id,.map _ _)=>some (e.β id)
def ah (e:Env) (H:Hp):List Nat:=H.filterMap<|HB.owned e
def I4 (X:Nat->Prop) (e:Env) (w:World):Nat×HB->Prop
 | (id,.M1 ty f)=>∃ b,w.heap[e.β id]?=some (.cells (Gl b) ty (0,0))/\O0 X e w f b/\∀ v∈b,v.oneCell'=true
 | (id,.row ty d c)=>∃ b,w.ownsRow 0 ty d (e.η id) c.length b/\(∀ i (h:i<c.length),(c[i]'h).length=d)/\(∀ v∈b,v.oneCell'=true) /\
   ∀ i (h:i<c.length) j (l:j<(c[i]'h).length),∃ v,b[i*d+j]?=some v/\Q0 X w v ((c[i]'h)[j]'l)
 | (id,.map m p)=>W6 w (e.β id) m p
inductive Sh where
 | int (k:IntKind)
 | bool
 | str
 | slice (e:TypeId)
 | struct (fs:List (Nat×TypeId×Nat))
 | ptr (e:TypeId)
 | map (k e:TypeId)
 | other
structure TI where
 sh:Sh
 cells:Nat
 bytes:Nat
 zero:List Value
 eqs:Bool
def o7 (P:Program):TypeDesc->Sh
 | .int k=>.int k
 | .bool=>.bool
 | .string=>.str
 | .slice e=>.slice e
 | .struct b=>.struct (b.toList.map λf=>(f.offset,f.type,((P.info? f.type).map (·.size)).getD 0))
 | .pointer e=>.ptr e
 | .map k e=>.map k e
 | _=>.other
def SD (P:Program) (t:TypeId):Bool:=match P.underlying t with
 | some (.struct b) => !P.stoodInHeld t&&(!P.eqGuardType P.depth t&&b.toList.all λf => f.name != "_")
 | _=>false
def KQ (P:Program) (t:TypeId):Option TI:=
 match P.underlying t,P.info? t with
 | some u,some i=>match i.zero with
  | some z=>some ⟨o7 P u,i.size,i.bytes,z.cells.toList,SD P t⟩
  | none=>none
 | _,_=>none
def ai:List (Nat×TI)->Nat->TI
 | [],_=>⟨.other,0,0,[],false⟩
 | (d,s)::L,t=>match Az d t with|true=>s|false=>ai L t
def c8 (P:Program) (τ:List (Nat×TI)):Prop:=τ.map (λp=>KQ P p.1)=τ.map (λp=>some p.2)
def jF {P:Program}:∀ {τ:List (Nat×TI)},c8 P τ->∀ t,(ai τ t).sh≠.other->KQ P t=some (ai τ t)
 | [],_,_,b=>absurd rfl b
 | (d,s)::L,h,t,b=>by
  simp only [c8,List.map_cons,List.cons.injEq] at h
  simp only [ai] at b ⊢
  cases c:Az d t with
  | true=>have:=Ao c;subst this;exact h.1
  | false=>rw [c] at b;exact jF (τ:=L) h.2 t b
structure Pan where
 may:Value->Sl->Hp->Prop
 base:List Deferred
structure Ctx where
 P:Program
 τ:List (Nat×TI)
 τok:c8 P τ
 O:Nat->Prop
 w0:World
 E0:Nat->Prop
 n:Nat
 J:Nat
 K1:Nat->Nat×Value
 rd:Option Nat
 vB:Pan
 uZ:Bool
 dr:Bool
structure W4 (dr:Bool) (B:Nat) (w w':World):Prop extends Below B w w' where
 drawn:dr=true->w.drawn<=w'.drawn
def W4.refl (b:Bool) (B:Nat) (w:World):W4 b B w w:=⟨Below.refl B w,λ_=>Af _⟩
def W4.trans {d:Bool} {B:Nat} {a b c:World} (h:W4 d B a b) (k:W4 d B b c):W4 d B a c:=⟨h.toBelow.trans k.toBelow,λf=>Aw (h.drawn f)<|k.drawn f⟩
def W4.mono {b:Bool} {B c:Nat} {w w':World} (h:W4 b B w w') (d:c<=B):W4 b c w w':=⟨h.toBelow.mono d,h.drawn⟩
def W4.drew {b:Bool} {B:Nat} {a w:World} (h:W4 b B a w):W4 b B a w.drew:=⟨h.toBelow.drew,λc=>Aw (h.drawn c)<|Nat.le_succ _⟩
abbrev da:Pan:=⟨λ_ _ _=>False,[]⟩
class P7 (Γ:Ctx):Prop where
 no:Γ.dr=false
instance {P τ τok O w0 E0 n J K1 rd vB uZ}:P7 ⟨P,τ,τok,O,w0,E0,n,J,K1,rd,vB,uZ,false⟩:=⟨rfl⟩
def W4.no {Γ:Ctx} [h:P7 Γ] {B:Nat} {w w':World} (hb:Below B w w'):W4 Γ.dr B w w':=⟨hb,λb=>by rw [h.no] at b;cases b⟩
def P7.any {Γ:Ctx} [h:P7 Γ] {p:Prop} (b:Γ.dr=true):p:=by rw [h.no] at b;cases b
def mark (r:Nat):Deferred:={ target:=.collected r,args:=#[] }
def Marks (n:Nat) (ro:Bool) (bs:List Deferred) (ds:List Deferred) (w:World):Prop:=∃ b:List Nat,ds=b.map mark++bs/\(ro=false->b=[])/\b.Nodup/\∀ r∈b,n<=r/\w.heap[r]?=some (.deferred<|some [])
def Marks.nil {n:Nat} {ro:Bool} {bs:List Deferred} {w:World}:Marks n ro bs bs w:=⟨[],rfl,λ_=>rfl,.nil,λ_ h=>nomatch h⟩
def Marks.N1 {n:Nat} {ro:Bool} {bs ds:List Deferred} {w w':World} (h:Marks n ro bs ds w) (d:∀ r:Nat,w.heap[r]?=some (Obj.deferred (some []))->w'.heap[r]?=w.heap[r]?):Marks n ro bs ds w':=
 let ⟨f,j,l,m,b⟩:=h
 ⟨f,j,l,m,λr c=>⟨(b r c).1,(d r (b r c).2).trans (b r c).2⟩⟩
def cz {w:World} {r:Nat} {o:Obj} (h:w.heap[r]?=some o):r<w.heap.size:=(Array.getElem?_eq_some_iff.1 h).1
def Marks.below {n:Nat} {ro:Bool} {bs ds:List Deferred} {w w':World} (h:Marks n ro bs ds w) (hb:Below w.heap.size w w'):Marks n ro bs ds w':=
 h.N1 λr b=>hb.block r<|cz b
def Ctx.X (Γ:Ctx) (e:Env) (H:Hp):Nat->Prop:=λb=>Γ.O b∨b∈ah e H
def Sl.get:Sl->Nat->SV
 | [],_=>.V1
 | (d,s)::L,t=>match Az d t with|true=>s|false=>Sl.get L t
def S7 (P:Program) (E:Nat->Prop) (w:World):Prop:=Y0.B<=w.heap.size/\Y0.F<=w.heap.size/\∀ b,E b->Y0.B<=b
def S7.grow {P:Program} {E:Nat->Prop} {w w':World} (h:S7 P E w) (b:w.heap.size<=w'.heap.size):S7 P E w':=⟨Aw h.1 b,Aw h.2.1 b,h.2.2⟩
def S7.sub {P:Program} {E c:Nat->Prop} {w:World} (h:S7 P E w) (d:∀ b,c b->E b):S7 P c w:=⟨h.1,h.2.1,λb f=>h.2.2 b<|d b f⟩
structure Heap (Γ:Ctx) (k:Nat->Prop) (H:Hp) (e:Env) (w:World):Prop where
 top:∀ i,e.U4 i↔k i
 heap:∀ p∈H,e.U4 p.1/\I4 (Γ.X e H) e w p
 ids:(H.map (·.1)).Nodup
 nodup:(ah e H).Nodup
 M3:∀ b∈ah e H,(Γ.E0 b∨Γ.w0.heap.size<=b)/\¬ Γ.O b
 os:w.os=Γ.w0.os
 tape:w.tape=Γ.w0.tape
 output:w.output=Γ.w0.output
 drawn:Γ.dr=true->Γ.w0.drawn<=w.drawn
 size:Γ.w0.heap.size<=w.heap.size
 block:∀ b,b<Γ.w0.heap.size->¬ Γ.E0 b->w.heap[b]?=Γ.w0.heap[b]?
 T1:∀ b,Γ.O b->b<Γ.w0.heap.size/\¬ Γ.E0 b
 S4:S7 Γ.P Γ.E0 Γ.w0
 L8:∀ j,j<Γ.J->k j
 anchor:∀ j,j<Γ.J->e.an j=Γ.K1 j
structure J0 (Γ:Ctx) (k:Nat->Prop) (L:Sl) (H:Hp) (e:Env) (a:Act) (w:World):Prop extends Heap Γ k H e w where
 defers:Marks Γ.w0.heap.size Γ.uZ Γ.vB.base a.defers w
 len:a.tmps.size=Γ.n
 slot:∀ t,Rel (Γ.X e H) e w (L.get t) (a.tmps.getD t undef)
def Heap.wU {Γ:Ctx} {k:Nat->Prop} {H:Hp} {e:Env} {w:World} (h:Heap Γ k H e w):∀ b,b∈ah e H->Y0.B<=b:=λb c=>(h.M3 b c).1.elim (h.S4.2.2 b)<|Aw h.S4.1
def Heap.U6 {Γ:Ctx} {k:Nat->Prop} {H:Hp} {e:Env} {w:World} (h:Heap Γ k H e w):S7 Γ.P (λb=>b∈ah e H) w:=⟨Aw h.S4.1 h.size,Aw h.S4.2.1 h.size,h.wU⟩
def Heap.lt {Γ:Ctx} {k:Nat->Prop} {H:Hp} {e:Env} {w:World} (h:Heap Γ k H e w):∀ b∈ah e H,b<w.heap.size:=by
 intro b c;obtain⟨p,j,c⟩:=List.mem_filterMap.1 c;have f:=(h.heap p j).2;obtain⟨id,l⟩:=p;cases l with
 | M1 ty r =>
  obtain⟨m,d,_⟩:=f;simp [HB.owned] at c;subst c;exact (Array.getElem?_eq_some_iff.1 d).1
 | row ty q s =>
  obtain⟨m,d,_⟩:=f;exact (d.lt b c).2
 | map u v =>
  obtain⟨⟨q,z,d,_⟩,_,_⟩:=f;simp [HB.owned] at c;subst c;exact (Array.getElem?_eq_some_iff.1 d).1
def Yu:Obj->Bool
 | .cells _ _ _=>true
 | .map _ _=>true
 | _=>false
def Heap.Lo {Γ:Ctx} {k:Nat->Prop} {H:Hp} {e:Env} {w:World} (h:Heap Γ k H e w) {b:Nat} (hb:b∈ah e H):∃ o,w.heap[b]?=some o/\Yu o=true:=by
 obtain⟨p,j,hb⟩:=List.mem_filterMap.1 hb;have d:=(h.heap p j).2;obtain⟨id,l⟩:=p;cases l with
 | M1 ty s =>
  obtain⟨m,c,_⟩:=d;simp [HB.owned] at hb;subst hb;exact⟨_,c,rfl⟩
 | row ty q u =>
  obtain⟨m,c,_⟩:=d;rcases c.2 with ⟨f,_⟩|⟨g,v,z,f,_,r,_⟩
  ·simp [HB.owned,f,Value.ownBlock] at hb
  ·simp [HB.owned,f,Value.ownBlock] at hb;subst hb;exact⟨_,r,rfl⟩
 | map A B =>
  obtain⟨⟨q,C,c,_⟩,_,_⟩:=d;simp [HB.owned] at hb;subst hb;exact⟨_,c,rfl⟩
def Heap.K8 {Γ:Ctx} {k:Nat->Prop} {H:Hp} {e:Env} {w:World} (h:Heap Γ k H e w) {r:Nat} (c:w.heap[r]?=some (Obj.deferred (some []))):r ∉ ah e H:=by intro d;obtain⟨o,b,f⟩:=h.Lo d;rw [c] at b;cases b;cases f
def I4.N1 {X Y:Nat->Prop} {e:Env} {w w':World} (q:w.heap.size<=w'.heap.size) (hb:∀ b,b<w.heap.size->¬ X b->w'.heap[b]?=w.heap[b]?) (s:∀ b,b<w.heap.size->Y b->X b)
  (p:Nat×HB) (d:∀ b,HB.owned e p=some b->w'.heap[b]?=w.heap[b]?) (h:I4 X e w p):I4 Y e w' p:=by
 obtain⟨id,z⟩:=p;cases z with
 | M1 ty P =>
  obtain⟨f,c,l,m⟩:=h;exact⟨f,(d _ rfl).trans c,O0.N1 q hb s _ _ l,m⟩
 | row ty A R =>
  obtain⟨f,c,l,m,B⟩:=h;refine⟨f,?_,l,m,λi C j E=>?_⟩
  ·refine⟨c.1,?_⟩
   rcases c.2 with F|⟨g,G,I,u,J,M,r⟩
   ·exact Or.inl F
   ·exact Or.inr ⟨g,G,I,u,J,(d g<|by simp [HB.owned,u,Value.ownBlock]).trans M,r⟩
  ·obtain⟨v,N,O⟩:=B i C j E;exact⟨v,N,Q0.N1 q hb s O⟩
 | map S T=>exact W6.N1 h λA U c=>(d _ rfl).trans c
def Heap.below {Γ:Ctx} {k:Nat->Prop} {H:Hp} {e:Env} {w w':World} (h:Heap Γ k H e w) (hb:W4 Γ.dr w.heap.size w w'):Heap Γ k H e w' where
 top:=h.top
 heap p hp:=⟨(h.heap p hp).1,I4.N1 hb.size (λb c _=>hb.block b c) (λ_ _ d=>d) p (λb f=>hb.block b<|h.lt b<|List.mem_filterMap.2 ⟨p,hp,f⟩) (h.heap p hp).2⟩
 ids:=h.ids
 nodup:=h.nodup
 M3:=h.M3
 os:=hb.os.trans h.os
 tape:=hb.tape.trans h.tape
 output:=hb.output.trans h.output
 drawn hd:=Aw (h.drawn hd)<|hb.drawn hd
 size:=Aw h.size hb.size
 block b h1 h2:=(hb.block b<|As h1 h.size).trans<|h.block b h1 h2
 T1:=h.T1
 S4:=h.S4
 L8:=h.L8
 anchor:=h.anchor
def J0.below {Γ:Ctx} {k:Nat->Prop} {L:Sl} {H:Hp} {e:Env} {a:Act} {w w':World} (h:J0 Γ k L H e a w) (hb:W4 Γ.dr w.heap.size w w'):J0 Γ k L H e a w' where
 toHeap:=h.toHeap.below hb
 defers:=h.defers.below hb.toBelow
 len:=h.len
 slot t:=Rel.N1 hb.size (λb c _=>hb.block b c) (λ_ _ d=>d) _ _<|h.slot t
def Sl.C1 (d:Nat) (s:SV) (L:Sl) (t:Nat):Sl.get ((d,s)::L) t=if d=t then s else Sl.get L t:=by
 simp only [Sl.get];cases h:Az d t with
 | true=>rw [if_pos<|Ao h]
 | false=>rw [if_neg<|By h]
def Act.jT (a:Act) (d:Nat) (v:Value) (t:Nat) (b:d<a.tmps.size):(a.put (some d) v).tmps.getD t undef=if d=t then v else a.tmps.getD t undef:=by
 simp only [Act.put,Da,Array.getElem?_setIfInBounds];by_cases h:d=t
 ·subst h;simp [b]
 ·simp [h]
def J0.put {Γ:Ctx} {k:Nat->Prop} {L:Sl} {H:Hp} {e:Env} {a:Act} {w:World} (h:J0 Γ k L H e a w) {d:Nat} {s:SV} {v:Value} (b:d<Γ.n) (c:Rel (Γ.X e H) e w s v) :
  J0 Γ k ((d,s)::L) H e (a.put (some d) v) w where
 toHeap:=h.toHeap
 defers:=h.defers
 len:=by simp [Act.put,h.len]
 slot t:=by
  rw [Sl.C1,Act.jT _ _ _ _<|by rw [h.len];exact b];split
  ·exact c
  ·exact h.slot t
def S6:Value->SV
 | .int k n=>.d (.int k n)
 | .bool b=>.d (.bool b)
 | .string s=>.d (.str s)
 | .slice none 0 0=>.Q1
 | v=>.val v
def NY:Value->Prop
 | .int k n=>(Lit.int k n).wf=true
 | .string s=>s.size<=maxLen
 | _=>True
def LM {X e w} (v:Value) (h:NY v):Rel X e w (S6 v) v:=by
 unfold S6;split
 ·exact .int h
 ·exact .bool
 ·exact .str h
 ·rfl
 ·rfl
def aj (L:Sl):Operand->SV
 | .tmp t=>L.get t
 | .const v=>S6 v
 | .func f=>.fn f []
 | _=>.V1
def Nq:Operand->Prop
 | .const v=>NY v
 | _=>True
def J0.op {Γ:Ctx} {k:Nat->Prop} {L:Sl} {H:Hp} {e:Env} {a:Act} {w:World} (h:J0 Γ k L H e a w) (x:Operand) (b:Nq x):Rel (Γ.X e H) e w (aj L x) (a.eval x):=by
 cases x with
 | tmp t=>exact h.slot t
 | const v=>exact LM v b
 | global g=>trivial
 | func f=>exact⟨[],rfl,trivial⟩
abbrev ey:=Exit->Nat->Sl->Hp->Prop
def Fell (Γ:Ctx) (x:Exit) (a:Act) (w:World):Prop:=∃ (v:Value) (k:Nat) (L:Sl) (H:Hp) (e:Env),x=.panic [{ v,recovered:=false }]/\Γ.vB.may v L H/\J0 Γ k L H e a w
def ze (Γ:Ctx) (Q:ey):Exit->Act->World->Prop:=λx a w=>(∃ (k:Nat) (L:Sl) (H:Hp) (e:Env),J0 Γ k L H e a w/\Q x k L H)∨Fell Γ x a w
def sd {Γ:Ctx} {Q Q':ey} (h:∀ x k L H,Q x k L H->Q' x k L H):∀ x a w,ze Γ Q x a w->ze Γ Q' x a w:=λ_ _ _ b=>b.imp (fun⟨k,L,H,e,m,c⟩=>⟨k,L,H,e,m,h _ _ _ _ c⟩) id
abbrev ob (ro:Option Nat):Fence:={ Fence.wide with round:=ro }
def DW (Γ:Ctx) (c:Code) (Q:ey) (k:Nat) (L:Sl) (H:Hp):Prop:=∀ e a w,J0 Γ k L H e a w->c.wpIn (ob Γ.rd) 0 Γ.P (ze Γ Q) a w
abbrev cn:=Nat->Sl->Hp->Prop
def ep (K:cn):ey:=λx k L H=>x=.normal/\K k L H
def DL (Γ:Ctx) (ops:List Oper) (rest:List Oper) (K:cn) (k:Nat) (L:Sl) (H:Hp):Prop:=
 ∀ e a w,J0 Γ k L H e a w->wpList Γ.P ops.toArray (ze Γ<|ep K) rest a w
def du (K:cn) (Q:ey):ey:=λx k L H=>match x with
 | .normal=>K k L H
 | x=>Q x k L H
section
variable {Γ : Ctx} {k : Nat} {L : Sl} {H : Hp} {Q : ey} {K : cn} {ops : List Oper} {rest : List Oper} {o : Oper}
def BM (h:Q .normal k L H):DW Γ .skip Q k L H:=λe _ _ m=>wpIn_skip<|.inl ⟨k,L,H,e,m,h⟩
def cr (h:Q .ret k L H):DW Γ .ret Q k L H:=λe _ _ m=>wpIn_ret<|.inl ⟨k,L,H,e,m,h⟩
def DM {id} (h:Q (.exit id) k L H):DW Γ (.exit id) Q k L H:=λe _ _ m=>wpIn_exit<|.inl ⟨k,L,H,e,m,h⟩
def AY {x y:Code} (h:∀ K:cn,(∀ k L H,DW Γ y Q k L H->K k L H)->DW Γ x (du K Q) k L H):DW Γ (.seq x y) Q k L H:=by
 intro e a w m;refine wpIn_seq<|wpIn_mono (h (DW Γ y Q) (λ_ _ _ h=>h) e a w m) ?_;rintro j a' w' (⟨c,d,f,b,m',hq⟩|hf)
 ·cases j with
  | normal=>exact hq b a' w' m'
  | _=>exact .inl ⟨c,d,f,b,m',hq⟩
 ·obtain⟨v,c,d,f,b,rfl,r⟩:=hf;exact .inr ⟨v,c,d,f,b,rfl,r⟩
def ee {c:Operand} {x y:Code} {b:Bool} (hc:aj L c=.d (.bool b)) (j:b=true->DW Γ x Q k L H) (l:b=false->DW Γ y Q k L H):DW Γ (.cond c x y) Q k L H:=by
 intro e a w m;have f:Rel (Γ.X e H) e w (aj L c) (a.eval c):=by
  cases c with
  | const v =>
   refine m.op _ ?_;cases v<;>first|trivial|(simp [aj,S6] at hc)
  | _=>exact m.op _ trivial
 rw [hc] at f;have h:a.eval c=.bool b:=by
  generalize a.eval c=v at f;cases f;rfl
 cases b
 ·exact wpIn_cond_false h<|l rfl e a w m
 ·exact wpIn_cond_true h<|j rfl e a w m
def bl (id:Nat) (Q:ey):ey:=λx k L H=>match x with
 | .exit b=>match Az b id with
  | true=>Q .normal k L H
  | false=>Q (.exit b) k L H
 | x=>Q x k L H
def HH {id:Nat} {c:Code} (h:DW Γ c (bl id Q) k L H):DW Γ (.block id c) Q k L H:=by
 intro e a w m;refine wpIn_block<|wpIn_mono (h e a w m) ?_;rintro p a' w' (⟨b,d,f,j,m',hq⟩|hf)
 ·cases p with
  | exit q =>
   simp only [Exit.inBlock];simp only [bl] at hq;cases l:Az q id with
   | true=>rw [l] at hq;rw [if_pos<|Ao l];exact .inl ⟨b,d,f,j,m',hq⟩
   | false=>rw [l] at hq;rw [if_neg<|By l];exact .inl ⟨b,d,f,j,m',hq⟩
  | _=>exact .inl ⟨b,d,f,j,m',hq⟩
 ·obtain⟨v,b,d,f,j,rfl,r⟩:=hf;exact .inr ⟨v,b,d,f,j,rfl,r⟩
def LY (h:K k L H):DL Γ ops [] K k L H:=λe _ _ m=>wpList_nil<|.inl ⟨k,L,H,e,m,rfl,h⟩
def d8:List Oper->Bool
 | []=>true
 | o::l=>(match o.op with|.defer _=>false|_=>true)&&d8 l
def rx:∀ {l:List Oper},d8 l=true->∀ o∈l,∀ c,o.op≠.defer c
 | [],_,_,h=>nomatch h
 | o::l,h,x,b=>by
  simp only [d8,Ae] at h
  rcases List.mem_cons.1 b with rfl|b
  ·intro c d;rw [d] at h;exact absurd h.1 (by simp)
  ·exact rx h.2 x b
def Zd {ro:Option Nat} {n:Nat} {P:Program} {f:FuncId} {args:Array Value} {w:World} {R:Ending->World->Prop} (h:Calls P f args w R):CallsIn (ob ro) n P f args w R:=
 ⟨trivial,λb _=>let ⟨e,c,d,r,s,x⟩:=h b;⟨e,c,d,r,comesIn_wide.2 s,x⟩⟩
def ou {ro:Option Nat} {p:Prop}:(ob ro).depth.isSome=true->p:=λh=>nomatch h
def Oper.aX {ro:Option Nat} {P:Program} {o:Oper} {a:Act} {w:World} {K:Act->World->Prop} {Q:Exit->Act->World->Prop} (b:∀ c,o.op≠.defer c) (h:o.wp P a w K Q):o.wpIn (ob ro) 0 P a w K Q:=by
 refine⟨λ_ _=>trivial,?_⟩
 rw [Oper.semAt_eq _ _ _ b];unfold Oper.wp at h;generalize (execOp a.eval o).run P w=r at h;cases r with
 | ok x d =>
  cases x<;>simp only [Oper.upon,Oper.uponIn] at h ⊢<;>first
   | exact h
   | exact⟨ou,Zd h⟩
   | exact⟨ou,λc f _=>let ⟨v,j,r,s⟩:=h c f;⟨v,j,r,stepsIn_wide.2 s⟩⟩
   | exact h.elim
 | halt x d=>cases x<;>simp only [Oper.upon,Oper.uponIn] at h ⊢<;>exact h
def Rb {ro:Option Nat} {P:Program} {ops:Array Oper} {Q:Exit->Act->World->Prop} (b:¬ LetsOut Q):∀ (l:List Oper),d8 l=true->∀ a w,wpList P ops Q l a w->wpListIn (ob ro) 0 P ops Q l a w
 | [],_,_,_,h=>h
 | o::l,c,a,w,h=>by
  have j:=rx c o (Ac ..);have f:d8 l=true:=by simp only [d8,Ae] at c;exact c.2
  unfold wpList at h;unfold wpListIn;split at h
  ·rename_i d;rw [if_pos d];rcases h with h|h
   ·exact Oper.wpIn_mono (λa w=>Rb b l f a w)<|Oper.aX j h
   ·exact absurd h.2 b
  ·rename_i d;rw [if_neg d];exact⟨λ_ _=>trivial,Rb b l f _ _ h⟩
def LU {ro:Option Nat} {P:Program} {l:List Oper} {Q:Exit->Act->World->Prop} (d:¬ LetsOut Q) (f:d8 l=true) {i:Nat} {K:Act->World->Prop} {a:Act} {w:World} (h:wpOp P l.toArray Q i K a w):wpOpIn (ob ro) 0 P l.toArray Q i K a w:=by
 unfold wpOp at h;unfold wpOpIn;cases b:l.toArray[i]? with
 | none=>rw [b] at h;exact h
 | some o =>
  rw [b] at h;have j:o∈l:=by
   rw [List.getElem?_toArray] at b;exact List.mem_of_getElem? b
  simp only at h ⊢;split at h
  ·rename_i c;rw [if_pos c];rcases h with h|h
   ·exact Oper.aX (rx f o j) h
   ·exact absurd h.2 d
  ·rename_i c;rw [if_neg c];exact⟨λ_ _=>trivial,h⟩
def zj {ro:Option Nat} {P:Program} {l:List Oper} {b:Region.Mode} {Q:Exit->Act->World->Prop} (c:¬ LetsOut Q) (d:d8 l=true):∀ (fuel:Nat) (f:Array Bool) (a:Act) (w:World),wpAny P b l.toArray Q fuel f a w->wpAnyIn (ob ro) 0 P b l.toArray Q fuel f a w
 | 0,_,_,_,h=>h
 | fuel+1,_,_,_,h=>⟨h.1,λi j=>wpOpIn_mono (λa w=>zj c d fuel _ a w) (LU c d (h.2 i j))⟩
def ji {Γ:Ctx} {K:cn}:¬ LetsOut (ze Γ (ep K)):=by
 rintro⟨a,w,⟨k,L,H,e,m,b,_⟩|⟨v,k,L,H,e,b,_⟩⟩
 ·cases b
 ·cases b
def yP {id:Nat} {l:List Oper} (b:d8 l=true) (h:DL Γ l l (Q .normal) k L H):DW Γ (.region id l.toArray false) Q k L H:=by intro e a w m;refine wpIn_mono (wpIn_region_lit<|Rb ji l b _ _<|h e a w m)<|sd ?_;rintro ex k' L' H' ⟨rfl,hq⟩;exact hq
def X7 (Γ:Ctx) (k:Nat) (L:Sl) (H:Hp) (k':Nat) (L':Sl) (H':Hp):Prop:=
 ∀ e a w,J0 Γ k L H e a w->∃ b,J0 Γ k' L' H' b a w
def X7.refl:X7 Γ k L H k L H:=λe _ _ m=>⟨e,m⟩
def ag {c:Code} {k' L' H'} (b:X7 Γ k L H k' L' H') (h:DW Γ c Q k' L' H'):DW Γ c Q k L H:=λe a w m =>
 let ⟨d,m'⟩:=b e a w m
 h d a w m'
structure St where
 k:Nat
 L:Sl
 H:Hp
def AW {ι:Type} {c:Code} (I:ι->St) (d:ι->Nat) (b:ι) (h:X7 Γ k L H (I b).k (I b).L (I b).H)
  (j:∀ x,DW Γ c (du (λk' L' H'=>∃ y,X7 Γ k' L' H' (I y).k (I y).L (I y).H/\d y<d x) Q) (I x).k (I x).L (I x).H):DW Γ (.loop c) Q k L H:=by
 intro e a w m;obtain⟨e0,l⟩:=h e a w m;refine wpIn_loop_ghost (λn a w=>∃ x,d x=n/\∃ e,J0 Γ (I x).k (I x).L (I x).H e a w) (d b) ⟨b,rfl,e0,l⟩ ?_;rintro n a w ⟨x,rfl,e,m⟩;refine wpIn_mono (j x e a w m) ?_;rintro p a' w' (⟨k',L',H',f,m',hq⟩|hf)
 ·cases p with
  | normal =>
   obtain⟨y,q,s⟩:=hq;obtain⟨u,z⟩:=q f a' w' m';exact⟨_,s,y,rfl,u,z⟩
  | _=>exact .inl ⟨k',L',H',f,m',hq⟩
 ·obtain⟨v,k',L',H',f,rfl,r⟩:=hf;exact .inr ⟨v,k',L',H',f,rfl,r⟩
end
mutual
def SV.V2 (ρ:Nat->Nat):SV->SV
 | .V1=>.V1
 | .d x=>.d x
 | .Q1=>.Q1
 | .pd h=>.pd h
 | .loc id off=>.loc (ρ id) off
 | .row id=>.row (ρ id)
 | .mp id=>.mp (ρ id)
 | .md j l=>.md j l
 | .P3 id k b off=>.P3 (ρ id) k b off
 | .sl id off n m=>.sl (ρ id) off n m
 | .R5 id b k n=>.R5 (ρ id) b k n
 | .rg B q x=>.rg B q x
 | .fn f p=>.fn f (SV.T4 ρ p)
 | .agg c=>.agg (SV.T4 ρ c)
 | .M2 c=>.M2 (SV.T4 ρ c)
 | .val v=>.val v
def SV.T4 (ρ:Nat->Nat):List SV->List SV
 | []=>[]
 | s::b=>SV.V2 ρ s::SV.T4 ρ b
end
mutual
def SV.low (k:Nat):SV->Bool
 | .loc id _=>Av id k
 | .row id=>Av id k
 | .mp id=>Av id k
 | .md _ _=>true
 | .P3 id _ _ _=>Av id k
 | .sl id _ _ _=>Av id k
 | .R5 id _ _ _=>Av id k
 | .rg _ _ _=>true
 | .fn _ c=>SV.U1 k c
 | .agg b=>SV.U1 k b
 | .M2 b=>SV.U1 k b
 | .V1=>true
 | .d _=>true
 | .Q1=>true
 | .pd _=>true
 | .val _=>true
def SV.U1 (k:Nat):List SV->Bool
 | []=>true
 | s::b=>SV.low k s&&SV.U1 k b
end
def HB.V2 (ρ:Nat->Nat):HB->HB
 | .M1 ty b=>.M1 ty (SV.T4 ρ b)
 | .row ty c d=>.row ty c d
 | .map f h=>.map f h
def HB.low (k:Nat):HB->Bool
 | .M1 _ b=>SV.U1 k b
 | .row _ _ _=>true
 | .map _ _=>true
def Env.V2 (e:Env) (ρ:Nat->Nat) (k:Nat):Env:=⟨λi=>e.β (ρ i),λi=>e.η (ρ i),lo k⟩
mutual
def Rel.V2 {X e w} (ρ:Nat->Nat) (k:Nat):∀ (s:SV) (v:Value),s.low k=true->Rel X e w (s.V2 ρ) v->Rel X (e.V2 ρ k) w s v
 | .V1,_,_,_=>trivial
 | .d _,_,_,h=>h
 | .Q1,_,_,h=>h
 | .pd _,_,_,h=>h
 | .loc _ _,_,b,h=>⟨Ab b,h.2⟩
 | .row _,_,b,h=>⟨Ab b,h.2⟩
 | .mp _,_,b,h=>⟨Ab b,h.2⟩
 | .md _ _,_,_,h=>h
 | .P3 _ _ _ _,_,b,h=>⟨Ab b,h.2⟩
 | .sl _ _ _ _,_,b,h=>⟨Ab b,h.2⟩
 | .R5 _ _ _ _,_,b,h=>⟨Ab b,h.2⟩
 | .rg _ _ _,_,_,h=>h
 | .fn _ m,_,b,⟨c,f,j⟩=>⟨c,f,O0.V2 ρ k m c b j⟩
 | .agg l,_,b,⟨c,f,j⟩=>⟨c,f,O0.V2 ρ k l c b j⟩
 | .M2 l,_,b,⟨c,f,j⟩=>⟨c,f,O0.V2 ρ k l c b j⟩
 | .val _,_,_,h=>h
def O0.V2 {X e w} (ρ:Nat->Nat) (k:Nat):∀ (ss:List SV) (vs:List Value),SV.U1 k ss=true->O0 X e w (SV.T4 ρ ss) vs->O0 X (e.V2 ρ k) w ss vs
 | [],[],_,_=>trivial
 | [],_::_,_,h=>h.elim
 | _::_,[],_,h=>h.elim
 | s::ss,v::vs,b,h=>by
  simp only [SV.U1,Ae] at b
  exact⟨Rel.V2 ρ k s v b.1 h.1,O0.V2 ρ k ss vs b.2 h.2⟩
end
def Hp.get:Hp->Nat->Option HB
 | [],_=>none
 | (d,s)::H,t=>match Az d t with|true=>some s|false=>Hp.get H t
def Hp.get_mem:∀ (H:Hp) (t:Nat) (b:HB),Hp.get H t=some b->(t,b)∈H
 | [],_,_,h=>by simp [Hp.get] at h
 | (d,s)::H,t,b,h=>by
  simp only [Hp.get] at h
  cases c:Az d t with
  | true=>rw [c] at h;have:=Ao c;subst this;cases h;simp
  | false=>rw [c] at h;exact Ak _<|Hp.get_mem H t b h
def uy {α s:Type} (f:α->Option s):∀ (l:List α),(l.filterMap f).Nodup->∀ p q b,p∈l->q∈l->f p=some b->f q=some b->p=q
 | [],_,_,_,_,h,_,_,_=>by simp at h
 | x::l,c,p,q,b,u,v,d,j=>by
  have z:(l.filterMap f).Nodup:=by
   rw [Br] at c;split at c
   ·exact c
   ·exact (List.nodup_cons.1 c).2
  rcases List.mem_cons.1 u with rfl|m<;>rcases List.mem_cons.1 v with rfl|r
  ·rfl
  ·exfalso;rw [Br,d] at c;exact (List.nodup_cons.1 c).1<|List.mem_filterMap.2 ⟨q,r,j⟩
  ·exfalso;rw [Br,j] at c;exact (List.nodup_cons.1 c).1<|List.mem_filterMap.2 ⟨p,m,d⟩
  ·exact uy f l z p q b m r d j
def jd {α h:Type} (f:α->Option h) (H:List α) (hH:(H.filterMap f).Nodup):∀ (l:List α),l.Nodup->(∀ p∈l,p∈H)->(l.filterMap f).Nodup
 | [],_,_=>by simp
 | x::l,j,c=>by
  obtain⟨m,r⟩:=List.nodup_cons.1 j
  have ih:=jd f H hH l r λp s=>c p<|Ak _ s
  rw [Br]
  split
  ·exact ih
  ·rename_i b u
   refine List.nodup_cons.2 ⟨λv=>?_,ih⟩
   obtain⟨q,d,z⟩:=List.mem_filterMap.1 v
   exact m<|uy f H hH x q b (c x<|Ac ..) (c q<|Ak _ d) u z▸d
def bA (ρ:Nat->Nat) (L:Sl):Sl->Prop
 | []=>True
 | (t,s)::r=>Sl.get L t=s.V2 ρ/\bA ρ L r
def N4 (ρ:Nat->Nat) (H:Hp):Hp->Prop
 | []=>True
 | (i,b)::r=>Hp.get H (ρ i)=some (b.V2 ρ)/\N4 ρ H r
def Sl.low (k:Nat):Sl->Bool
 | []=>true
 | (_,s)::r=>s.low k&&Sl.low k r
def Hp.low (k:Nat):Hp->Bool
 | []=>true
 | (i,b)::r=>Av i k&&(b.low k&&Hp.low k r)
def Z6 (i:Nat):List Nat->Bool
 | []=>true
 | j::r=>!(Az i j)&&Z6 i r
def a8:List Nat->Bool
 | []=>true
 | i::r=>Z6 i r&&a8 r
def iq (i:Nat):∀ l,Z6 i l=true->i ∉ l
 | [],_=>by simp
 | j::r,h=>by
  simp only [Z6,Ae,Bool.not_eq_true'] at h
  have b:=By h.1
  simp [b,iq i r h.2]
def ed:∀ l,a8 l=true->l.Nodup
 | [],_=>by simp
 | i::r,h=>by
  simp only [a8,Ae] at h
  exact List.nodup_cons.2 ⟨iq i r h.1,ed r h.2⟩
def bA.slot {X e w} {a:Act} {ρ:Nat->Nat} {L:Sl} {k:Nat} (c:∀ t,Rel X e w (L.get t) (a.tmps.getD t undef)):∀ (L':Sl),bA ρ L L'->Sl.low k L'=true->∀ t,Rel X (e.V2 ρ k) w (L'.get t) (a.tmps.getD t undef)
 | [],_,_,_=>trivial
 | (d,s)::r,⟨f,h⟩,b,t=>by
  simp only [Sl.low,Ae] at b
  rw [Sl.C1]
  split
  ·rename_i j
   subst j
   exact Rel.V2 ρ k _ _ b.1 (f▸c d)
  ·exact bA.slot c r h b.2 t
def N4.mem {ρ:Nat->Nat} {H:Hp}:∀ (H':Hp),N4 ρ H H'->∀ p∈H',(ρ p.1,p.2.V2 ρ)∈H
 | [],_,_,h=>by simp at h
 | (i,b)::r,⟨d,f⟩,p,c=>by
  rcases List.mem_cons.1 c with rfl|c
  ·exact Hp.get_mem _ _ _ d
  ·exact N4.mem r f p c
def Hp.I7 {k:Nat}:∀ (H:Hp),Hp.low k H=true->∀ p∈H,p.1<k/\p.2.low k=true
 | [],_,_,h=>by simp at h
 | (i,b)::r,h,p,c=>by
  simp only [Hp.low,Ae,Nat.blt_eq] at h
  rcases List.mem_cons.1 c with rfl|c
  ·exact⟨h.1,h.2.1⟩
  ·exact Hp.I7 r h.2.2 p c
def Fc (e:Env) (ρ:Nat->Nat) (k:Nat) (p:Nat×HB):HB.owned (e.V2 ρ k) p=HB.owned e (ρ p.1,p.2.V2 ρ):=by obtain⟨i,b⟩:=p;cases b<;>rfl
def Cv (e:Env) (ρ:Nat->Nat) (k:Nat) (H:Hp):ah (e.V2 ρ k) H=ah e (H.map λp=>(ρ p.1,p.2.V2 ρ)):=by unfold ah;rw [List.filterMap_map];congr 1;funext p;exact Fc e ρ k p
def nu (ρ:Nat->Nat):Nat->Bool
 | 0=>true
 | j+1=>Az (ρ j) j&&nu ρ j
def be {ρ:Nat->Nat}:∀ (J:Nat),nu ρ J=true->∀ j,j<J->ρ j=j
 | 0,_,_,h=>by omega
 | J+1,h,j,c=>by
  simp only [nu,Ae] at h;rcases Nat.lt_or_ge j J with b|b
  ·exact be J h.2 j b
  ·have:j=J:=by omega
   subst this;exact Ao h.1
def Heap.V2 {Γ:Ctx} {k:Nat->Prop} {H:Hp} {e:Env} {w:World} (h:Heap Γ k H e w) (ρ:Nat->Nat) (k':Nat) (H':Hp) (hH:N4 ρ H H') (hb:Hp.low k' H'=true)
  (E:a8 (H'.map λp=>ρ p.1)=true) (F:a8 (H'.map (·.1))=true) (m:Cj Γ.J k'=true) (G:nu ρ Γ.J=true) :
  Heap Γ k' H' (e.V2 ρ k') w/\∀ b,Γ.X (e.V2 ρ k') H' b->Γ.X e H b:=by
 have q:=N4.mem H' hH;have C:∀ b,b∈ah (e.V2 ρ k') H'->b∈ah e H:=by
  intro b hb;obtain⟨p,c,I⟩:=List.mem_filterMap.1 hb;exact List.mem_filterMap.2 ⟨_,q p c,by rw [<- Fc e ρ k'];exact I⟩
 have r:∀ b,Γ.X (e.V2 ρ k') H' b->Γ.X e H b:=λb M=>M.imp id<|C b
 refine⟨⟨λ_=>Iff.rfl,λp c=>⟨(Hp.I7 H' hb p c).1,?_⟩,ed _ F,?_,λb N=>h.M3 b (C b N),h.os,h.tape,h.output,h.drawn,h.size,h.block,h.T1,h.S4,λj d=>As d (Ab m),λj d=>(congrArg e.an<|be _ G j d).trans<|h.anchor j d⟩,r⟩
 ·have s:=(h.heap _<|q p c).2;have O:=(Hp.I7 H' hb p c).2;obtain⟨i,b⟩:=p;cases b with
  | M1 ty P =>
   obtain⟨l,u,z,A⟩:=s;exact⟨l,u,O0.N1 (Af _) (λ_ _ _=>rfl) (λb _ B=>r b B) _ _ (O0.V2 ρ k' P l O z),A⟩
  | row ty es xs =>
   obtain⟨l,u,z,A,R⟩:=s;refine⟨l,u,z,A,λi T j m=>?_⟩
   obtain⟨v,U,V⟩:=R i T j m;exact⟨v,U,Q0.N1 (Af _) (λ_ _ _=>rfl) (λb _ B=>r b B) V⟩
  | map kd a1=>exact s
 ·rw [Cv];refine jd _ H h.nodup _ ?_ ?_
  ·have W:=ed _ E;refine List.Pairwise.of_map (f:=λp:Nat×HB=>p.1) (S:=(·≠·)) (λa b Y Z=>Y<|by rw [Z]) ?_;simpa [List.map_map,List.Nodup,Function.comp_def] using W
  ·intro p c;obtain⟨a0,hq,rfl⟩:=List.mem_map.1 c;exact q a0 hq
def bk {Γ:Ctx} {k:Nat} {L:Sl} {H:Hp} (ρ:Nat->Nat) {k':Nat} {L':Sl} {H':Hp} (c:bA ρ L L') (hH:N4 ρ H H') (hb:Sl.low k' L'=true) (d:Hp.low k' H'=true)
  (f:a8 (H'.map λp=>ρ p.1)=true) (h:a8 (H'.map (·.1))=true) (j:Cj Γ.J k'=true) (l:nu ρ Γ.J=true):X7 Γ k L H k' L' H':=by
 intro e a w m;obtain⟨q,r⟩:=m.toHeap.V2 ρ k' H' hH d f h j l;refine⟨e.V2 ρ k',⟨q,m.defers,m.len,λt=>?_⟩⟩
 exact Rel.N1 (Af _) (λ_ _ _=>rfl) (λb _ s=>r b s) _ _<|bA.slot m.slot L' c hb t
def er {Γ:Ctx} {k:Nat} {L:Sl} {H:Hp} (ρ:Nat->Nat) {k':Nat} {L':Sl} {H':Hp} (b:bA ρ L L':=by (repeat' (first | exact trivial | refine ⟨rfl, ?_⟩))) (hH:N4 ρ H H':=by (repeat' (first | exact trivial | refine ⟨rfl, ?_⟩))) (hb:Sl.low k' L'=true:=by exact rfl) (c:Hp.low k' H'=true:=by exact rfl) (d:a8 (H'.map λp=>ρ p.1)=true:=by exact rfl) (f:a8 (H'.map (·.1))=true:=by exact rfl) (h:Nat.ble Γ.J k'=true:=by exact rfl) (j:nu ρ Γ.J=true:=by exact rfl):X7 Γ k L H k' L' H':=bk ρ b hH hb c d f h j
end
section
open Go Go.RowKit
variable [Y0]
def QC (s u:ByteArray):(s.toList==u.toList)=decide (s=u):=by rw [ByteArray.toList_eq,ByteArray.toList_eq,Bool.eq_iff_iff];simp only [beq_iff_eq,decide_eq_true_eq];exact⟨λh=>by cases s;cases u;congr 1;exact Array.toList_inj.1 h,λh=>by rw [h]⟩
def Ctx.sh (Γ:Ctx) (t:TypeId):Sh:=(ai Γ.τ t).sh
def Ctx.cells (Γ:Ctx) (t:TypeId):Nat:=(ai Γ.τ t).cells
def Ctx.ti {Γ:Ctx} {t:TypeId} (h:Γ.sh t≠.other):KQ Γ.P t=some (ai Γ.τ t):=jF Γ.τok t h
def jf {P:Program} {t:TypeId} {i:TI} (h:KQ P t=some i):∃ u b z,P.underlying t=some u/\P.info? t=some b/\b.zero=some z/\i.sh=o7 P u/\b.size=i.cells/\b.bytes=i.bytes/\z.cells.toList=i.zero/\i.eqs=SD P t:=by
 unfold KQ at h;split at h
 ·rename_i u b c d;split at h
  ·rename_i z f;cases h;exact⟨u,b,z,c,d,f,rfl,rfl,rfl,rfl,rfl⟩
  ·cases h
 ·cases h
def Ctx.str {Γ:Ctx} {t:TypeId} (h:Γ.sh t=.str):Γ.P.underlying t=some .string:=by
 obtain⟨u,d,z,b,_,_,c,_⟩:=jf (Γ.ti<|by rw [h];intro h;cases h);rw [b];have:o7 Γ.P u=.str:=c▸h
 cases u<;>simp [o7] at this ⊢
def Ctx.slice {Γ:Ctx} {t e:TypeId} (h:Γ.sh t=.slice e):Γ.P.underlying t=some (.slice e):=by
 obtain⟨u,d,z,b,_,_,c,_⟩:=jf (Γ.ti<|by rw [h];intro h;cases h);rw [b];have:o7 Γ.P u=.slice e:=c▸h
 cases u<;>simp [o7] at this ⊢
 exact this
def Ctx.info {Γ:Ctx} {t:TypeId} (h:Γ.sh t≠.other):∃ b z,Γ.P.info? t=some b/\b.zero=some z/\b.size=Γ.cells t/\b.bytes=(ai Γ.τ t).bytes/\z.cells.toList=(ai Γ.τ t).zero:=by obtain⟨u,b,z,m,c,d,p,f,j,l,_⟩:=jf<|Γ.ti h;exact⟨b,z,c,d,f,j,l⟩
def Ctx.struct {Γ:Ctx} {t:TypeId} {l} (h:Γ.sh t=.struct l):∃ b,Γ.P.underlying t=some (.struct b)/\l=b.toList.map λf=>(f.offset,f.type,((Γ.P.info? f.type).map (·.size)).getD 0):=by
 obtain⟨u,j,z,c,_,_,d,_⟩:=jf (Γ.ti<|by rw [h];intro h;cases h);have:o7 Γ.P u=.struct l:=d▸h
 cases u<;>simp [o7] at this
 rename_i b;exact⟨b,c,this.symm⟩
def Sh.known:Sh->Bool|.other=>false|_=>true
def Sh.Y1 {s:Sh} (h:s.known=true):s≠.other:=by intro e;subst e;cases h
def Sh.isAgg:Sh->Bool|.struct _=>true|_=>false
def Ctx.agg {Γ:Ctx} {t:TypeId} (h:Γ.sh t≠.other):∀ w,(Go.isAgg t).run Γ.P w=.ok (Γ.sh t).isAgg w:=by intro w;obtain⟨u,f,z,b,_,_,c,_⟩:=jf<|Γ.ti h;have d:o7 Γ.P u=Γ.sh t:=c.symm;rw [<- d] at h ⊢;cases u<;>simp [Go.isAgg,run_underlying b,o7,Sh.isAgg] at h ⊢
def GZ:Value->Bool
 | .int k n=>(Lit.int k n).wf
 | .string s=>Cj s.size maxLen
 | _=>true
def de:Operand->Bool
 | .const v=>GZ v
 | _=>true
def cd {x:Operand} (h:de x=true):Nq x:=by
 cases x with
 | const v =>
  cases v with
  | int k n=>exact h
  | string s=>exact Ab h
  | _=>trivial
 | _=>trivial
section
variable {Γ : Ctx} {k : Nat -> Prop} {L : Sl} {H : Hp} {K : cn} {ops : List Oper} {rest : List Oper} {a : Act} {w : World} {e : Env}
def R8 (m:J0 Γ k L H e a w) {x:Operand} {i:IntKind} {n:Int} (h:aj L x=.d (.int i n)):a.eval x=.int i n:=by
 cases x with
 | tmp t =>
  have b:=m.slot t;simp only [aj] at h;rw [h] at b;show a.tmps.getD t undef=_;generalize a.tmps.getD t undef=v at b;cases b;rfl
 | const v =>
  simp only [aj] at h;unfold S6 at h;split at h<;>cases h
  rfl
 | global g=>cases h
 | func f=>cases h
def qP (m:J0 Γ k L H e a w) {x:Operand} {i:IntKind} {n:Int} (c:de x=true) (h:aj L x=.d (.int i n)):(Lit.int i n).wf=true:=by have b:=m.op x<|cd c;rw [h] at b;generalize a.eval x=v at b;cases b;assumption
def yY (m:J0 Γ k L H e a w) {x:Operand} {b:Bool} (h:aj L x=.d (.bool b)):a.eval x=.bool b:=by
 cases x with
 | tmp t =>
  have c:=m.slot t;simp only [aj] at h;rw [h] at c;show a.tmps.getD t undef=_;generalize a.tmps.getD t undef=v at c;cases c;rfl
 | const v =>
  simp only [aj] at h;unfold S6 at h;split at h<;>cases h
  rfl
 | global g=>cases h
 | func f=>cases h
def pP (m:J0 Γ k L H e a w) {x:Operand} {s:ByteArray} (h:aj L x=.d (.str s)):a.eval x=.string s:=by
 cases x with
 | tmp t =>
  have b:=m.slot t;simp only [aj] at h;rw [h] at b;show a.tmps.getD t undef=_;generalize a.tmps.getD t undef=v at b;cases b;rfl
 | const v =>
  simp only [aj] at h;unfold S6 at h;split at h<;>cases h
  rfl
 | global g=>cases h
 | func f=>cases h
def Ev (Γ:Ctx) (k:Nat->Prop) (L:Sl) (H:Hp) (op:Op) (ty:TypeId) (s:SV):Prop:=
 ∀ e a w,J0 Γ k L H e a w->∃ v,(∀ (c:Option Tmp) pos d guard b,Below w.heap.size w b->(execOp a.eval ⟨c,op,ty,pos,d,guard⟩).run Γ.P b=.ok (.value v) b)/\Rel (Γ.X e H) e w s v
def P6 (Γ:Ctx) (o:Oper) (k:Nat->Prop) (L:Sl) (H:Hp) (k':Nat->Prop) (L':Sl) (H':Hp):Prop:=
 ∀ e a w Q,J0 Γ k L H e a w->o.wp Γ.P a w (λb c=>∃ d,J0 Γ k' L' H' d b c) Q
def sZ {d:Nat} {op:Op} {ty:TypeId} {s:SV} (h:Ev Γ k L H op ty s) (b:Av d Γ.n=true) :
  P6 Γ ⟨some d,op,ty,pos,af,g⟩ k L H k ((d,s)::L) H:=by
 intro e a w Q m;obtain⟨v,c,f⟩:=h e a w m;unfold Oper.wp;rw [c (some d) pos af g w<|Below.refl _ _];exact⟨e,m.put (Ab b) f⟩
def pz:List Oper->Nat->Option Oper
 | [],_=>none
 | o::_,0=>some o
 | _::l,n+1=>pz l n
def R9:∀ (l:List Oper) (n:Nat),pz l n=l[n]?
 | [],_=>by simp [pz]
 | o::_,0=>by simp [pz]
 | _::l,n+1=>by simp [pz,R9 l n]
def ap (ops:List Oper) (L:Sl):Option (Nat×Bool)->Option Bool
 | none=>some true
 | some (j,b)=>match pz ops j with
  | some o=>match o.dst with
   | some t=>match L.get t with
    | .d (.bool true)=>some b
    | .d (.bool false)=>some (!b)
    | .M2 []=>some false
    | _=>none
   | none=>none
  | none=>none
def kv {o:Oper} {b:Bool} (m:J0 Γ k L H e a w) (h:ap ops L o.guard=some b):Region.wanted o (yielded ops.toArray a.tmps)=b:=by
 unfold Region.wanted;cases B:o.guard with
 | none=>rw [B] at h;simpa [ap] using h
 | some q =>
  obtain⟨j,C⟩:=q;rw [B] at h;simp only [ap,R9] at h;cases r:ops[j]? with
  | none=>simp [r] at h
  | some E =>
   simp only [r] at h;cases s:E.dst with
   | none=>simp [s] at h
   | some t =>
    simp only [s] at h;have z:=m.slot t;have F:∀ f,L.get t=.d (.bool f)->yielded ops.toArray a.tmps j=some f:=by
     intro f G;rw [G] at z;generalize A:a.tmps.getD t undef=v at z;cases z;have c:a.tmps[t]?.getD undef=Value.bool f:=by rw [<- Da];exact A
     cases l:a.tmps[t]? with
     | none=>rw [l] at c;cases c
     | some u=>rw [l] at c;simp only [Cm] at c;subst c;simp [yielded,r,s,l]
    cases p:L.get t with
    | M2 I =>
     cases I with
     | cons _ _=>simp [p] at h
     | nil =>
      simp only [p,Option.some.injEq] at h;subst h;rw [p] at z;obtain⟨J,A,M⟩:=z;cases J with
      | cons _ _=>exact M.elim
      | nil =>
       have N:yielded ops.toArray a.tmps j=none:=by
        have c:a.tmps[t]?.getD undef=Value.tuple #[]:=by rw [<- Da];exact A
        cases l:a.tmps[t]? with
        | none=>simp [yielded,r,s,l]
        | some u=>rw [l] at c;simp only [Cm] at c;subst c;simp [yielded,r,s,l]
       show (yielded ops.toArray a.tmps j==some C)=false;rw [N];rfl
    | d x =>
     cases x with
     | bool f =>
      simp only [p] at h;simp only [F f p];cases f<;>cases C<;>simp_all
     | _=>simp [p] at h
    | _=>simp [p] at h
end
section
variable {Γ : Ctx} {k : Nat} {L : Sl} {H : Hp} {K : cn} {ops : List Oper} {rest : List Oper} {a : Act} {w : World} {e : Env}
def gj {op:Op} {ty:TypeId} {d:Option Nat} (c:ap ops L g=some true)
  (h:∀ e a w,J0 Γ k L H e a w->(Oper.mk d op ty pos af g).wp Γ.P a w (λb w'=>∃ (k':Nat) (L':Sl) (H':Hp) (e':Env),J0 Γ k' L' H' e' b w'/\DL Γ ops rest K k' L' H') (ze Γ (ep K))) :
  DL Γ ops (⟨d,op,ty,pos,af,g⟩::rest) K k L H:=by
 intro e a w m;refine wpList_step λj f=>?_
 rw [if_pos<|kv m c];refine Oper.wp_mono ?_<|h e a w m;rintro b w' ⟨k',L',H',e',m',hd⟩;exact f _ _<|hd e' b w' m'
def IW {op:Op} {ty:TypeId} {d:Nat} (b:ap ops L g=some false) (c:Av d Γ.n=true)
  (h:DL Γ ops rest K k ((d,.M2 [])::L) H):DL Γ ops (⟨some d,op,ty,pos,af,g⟩::rest) K k L H:=by
 intro e a w m;refine wpList_step λj f=>?_
 rw [if_neg<|by rw [kv m b];exact Bool.false_ne_true];exact f _ _ (h e _ w (m.put (s:=.M2 []) (Ab c) ⟨[],rfl,trivial⟩))
def Va {op:Op} {ty:TypeId} {d:Option Nat} {k':Nat} {L':Sl} {H':Hp} (b:ap ops L g=some true)
  (h:P6 Γ ⟨d,op,ty,pos,af,g⟩ k L H k' L' H') (c:DL Γ ops rest K k' L' H'):DL Γ ops (⟨d,op,ty,pos,af,g⟩::rest) K k L H:=by
 refine gj b λe a w m=>Oper.wp_mono ?_<|h e a w _ m
 rintro a' w' ⟨e',m'⟩;exact⟨k',L',H',e',m',c⟩
def DZ {d:Nat} {op:Op} {ty:TypeId} {s:SV} (b:ap ops L g=some true) (h:Ev Γ k L H op ty s) (c:Av d Γ.n=true)
  (f:DL Γ ops rest K k ((d,s)::L) H):DL Γ ops (⟨some d,op,ty,pos,af,g⟩::rest) K k L H:=by
 refine gj b λe a w m=>?_
 obtain⟨v,j,l⟩:=h e a w m;unfold Oper.wp;rw [j (some d) pos af g w<|Below.refl _ _];exact⟨k,_,H,e,m.put (Ab c) l,f⟩
def WT {t:Nat} {b:Bool} (hb:L.get t=.d (.bool b)) (f:b=true->DL Γ ops rest K k ((t,.d (.bool true))::L) H) (j:b=false->DL Γ ops rest K k ((t,.d (.bool false))::L) H) :
  DL Γ ops rest K k L H:=by
 intro e a w m;have key:∀ c,b=c->J0 Γ k ((t,.d<|.bool c)::L) H e a w:=λc l =>
  ⟨m.toHeap,m.defers,m.len,λt'=>by
    rw [Sl.C1];split
    ·rename_i h;subst h;rw [<- l,<- hb];exact m.slot t
    ·exact m.slot t'⟩
 cases b with
 | true=>exact f rfl e a w<|key true rfl
 | false=>exact j rfl e a w<|key false rfl
end
section
variable {Γ : Ctx} {k : Nat -> Prop} {L : Sl} {H : Hp} {K : cn} {ops : List Oper} {rest : List Oper} {a : Act} {w : World} {e : Env}
def wW {x:Operand} {ty:TypeId} (b:de x=true):Ev Γ k L H (.move x) ty (aj L x):=by intro e a w m;exact⟨a.eval x,λ_ _ _ _ c _=>by simp [execOp],m.op x<|cd b⟩
def oP {x:Operand} {ty:TypeId} (b:de x=true):Ev Γ k L H (.assign x) ty (aj L x):=by intro e a w m;exact⟨a.eval x,λ_ _ _ _ c _=>by simp [execOp],m.op x<|cd b⟩
def jo {op:BinOp} {t t' ty:TypeId} {x y:Operand} {i:IntKind} {n m':Int} {s:SV} {v:Value} (b:aj L x=.d (.int i n)) (c:aj L y=.d (.int i m'))
  (f:∀ P w,(binOp op t (.int i n) (.int i m')).run P w=.ok v w) (h:∀ X e w,Rel X e w s v):Ev Γ k L H (.binOp op t x y t') ty s:=by
 intro e a w m;refine⟨v,λ_ _ _ _ l _=>?_,h _ _ _⟩
 simp only [execOp,R8 m b,R8 m c];have j:eqGuard op t x y (Value.int i n) (Value.int i m')=pure ():=by unfold eqGuard;split<;>rfl
 simp [j,f]
section
variable {t t' ty : TypeId} {x y : Operand} {i : IntKind} {n m' : Int}
def rY (b:aj L x=.d (.int i n)) (c:aj L y=.d (.int i m')):Ev Γ k L H (.binOp .lss t x y t') ty (.d (.bool (decide (n<m')))):=
 jo b c (λP w=>by simp [binOp,Op.intCmp]) λ_ _ _=>.bool
def sY (b:aj L x=.d (.int i n)) (c:aj L y=.d (.int i m')):Ev Γ k L H (.binOp .leq t x y t') ty (.d (.bool (decide (n<=m')))):=
 jo b c (λP w=>by simp [binOp,Op.intCmp]) λ_ _ _=>.bool
def tY (b:aj L x=.d (.int i n)) (c:aj L y=.d (.int i m')):Ev Γ k L H (.binOp .gtr t x y t') ty (.d (.bool (decide (m'<n)))):=
 jo b c (λP w=>by simp [binOp,Op.intCmp]) λ_ _ _=>.bool
def uY (b:aj L x=.d (.int i n)) (c:aj L y=.d (.int i m')):Ev Γ k L H (.binOp .geq t x y t') ty (.d (.bool (decide (m'<=n)))):=
 jo b c (λP w=>by simp [binOp,Op.intCmp]) λ_ _ _=>.bool
def wY (b:aj L x=.d (.int i n)) (c:aj L y=.d (.int i m')):Ev Γ k L H (.binOp .eql t x y t') ty (.d (.bool (decide (n=m')))):=
 jo b c (λP w=>by simp [binOp,Op.intCmp];rfl) λ_ _ _=>.bool
def qY (b:aj L x=.d (.int i n)) (c:aj L y=.d (.int i m')):Ev Γ k L H (.binOp .neq t x y t') ty (.d (.bool (decide (n≠m')))):=
 jo b c (λP w=>by simp [binOp,Op.intCmp];rfl) λ_ _ _=>.bool
def xT (c:aj L x=.d (.int .i64 n)) (f:aj L y=.d (.int .i64 m')) (b:-9223372036854775808<=n+m'/\n+m'<=9223372036854775807):Ev Γ k L H (.binOp .add t x y t') ty (.d (.int .i64 (n+m'))):=
 jo c f (λP w=>by simp [binOp,Op.intArith];rfl) λ_ _ _=>by rw [IntWalk.i64_in _ b];exact .int<|WalkArith.wf_i64 b
end
section
variable {t t' ty : TypeId} {x y : Operand} {i : IntKind} {n m' : Int}
def oY {b:Bool} (c:aj L x=.d (.bool b)):Ev Γ k L H (.unOp .not t x) ty (.d (.bool (!b))):=by intro e a w m;exact⟨.bool (!b),λ_ _ _ _ f _=>by simp [execOp,yY m c,Op.unary],.bool⟩
def vM {c:Operand} {b:Bool} (hc:aj L c=.d (.bool b)) (f:b=true->de x=true) (h:b=false->de y=true) :
  Ev Γ k L H (.pick c x y) ty (match b with|true=>aj L x|false=>aj L y):=by
 intro e a w m;cases b with
 | true=>exact⟨a.eval x,λ_ _ _ _ j _=>by simp [execOp,yY m hc,asBool],m.op x<|cd<|f rfl⟩
 | false=>exact⟨a.eval y,λ_ _ _ _ j _=>by simp [execOp,yY m hc,asBool],m.op y<|cd<|h rfl⟩
def vY {s u:ByteArray} (b:aj L x=.d (.str s)) (c:aj L y=.d (.str u)):Ev Γ k L H (.binOp .eql t x y t') ty (.d (.bool (decide (s=u)))):=by
 intro e a w m;refine⟨_,λ_ _ _ _ f _=>?_,.bool⟩
 simp only [execOp,pP m b,pP m c];simp [eqGuard,binOp,Op.stringOp,QC]
def pY {s u:ByteArray} (b:aj L x=.d (.str s)) (c:aj L y=.d (.str u)):Ev Γ k L H (.binOp .neq t x y t') ty (.d (.bool (decide (s≠u)))):=by
 intro e a w m;refine⟨_,λ_ _ _ _ f _=>?_,.bool⟩
 simp only [execOp,pP m b,pP m c];simp [eqGuard,binOp,Op.stringOp,QC]
def pK {s:ByteArray} (f:Γ.sh t=.str) (c:aj L x=.d (.str s)) (h:de x=true):Ev Γ k L H (.call { callee:=.builtin .len,args:=#[x],argTypes:=#[t] }) ty (.d (.int .i64 s.size)):=by
 intro e a w m;have j:s.size<=maxLen:=by
  have b:=m.op x<|cd h;rw [c] at b;generalize a.eval x=v at b;cases b;assumption
 refine⟨.int .i64 s.size,λ_ _ _ _ l _=>?_,.int<|WalkArith.wf_i64<|by unfold maxLen at j;omega⟩
 simp [execOp,resolve,invoke,builtin,pP m c,Builtin.len_,goInt,run_underlying<|Ctx.str f]
def bE {s:ByteArray} {n:Int} (b:Γ.sh t=.str) (c:aj L x=.d (.str s)) (f:aj L y=.d (.int .i64 n)) (h:0<=n) (h1:n.toNat<s.size) :
  Ev Γ k L H (.index t x y) ty (.d (.int .u8 (s[n.toNat]'h1).toNat)):=by
 intro e a w m;refine⟨.int .u8 (s[n.toNat]'h1).toNat,λ_ _ _ _ j _=>?_,.int<|WalkArith.wf_u8<|by have:=(s[n.toNat]'h1).toNat_lt;omega⟩
 simp [execOp,Instr.index,pP m c,R8 m f,asIntOf,run_underlying (Ctx.str b),h,h1]
end
end
end
section
open Go Go.RowKit
variable [Y0]
section
variable {Γ : Ctx} {k : Nat -> Prop} {L : Sl} {H : Hp} {K : cn} {ops : List Oper} {rest : List Oper} {a : Act} {w : World} {e : Env} {t t' ty : TypeId} {x y : Operand}
def Addr.Y3 (b off j:Nat):(⟨b,off,none⟩:Addr).add j=⟨b,off+j,none⟩:=by
 unfold Go.Addr.add;split
 ·rename_i h;subst h;rfl
 ·rfl
def Q5 (m:J0 Γ k L H e a w) {x:Operand} {s:SV} (h:aj L x=s) (b:∀ v,S6 v≠s):Rel (Γ.X e H) e w s (a.eval x):=by
 cases x with
 | tmp t=>rw [<- h];exact m.slot t
 | const v=>exact absurd h<|b v
 | global g=>rw [<- h];trivial
 | func f=>rw [<- h];exact⟨[],rfl,trivial⟩
def ow (v:Value) (es:Nat) (xs:List (List D)):S6 v≠.d (.slice es xs):=by unfold S6;split<;>simp
def Jz (v:Value) (ds:List D):S6 v≠.pd ds:=by unfold S6;split<;>simp
def Nj (v:Value) (i o:Nat):S6 v≠.loc i o:=by unfold S6;split<;>simp
def nz (v:Value) (i:Nat):S6 v≠.row i:=by unfold S6;split<;>simp
def Gb (v:Value) (i j s o:Nat):S6 v≠.P3 i j s o:=by unfold S6;split<;>simp
def NM (v:Value) (ss:List SV):S6 v≠.agg ss:=by unfold S6;split<;>simp
def LW (v:Value) (ss:List SV):S6 v≠.M2 ss:=by unfold S6;split<;>simp
def Q0.R4 {X w v es xs} (h:Q0 X w v (.slice es xs)):∃ b cap,v=.slice b xs.length cap/\xs.length<=cap/\cap<=maxLen/\(b=none->xs=[]):=by
 cases h with
 | nil=>exact⟨none,0,rfl,by simp,Ai _,λ_=>rfl⟩
 | zero=>exact⟨_,0,rfl,by simp,Ai _,λ_=>rfl⟩
 | slice c d f j=>subst d;exact⟨_,_,rfl,f,j,λh=>by cases h⟩
def uT {es:Nat} {xs:List (List D)} (b:Γ.sh t=.slice t') (c:aj L x=.d (.slice es xs)):Ev Γ k L H (.call { callee:=.builtin .len,args:=#[x],argTypes:=#[t] }) ty (.d (.int .i64 xs.length)):=by
 intro e a w m;obtain⟨j,l,f,p,h,_⟩:=(Q5 m c (ow · _ _)).R4;refine⟨.int .i64 xs.length,λ_ _ _ _ q _=>?_,.int<|WalkArith.wf_i64<|by unfold maxLen at h;omega⟩
 simp [execOp,resolve,invoke,builtin,f,Builtin.len_,goInt,run_underlying<|Ctx.slice b]
def uH (c:Γ.sh t=.slice t') (b:aj L x=.Q1):Ev Γ k L H (.call { callee:=.builtin .len,args:=#[x],argTypes:=#[t] }) ty (.d (.int .i64 0)):=by
 intro e a w m;have f:a.eval x=.slice none 0 0:=by
  have h:Nq x:=by
   cases x with
   | const v=>simp only [aj] at b;unfold S6 at b;split at b<;>simp_all [Nq,NY]
   | _=>trivial
  have:=m.op x h
  rw [b] at this;exact this
 refine⟨.int .i64 0,λ_ _ _ _ j _=>?_,.int<|by decide⟩
 simp [execOp,resolve,invoke,builtin,f,Builtin.len_,goInt,run_underlying<|Ctx.slice c]
def Hp.mem_of {id:Nat} {b:HB} (h:Hp.get H id=some b):(id,b)∈H:=Hp.get_mem H id b h
def rK {id es:Nat} {xs:List (List D)} {te:TypeId} (p:Γ.sh t=.slice t') (q:aj L x=.row id) (hH:Hp.get H id=some (.row te es xs)) :
  Ev Γ k L H (.call { callee:=.builtin .len,args:=#[x],argTypes:=#[t] }) ty (.d (.int .i64 xs.length)):=by
 intro e a w m;have h:=(Q5 m q (nz · _)).2.1;obtain⟨z,r,_⟩:=(m.heap _<|Hp.mem_of hH).2;have b:∃ j c,e.η id=.slice j xs.length c/\xs.length<=maxLen:=by
  rcases r.2 with ⟨f,l⟩|⟨g,c,A,f,_,_,s,u,_⟩
  ·exact⟨none,0,by rw [f,l],by rw [l];exact Ai _⟩
  ·exact⟨_,_,f,Aw s u⟩
 obtain⟨j,c,b,v⟩:=b;rw [b] at h;refine⟨.int .i64 xs.length,λ_ _ _ _ B _=>?_,.int<|WalkArith.wf_i64<|by unfold maxLen at v;omega⟩
 simp [execOp,resolve,invoke,builtin,h,Builtin.len_,goInt,run_underlying<|Ctx.slice p]
def Q0.at {X w v es} {xs:List (List D)} (h:Q0 X w v (.slice es xs)) (i:Nat) (hi:i<xs.length):∃ b off n cap,v=.slice (some ⟨b,off,none⟩) n cap/\n=xs.length/\¬ X b/\b<w.heap.size /\
  ∀ j (d:j<xs[i].length),∃ u,w.cell? ⟨b,off+i*es+j,none⟩=some u/\Q0 X w u xs[i][j]:=by
 cases h with
 | nil=>simp at hi
 | zero=>simp at hi
 | slice c f r s l m z p q=>exact⟨_,_,_,_,rfl,f,l,m,λj d=>⟨_,p i hi j d,q i hi j d⟩⟩
def c9 {b:TypeInfo} (h:Γ.P.info? t=some b) (w:World):(sizeOf t).run Γ.P w=.ok b.size w:=by simp [sizeOf,typeInfo,h]
def yl {es:Nat} {xs:List (List D)} {n:Int} (c:Γ.sh t=.slice t') (hc:Γ.cells t'=es) (f:(Γ.sh t').known=true) (h:∀ e a w,J0 Γ k L H e a w->Q0 (Γ.X e H) w (a.eval x) (.slice es xs)) (j:aj L y=.d (.int .i64 n))
  (l:0<=n) (h1:n.toNat<xs.length):Ev Γ k L H (.indexAddr t x y) ty (.pd (xs[n.toNat]'h1)):=by
 intro e a w m;have p:=Sh.Y1 f;obtain⟨b,off,q,E,r,F,s,u,v⟩:=(h e a w m).at _ h1;obtain⟨G,z,A,_,B,_⟩:=Ctx.info p;refine⟨.pointer (some ⟨b,off+n.toNat*es,none⟩),λ_ _ _ _ I _=>?_,⟨b,_,rfl,u,s,v⟩⟩
 have C:n<(q:Int):=by omega
 simp [execOp,Instr.indexAt,r,R8 m j,asIntOf,run_underlying (Ctx.slice c),l,C,c9 A,B,hc,Addr.Y3]
def Wx {es:Nat} {xs:List (List D)} {n:Int} (b:Γ.sh t=.slice t') (hc:Γ.cells t'=es) (c:(Γ.sh t').known=true) (f:aj L x=.d (.slice es xs)) (h:aj L y=.d (.int .i64 n))
  (j:0<=n) (h1:n.toNat<xs.length):Ev Γ k L H (.indexAddr t x y) ty (.pd (xs[n.toNat]'h1)):=yl b hc c (λ_ _ _ m=>Q5 m f (ow · _ _)) h j h1
def gE {α:Type} {es:Nat} {l:List α} {f:α->List D} {n:Int} {j:Nat} (b:Γ.sh t=.slice t') (hc:Γ.cells t'=es) (c:(Γ.sh t').known=true) (h:aj L x=.d (.slice es (l.map f))) (m:aj L y=.d (.int .i64 n))
  (p:n=j) (h1:j<l.length):Ev Γ k L H (.indexAddr t x y) ty (.pd (f (l[j]'h1))):=by
 subst p;have:=Wx (Γ:=Γ) (k:=k) (L:=L) (H:=H) (ty:=ty) (t:=t) (x:=x) (y:=y) b hc c h m (by omega)<|by simpa using h1
 simpa using this
def ym {s:TypeId} {f off R M:Nat} {l} {v z:SV} (S:Γ.sh s=.struct l) (q:l[f]?=some (off,R,M)) (N:Az M 0=false)
  (E:aj L x=v) (T:(∃ ds,v=.pd ds/\z=.pd (ds.drop off))∨(∃ i o,v=.loc i o/\z=.loc i (o+off))∨(∃ i j es o,v=.P3 i j es o/\z=.P3 i j es (o+off))) :
  Ev Γ k L H (.fieldAddr s x f) ty z:=by
 obtain⟨O,U,V⟩:=Ctx.struct S;subst V;rw [List.getElem?_map] at q;cases F:O.toList[f]? with
 | none=>rw [F] at q;cases q
 | some G =>
  rw [F] at q;simp only [Option.map_some,Option.some.injEq,Prod.mk.injEq] at q;obtain⟨W,h2,B⟩:=q;have X:O[f]?=some G:=by rw [<- Array.getElem?_toList];exact F
  have Y:∃ r,Γ.P.info? G.type=some r/\r.size≠0:=by
   cases C:Γ.P.info? G.type with
   | none=>rw [C] at B;exact absurd B.symm<|By N
   | some r=>rw [C] at B;exact⟨r,rfl,λh=>By N<|by rw [<- B,<- h];rfl⟩
  obtain⟨r,C,Z⟩:=Y;have I:∀ (b o:Nat) (A:Act) (d:Option Tmp) pos p guard c,A.eval x=.pointer (some ⟨b,o,none⟩) ->
    (execOp A.eval ⟨d,.fieldAddr s x f,ty,pos,p,guard⟩).run Γ.P c=.ok (.value<|.pointer<|some ⟨b,o+off,none⟩) c:=by
   intro b o A d pos p guard c hA;simp [execOp,Instr.fieldAt,hA,run_underlying U,X,Instr.sureAddr,fieldPlace,c9 C,Z,W,Addr.Y3]
  intro e A w m;rcases T with ⟨ds,rfl,rfl⟩|⟨i,o,rfl,rfl⟩|⟨i,j,es,o,rfl,rfl⟩
  ·obtain⟨b,o,u,hb,hX,a2⟩:=Q5 m E (Jz · _);refine⟨_,λd pos p guard c _=>I b o A d pos p guard c u,⟨b,_,rfl,hb,hX,λj hj=>?_⟩⟩
   have a3:off+j<ds.length:=by simp at hj;omega
   obtain⟨a4,g1,g2⟩:=a2 (off+j) a3;exact⟨a4,by rw [Ew];exact g1,by simpa using g2⟩
  ·obtain⟨J,u⟩:=Q5 m E (Nj · _ _);exact⟨_,λd pos p guard c _=>I _ o A d pos p guard c u,⟨J,rfl⟩⟩
  ·obtain⟨J,g,n,a5,h5,u⟩:=Q5 m E (Gb · _ _ _ _);exact⟨_,λd pos p guard c _=>I _ _ A d pos p guard c u,⟨J,g,n,a5,h5,by rw [Ew]⟩⟩
def Rp {s:TypeId} {f off c b:Nat} {l} {ds:List D} (d:Γ.sh s=.struct l) (h:l[f]?=some (off,c,b)) (j:Az b 0=false) (m:aj L x=.pd ds):Ev Γ k L H (.fieldAddr s x f) ty (.pd (ds.drop off)):=
 ym d h j m (.inl ⟨ds,rfl,rfl⟩)
def jE {s:TypeId} {f off c b i o:Nat} {l} (d:Γ.sh s=.struct l) (h:l[f]?=some (off,c,b)) (j:Az b 0=false) (m:aj L x=.loc i o):Ev Γ k L H (.fieldAddr s x f) ty (.loc i (o+off)):=
 ym d h j m (.inr<|.inl ⟨i,o,rfl,rfl⟩)
def zA {s:TypeId} {f off c b i j es o:Nat} {l} (d:Γ.sh s=.struct l) (h:l[f]?=some (off,c,b)) (m:Az b 0=false) (p:aj L x=.P3 i j es o):Ev Γ k L H (.fieldAddr s x f) ty (.P3 i j es (o+off)):=
 ym d h m p (.inr<|.inr ⟨i,j,es,o,rfl,rfl⟩)
def vc (b:Γ.sh t≠.other) (c:(Γ.sh t).isAgg=false) {A:Act} {p:Addr} {v:Value} {w':World} (d:A.eval x=.pointer (some p)) (hc:w'.cell? p=some v) (dst:Option Tmp) (pos) (after) (guard) :
  (execOp A.eval ⟨dst,.load t x,ty,pos,after,guard⟩).run Γ.P w'=.ok (.value v) w':=by
 simp [execOp,Instr.loadAt,d,Instr.sureAddr,loadVar,Ctx.agg b,c,hc]
def jp {w w':World} (hb:Below w.heap.size w w') {p:Addr} {v:Value} (h:w.cell? p=some v):w'.cell? p=some v:=by rw [hb.cell<|World.block_lt_of_cell? w p h];exact h
def nK {d0:D} {ds:List D} (c:(Γ.sh t).known=true) (f:(Γ.sh t).isAgg=false) (h:aj L x=.pd (d0::ds)):Ev Γ k L H (.load t x) ty (.d d0):=by intro e a w m;have j:=Sh.Y1 c;obtain⟨b,off,l,v,z,p⟩:=Q5 m h (Jz · _);obtain⟨u,q,r⟩:=p 0 (by simp);exact⟨u,λ_ _ _ _ A s=>vc j f l (jp s q) _ _ _ _,r⟩
def I4.Lz {X e w} {id:Nat} {te:TypeId} {cs:List SV} (h:I4 X e w (id,.M1 te cs)) {o:Nat} {s:SV} (hc:cs[o]?=some s):∃ v,w.cell? ⟨e.β id,o,none⟩=some v/\Rel X e w s v:=by obtain⟨b,c,d,_⟩:=h;obtain⟨v,f,j⟩:=O0.get cs b d o s hc;exact⟨v,by rw [cell_of_row w _ o _ te (0,0) c];simpa using f,j⟩
def tH {i o:Nat} {te:TypeId} {cs:List SV} {s:SV} (b:(Γ.sh t).known=true) (c:(Γ.sh t).isAgg=false) (d:aj L x=.loc i o) (hH:Hp.get H i=some (.M1 te cs)) (hc:cs[o]?=some s) :
  Ev Γ k L H (.load t x) ty s:=by
 intro e a w m;have f:=Sh.Y1 b;obtain⟨_,h⟩:=Q5 m d (Nj · _ _);obtain⟨v,j,l⟩:=I4.Lz (m.heap _<|Hp.mem_of hH).2 hc;exact⟨v,λ_ _ _ _ q p=>vc f c h (jp p j) _ _ _ _,l⟩
def Ma {s:SV} (f:aj L x=s) (h:(∃ ds,s=.pd ds)∨(∃ i o,s=.loc i o)∨(∃ i j es o,s=.P3 i j es o)):Ev Γ k L H (.nilCheck x) ty s:=by
 intro e a w m;have d:∃ p,a.eval x=.pointer (some p)/\Rel (Γ.X e H) e w s (a.eval x):=by
  rcases h with ⟨ds,rfl⟩|⟨i,o,rfl⟩|⟨i,j,es,o,rfl⟩
  ·have c:=Q5 m f (Jz · _);obtain⟨b,off,d,_⟩:=c;exact⟨_,d,Q5 m f (Jz · _)⟩
  ·have c:=Q5 m f (Nj · _ _);exact⟨_,c.2,c⟩
  ·have c:=Q5 m f (Gb · _ _ _ _);obtain⟨_,g,n,l,_,d⟩:=c;exact⟨_,d,Q5 m f (Gb · _ _ _ _)⟩
 obtain⟨p,d,c⟩:=d;exact⟨a.eval x,λ_ _ _ _ q _=>by simp [execOp,d],c⟩
def MW (v:Value) (ds:List D):S6 v≠.d (.ptr ds):=by unfold S6;split<;>simp
def jP {ds:List D} (p:aj L x=.d (.ptr ds)):Ev Γ k L H (.nilCheck x) ty (.pd ds):=by
 intro e a w m;have h:Q0 (Γ.X e H) w (a.eval x) (.ptr ds):=Q5 m p (MW · _);obtain⟨v,f⟩:∃ v,v=a.eval x:=⟨_,rfl⟩;rw [<- f] at h;cases h with
 | @ptr _ _ b off ds c q r s u =>
  exact⟨a.eval x,λ_ _ _ _ z _=>by simp [execOp,<- f],b,off,f.symm,r,q,λj l=>⟨c j,s j l,u j l⟩⟩
def tK {i:Nat} {ss:List SV} {s:SV} (b:aj L x=.M2 ss) (hi:ss[i]?=some s):Ev Γ k L H (.extract x i) ty s:=by intro e a w m;obtain⟨c,d,f⟩:=Q5 m b (LW · _);obtain⟨v,h,j⟩:=O0.get ss c f i s hi;exact⟨v,λ_ _ _ _ l _=>by simp [execOp,Instr.extract,d,h],j⟩
def O0.drop {X e w}:∀ (ss:List SV) (vs:List Value),O0 X e w ss vs->∀ n,O0 X e w (ss.drop n) (vs.drop n)
 | _,_,h,0=>h
 | [],[],_,_+1=>trivial
 | [],_::_,h,_=>h.elim
 | _::_,[],h,_=>h.elim
 | _::ss,_::vs,⟨_,h⟩,n+1=>O0.drop ss vs h n
def O0.take {X e w}:∀ (ss:List SV) (vs:List Value),O0 X e w ss vs->∀ n,O0 X e w (ss.take n) (vs.take n)
 | _,_,_,0=>by simp [O0]
 | [],[],_,_+1=>trivial
 | [],_::_,h,_=>h.elim
 | _::_,[],h,_=>h.elim
 | _::ss,_::vs,⟨b,c⟩,n+1=>⟨b,O0.take ss vs c n⟩
def O0.append {X e w}:∀ (ss:List SV) (vs:List Value) (b:List SV) (c:List Value),O0 X e w ss vs->O0 X e w b c->O0 X e w (ss++b) (vs++c)
 | [],[],_,_,_,h=>h
 | [],_::_,_,_,h,_=>h.elim
 | _::_,[],_,_,h,_=>h.elim
 | _::ss,_::vs,b,c,⟨d,f⟩,h=>⟨d,O0.append ss vs b c f h⟩
def I4.qC {X e w} {id:Nat} {te:TypeId} {cs:List SV} (h:I4 X e w (id,.M1 te cs)) (o n:Nat) (m:o+n<=cs.length) :
  ∃ vs:List Value,vs.length=n/\(∀ j v,vs[j]?=some v->w.cell? ((⟨e.β id,o,none⟩:Addr).add j)=some v)/\O0 X e w ((cs.drop o).take n) vs/\∀ v∈vs,v.oneCell'=true:=by
 obtain⟨vs,d,c,f⟩:=h;have p:=O0.length _ _ c;refine⟨(vs.drop o).take n,by simp;omega,λj v b=>?_,O0.take _ _ (O0.drop _ _ c o) n,λv l=>f v<|List.mem_of_mem_drop<|List.mem_of_mem_take l⟩
 rw [Addr.Y3,cell_of_row w _ _ _ te (0,0) d];rw [List.getElem?_take] at b;split at b
 ·simpa using b
 ·cases b
def rv (b:Γ.sh t≠.other) (c:(Γ.sh t).isAgg=true) {p:Addr} {vs:List Value} {w':World} (d:vs.length=Γ.cells t) (hc:∀ j v,vs[j]?=some v->w'.cell? (p.add j)=some v) :
  (loadVar t p).run Γ.P w'=.ok (.agg vs.toArray) w':=by
 obtain⟨l,z,f,_,h,_⟩:=Ctx.info b;have:=run_loadCells_list (P:=Γ.P) (w:=w') p vs hc
 rw [d,<- h] at this;simp [loadVar,Ctx.agg b,c,c9 f,this]
def Qq {i o:Nat} {te:TypeId} {cs:List SV} {l} (b:Γ.sh t=.struct l) (f:aj L x=.loc i o) (hH:Hp.get H i=some (.M1 te cs)) (q:Cj (o+Γ.cells t) cs.length=true) :
  Ev Γ k L H (.load t x) ty (.agg ((cs.drop o).take (Γ.cells t))):=by
 intro e a w m;obtain⟨_,r⟩:=Q5 m f (Nj · _ _);obtain⟨c,s,u,z,_⟩:=I4.qC (m.heap _<|Hp.mem_of hH).2 o (Γ.cells t)<|Ab q;have A:Γ.sh t≠.other:=by rw [b];intro h;cases h
 refine⟨.agg c.toArray,λ_ _ _ _ d B=>?_,⟨c,rfl,z⟩⟩
 have C:=rv (Γ:=Γ) (t:=t) (w':=d) (p:=⟨e.β i,o,none⟩) A (by rw [b];rfl) s<|λj v E=>jp B<|u j v E;simp [execOp,Instr.loadAt,r,Instr.sureAddr,C]
def Vx {ds:List D} {l} (s:Γ.sh t=.struct l) (B:aj L x=.pd ds) (C:Cj (Γ.cells t) ds.length=true):Ev Γ k L H (.load t x) ty (.agg ((ds.take (Γ.cells t)).map .d)):=by
 intro e a w m;have E:=Ab C;obtain⟨b,off,F,T,U,G⟩:=Q5 m B (Jz · _);have I:Γ.sh t≠.other:=by rw [s];intro h;cases h
 have J:∀ n,n<=ds.length->∃ c:List Value,c.length=n/\(∀ j v,c[j]?=some v->w.cell? ((⟨b,off,none⟩:Addr).add j)=some v)/\O0 (Γ.X e H) e w ((ds.take n).map .d) c:=by
  intro n;induction n with
  | zero=>intro _;exact⟨[],rfl,by simp,by simp [O0]⟩
  | succ n ih =>
   intro V;obtain⟨c,z,M,N⟩:=ih (by omega);obtain⟨u,q,r⟩:=G n (by omega);refine⟨c++[u],by simp [z],λj v f=>?_,?_⟩
   ·by_cases O:j<c.length
    ·rw [List.getElem?_append_left O] at f;exact M j v f
    ·rw [List.getElem?_append_right<|by omega] at f;have:j=n:=by
      rcases Nat.lt_or_ge (j-c.length) 1 with h|h
      ·omega
      ·rw [List.getElem?_eq_none<|by simpa using h] at f;cases f
     subst this;rw [Addr.Y3];simp [z] at f;rw [<- f];exact q
   ·rw [List.take_succ_eq_append_getElem (by omega),List.map_append];exact O0.append _ _ _ _ N ⟨r,trivial⟩
 obtain⟨c,q,r,P⟩:=J _ E;refine⟨.agg c.toArray,λ_ _ _ _ A R=>?_,⟨c,rfl,P⟩⟩
 have S:=rv (Γ:=Γ) (t:=t) (w':=A) (p:=⟨b,off,none⟩) I (by rw [s];rfl) q<|λj v f=>jp R<|r j v f;simp [execOp,Instr.loadAt,F,Instr.sureAddr,S]
end
end
end Go.Proofs.YtapciiffpnociabGreat
