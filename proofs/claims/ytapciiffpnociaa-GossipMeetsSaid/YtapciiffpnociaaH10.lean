/- Several texts in one: GxRow GxLaw GxSrt RelS RelK RelL RelU RelW GxRng GxItr RelV RelX RelB RelC RelM RelY DagA GxMap. Condition: none. -/
import Derived.Test.YtapciiffpnociaaH08
import Derived.ProofKit
import Derived.SizedLaws
import Derived.Carry
import Derived.ChangeSame
import Derived.JoinedCond
import Derived.Shelf.SlSortCmp.NoneTotal
import Derived.Test.YtapciiffpnociaaH01
import Derived.Test.YtapciiffpnociaaH09
import Derived.Maps.Keyed
namespace Go.Proofs.Ytapciiffpnociaa
open Go Go.RowKit
inductive RT where
 | bool
 | int (k:IntKind)
 | str
 | slice (cells bytes:Nat) (e:RT)
 | struct (fs:List RT)
mutual
def RT.size:RT→Nat
 | .struct fs=>RT.sizeL fs
 | .bool=>1
 | .int _=>1
 | .str=>1
 | .slice _ _ _=>1
def RT.sizeL:List RT→Nat
 | []=>0
 | r::rs=>r.size + RT.sizeL rs
end
mutual
def rtB (P:Program):RT→TypeId→Bool
 | .bool,t=>match P.underlying t with|some .bool=>true|_=>false
 | .int k,t=>match P.underlying t with|some (.int k')=>sameK k k'|_=>false
 | .str,t=>match P.underlying t with|some .string=>true|_=>false
 | .slice c b e,t=>match P.underlying t with
  | some (.slice te)=>Nat.beq (P.cellsOf te) c && (Nat.beq (P.bytesOf te) b && (Nat.blt 0 c && (Nat.beq e.size c && rtB P e te)))
  | _=>false
 | .struct fs,t=>match P.underlying t with
  | some (.struct fl)=>rtL P fs fl.toList 0 && Nat.beq (P.cellsOf t) (RT.sizeL fs)
  | _=>false
def rtL (P:Program):List RT→List Field→Nat→Bool
 | [],[],_=>true
 | r::rs,f::fl,o=>Nat.beq f.offset o && (Nat.beq (P.cellsOf f.type) r.size && (rtB P r f.type && rtL P rs fl (o + r.size)))
 | _,_,_=>false
end
mutual
def TyDR (R:Nat):RT→List D→Prop
 | .bool,xs=>∃ b,xs=[.bool b]
 | .int k,xs=>∃ n,(Lit.int k n).wf=true∧xs=[.int k n]
 | .str,xs=>∃ s:ByteArray,s.size≤R∧xs=[.str s]
 | .slice c b e,xs=>∃ l:List (List D),l.length * b≤R∧l.length≤maxLen∧xs=[.slice c l]∧∀ x∈l,TyDR R e x
 | .struct fs,xs=>TyFR R fs xs
def TyFR (R:Nat):List RT→List D→Prop
 | [],xs=>xs=[]
 | r::rs,xs=>∃ a b,xs=a++b∧TyDR R r a∧TyFR R rs b
end
abbrev TyD:=TyDR reachBytes
section
variable {H : Type} {enc : TypeId × Value → H} {P : Program} {w : World} {R : Nat}
theorem cells?_spec {base:Nat} {a:Addr} {n:Nat} {vs:List Value} (h:w.cells? base a n=some vs):vs.length=n∧∀ j,j < n→∃ v,vs[j]? = some v∧w.cell? (a.add j)=some v:=by
 unfold World.cells? at h
 split at h
 ·have key:∀ (l:List Nat) (vs:List Value),(l.mapM fun i=>w.cell? (a.add i))=some vs→vs.length=l.length∧∀ (j i:Nat),l[j]? = some i→∃ v,vs[j]? = some v∧w.cell? (a.add i)=some v:=by
   intro l
   induction l with
   | nil=>intro vs h;simp at h;subst h;exact⟨rfl,fun j i hj=>by simp at hj⟩
   | cons x l ih =>
    intro vs h
    rw [List.mapM_cons] at h
    cases hx:w.cell? (a.add x) with
    | none=>simp [hx] at h
    | some v =>
     cases hl:(l.mapM fun i=>w.cell? (a.add i)) with
     | none=>simp [hx,hl] at h
     | some us =>
      simp [hx,hl] at h
      subst h
      obtain⟨h1,h2⟩:=ih us hl
      refine⟨by simp [h1],fun j i hj=>?_⟩
      cases j with
      | zero=>simp at hj;subst hj;exact⟨v,rfl,hx⟩
      | succ j=>simpa using h2 j i (by simpa using hj)
  obtain⟨h1,h2⟩:=key _ _ h
  exact⟨by simpa using h1,fun j hj=>h2 j j (by simp [hj])⟩
 ·cases h
theorem cell?_addr {a:Addr} {v:Value} (h:w.cell? a=some v):a.spot=none∧a.block < w.heap.size:=by
 unfold World.cell? at h
 split at h
 ·rename_i hb
  split at h
  ·cases h
  ·rename_i hs
   exact⟨by simpa using hs,(Array.getElem?_eq_some_iff.1 hb).1⟩
 ·cases h
theorem addr_00 (a:Addr):(a.add 0).add 0=a:=by simp [Go.Addr.add]
def RepL (w:World) (cs:List Value) (xs:List D):Prop:=cs.length=xs.length∧∀ (j:Nat) (u:Value),cs[j]? = some u→∃ x,xs[j]? = some x∧RepC (fun _=>False) w u x
theorem RepL.append {cs cs':List Value} {xs xs':List D} (h:RepL w cs xs) (h':RepL w cs' xs'):RepL w (cs++cs') (xs++xs'):=by
 obtain⟨h1,h2⟩:=h
 obtain⟨g1,g2⟩:=h'
 refine⟨by simp [h1,g1],fun j u hj=>?_⟩
 by_cases hlt:j < cs.length
 ·rw [List.getElem?_append_left hlt] at hj
  obtain⟨x,e1,e2⟩:=h2 j u hj
  exact⟨x,by rw [List.getElem?_append_left (by omega)];exact e1,e2⟩
 ·rw [List.getElem?_append_right (by omega)] at hj
  obtain⟨x,e1,e2⟩:=g2 _ u hj
  exact⟨x,by rw [List.getElem?_append_right (by omega),← h1];exact e1,e2⟩
theorem weightsAll_mem {e:TypeId}:∀ {l:List (DataW H)} {d:DataW H},d∈l→∀ n∈d.weights P e,n∈DataW.weightsAll P e l
 | [],_,h,_,_=>by simp at h
 | x::l,d,h,n,hn=>by
  simp only [DataW.weightsAll,List.mem_append]
  rcases List.mem_cons.1 h with rfl|h
  ·exact .inl hn
  ·exact .inr (weightsAll_mem h n hn)
mutual
theorem open_rt:∀ (r:RT) (t:TypeId) (fuel:Nat) (cs:List Value) (x:DataW H × List MemPlace),rtB P r t=true→DataW.trod enc P w 0 (fun _=>true) true fuel t cs=some x→(∀ n∈x.1.weights P t,n≤R) →
  ∃ xs,TyDR R r xs∧RepL w cs xs
 | .bool,t,fuel,cs,x,hb,h,_=>by
  have ht:P.underlying t=some .bool:=by
   unfold rtB at hb;split at hb <;> first|assumption|cases hb
  obtain⟨b,rfl,rfl⟩:=DataW.trod_bool ht h
  refine⟨[.bool b],⟨b,rfl⟩,rfl,fun j u hj=>?_⟩
  cases j with
  | zero=>simp at hj;subst hj;exact⟨_,rfl,.bool⟩
  | succ j=>simp at hj
 | .int k,t,fuel,cs,x,hb,h,_=>by
  have ht:P.underlying t=some (.int k):=by
   unfold rtB at hb
   split at hb
   ·rename_i k' hk;rw [hk,sameK_spec hb]
   ·cases hb
  obtain⟨n,rfl,rfl,hw⟩:=DataW.trod_int ht h
  refine⟨[.int k n],⟨n,hw,rfl⟩,rfl,fun j u hj=>?_⟩
  cases j with
  | zero=>simp at hj;subst hj;exact⟨_,rfl,.int hw⟩
  | succ j=>simp at hj
 | .str,t,fuel,cs,x,hb,h,hw=>by
  have ht:P.underlying t=some .string:=by
   unfold rtB at hb;split at hb <;> first|assumption|cases hb
  obtain⟨s,rfl,rfl,hs⟩:=DataW.trod_string ht h
  have hr:s.size≤R:=by
   have:=hw s.data.toList.length (by simp [DataW.weights])
   simpa using this
  refine⟨[.str s],⟨s,hr,rfl⟩,rfl,fun j u hj=>?_⟩
  cases j with
  | zero=>simp at hj;subst hj;exact⟨_,rfl,.str hs⟩
  | succ j=>simp at hj
 | .slice c b e,t,fuel,cs,x,hb,h,hw=>by
  obtain⟨te,ht,hc,hby,hpos,hes,hre⟩:∃ te,P.underlying t=some (.slice te)∧P.cellsOf te=c∧P.bytesOf te=b∧0 < c∧e.size=c∧rtB P e te=true:=by
   unfold rtB at hb
   split at hb
   ·rename_i te ht
    simp only [Bool.and_eq_true] at hb
    exact⟨te,ht,Nat.eq_of_beq_eq_true hb.1,Nat.eq_of_beq_eq_true hb.2.1,Nat.le_of_ble_eq_true hb.2.2.1,Nat.eq_of_beq_eq_true hb.2.2.2.1,hb.2.2.2.2⟩
   ·cases hb
  rcases DataW.trod_slice ht h with ⟨rfl,rfl⟩|⟨a,len,cap,elems,rest,n,_,rfl,rfl,_,hlc,hcm,hlen,hel,hsp,_⟩
  ·refine⟨[.slice c []],⟨[],by simp,by simp,rfl,by simp⟩,rfl,fun j u hj=>?_⟩
   cases j with
   | zero=>simp at hj;subst hj;exact⟨_,rfl,.nil⟩
   | succ j=>simp at hj
  ·obtain⟨hrl,hrest⟩:=hsp rfl
   have hcell0:∀ i,i < cap→∃ ci y,w.cells? 0 (a.add (i * c)) c=some ci∧DataW.trod enc P w 0 (fun _=>true) true n te ci=some y∧(∀ hi:i < len,elems[i]? = some y):=by
    intro i hi
    by_cases hil:i < len
    ·have h1:=hel i hil
     have h2:elems[i]? = some (elems[i]'(by omega)):=List.getElem?_eq_getElem (by omega)
     rw [hc,h2,Option.bind_eq_some_iff] at h1
     obtain⟨ci,g1,g2⟩:=h1
     exact⟨ci,_,g1,g2,fun _=>h2⟩
    ·have h1:=hrest (i - len) (by omega)
     have h2:rest[i - len]? = some (rest[i - len]'(by omega)):=List.getElem?_eq_getElem (by omega)
     rw [show len + (i - len)=i by omega,hc,h2,Option.bind_eq_some_iff] at h1
     obtain⟨ci,g1,g2⟩:=h1
     exact⟨ci,_,g1,g2,fun h=>absurd h hil⟩
   have hlist:∀ m,m≤len→∃ l:List (List D),l.length=m∧(∀ x∈l,TyDR R e x)∧∀ i (hi:i < m),∃ ci xi,w.cells? 0 (a.add (i * c)) c=some ci∧l[i]? = some xi∧RepL w ci xi:=by
    intro m
    induction m with
    | zero=>intro _;exact⟨[],rfl,by simp,fun i hi=>by omega⟩
    | succ m ih =>
     intro hm
     obtain⟨l,l1,l2,l3⟩:=ih (by omega)
     obtain⟨ci,y,g1,g2,g3⟩:=hcell0 m (by omega)
     have hy:=g3 (by omega)
     have hmem:y.1∈elems.map (·.1):=List.mem_map.2 ⟨y,List.mem_of_getElem? hy,rfl⟩
     obtain⟨xi,t1,t2⟩:=open_rt e te n ci y hre g2 fun k hk=>hw k (by
      simp only [DataW.weights,ht,List.mem_cons,List.mem_append]
      exact .inr (.inl (weightsAll_mem hmem k hk)))
     refine⟨l++[xi],by simp [l1],fun x hx=>?_,fun i hi=>?_⟩
     ·rcases List.mem_append.1 hx with hx|hx
      ·exact l2 x hx
      ·simp at hx;subst hx;exact t1
     ·by_cases him:i < m
      ·obtain⟨ci',xi',q1,q2,q3⟩:=l3 i him
       exact⟨ci',xi',q1,by rw [List.getElem?_append_left (by omega)];exact q2,q3⟩
      ·have:i=m:=by omega
       subst this
       exact⟨ci,xi,g1,by rw [List.getElem?_append_right (by omega),l1];simp,t2⟩
   obtain⟨l,l1,l2,l3⟩:=hlist len (Nat.le_refl _)
   have hwt:l.length * b≤R:=by
    have:=hw ((elems.length + rest.length) * P.bytesOf te) (by
     simp only [DataW.weights,ht,List.length_map,List.mem_cons,true_or])
    rw [hby] at this
    refine Nat.le_trans (Nat.mul_le_mul_right b ?_) this
    omega
   refine⟨[.slice c l],⟨l,hwt,by omega,rfl,l2⟩,rfl,fun j u hj=>?_⟩
   cases j with
   | succ j=>simp at hj
   | zero =>
    simp at hj
    subst hj
    refine⟨_,rfl,?_⟩
    by_cases hcap:cap=0
    ·have h0:len=0:=by omega
     subst hcap;subst h0
     have:l=[]:=List.eq_nil_of_length_eq_zero l1
     subst this
     exact .zero
    ·obtain⟨c0,y0,g1,_,_⟩:=hcell0 0 (by omega)
     obtain⟨v0,_,hv0⟩:=(cells?_spec g1).2 0 hpos
     rw [Nat.zero_mul,addr_00] at hv0
     obtain⟨s5,s2⟩:=cell?_addr hv0
     obtain⟨ab,ao,asp⟩:=a
     simp only at s5 s2
     subst s5
     have hl3:∀ i (hi:i < l.length),(l[i]'hi).length=c∧∀ j (hj:j < (l[i]'hi).length),∃ v,w.cell? ⟨ab,ao + i * c + j,none⟩=some v∧RepC (fun _=>False) w v ((l[i]'hi)[j]'hj):=by
      intro i hi
      obtain⟨ci,xi,q1,q2,q3,q4⟩:=l3 i (by omega)
      have hxi:l[i]'hi=xi:=by rw [List.getElem?_eq_getElem hi] at q2;exact Option.some.inj q2
      subst hxi
      obtain⟨r1,r2⟩:=cells?_spec q1
      refine⟨by omega,fun j hj=>?_⟩
      obtain⟨v,v1,v2⟩:=r2 j (by omega)
      obtain⟨xx,x1,x2⟩:=q4 j v v1
      rw [Addr.add_at,Addr.add_at] at v2
      have hxx:(l[i]'hi)[j]'hj=xx:=by rw [List.getElem?_eq_getElem hj] at x1;exact Option.some.inj x1
      exact⟨v,v2,hxx▸x2⟩
     refine .slice (fun i j=>(w.cell? ⟨ab,ao + i * c + j,none⟩).getD undef) l1.symm hlc hcm (fun h=>h) s2 (fun i hi=>(hl3 i hi).1) (fun i hi j hj=>?_) (fun i hi j hj=>?_)
     ·obtain⟨v,v1,_⟩:=(hl3 i hi).2 j hj
      rw [v1];rfl
     ·obtain⟨v,v1,v2⟩:=(hl3 i hi).2 j hj
      rw [v1];exact v2
 | .struct fs,t,fuel,cs,x,hb,h,hw=>by
  obtain⟨fl,ht,hf,hc⟩:∃ fl,P.underlying t=some (.struct fl)∧rtL P fs fl.toList 0=true∧P.cellsOf t=RT.sizeL fs:=by
   unfold rtB at hb
   split at hb
   ·rename_i fl ht
    simp only [Bool.and_eq_true] at hb
    exact⟨fl,ht,hb.1,Nat.eq_of_beq_eq_true hb.2⟩
   ·cases hb
  obtain⟨xs,n,_,rfl,hcl,hxl,hx⟩:=DataW.trod_struct ht h
  obtain⟨ys,y1,y2⟩:=open_rts fs fl.toList 0 n cs xs hf (fun i f hi=>hx i f (by simpa using hi)) (by simpa using hxl) (by rw [hcl,hc];omega) (fun k hk=>hw k (by
   simp only [DataW.weights,ht];exact hk))
  exact⟨ys,y1,by simpa using y2⟩
theorem open_rts:∀ (rs:List RT) (fl:List Field) (o n:Nat) (cs:List Value) (xs:List (DataW H × List MemPlace)),rtL P rs fl o=true →
  (∀ (i:Nat) (f:Field),fl[i]? = some f→DataW.trod enc P w 0 (fun _=>true) true n f.type ((cs.drop f.offset).take (P.cellsOf f.type))=xs[i]?)→xs.length=fl.length→cs.length=o + RT.sizeL rs →
  (∀ k∈DataW.weightsEach P (fl.map (·.type)) (xs.map (·.1)),k≤R)→∃ ys,TyFR R rs ys∧RepL w (cs.drop o) ys
 | [],fl,o,n,cs,xs,hb,_,_,hl,_=>by
  refine⟨[],rfl,?_,fun j u hj=>?_⟩
  ·simp [RT.sizeL] at hl ⊢;omega
  ·rw [List.drop_eq_nil_of_le (by simp [RT.sizeL] at hl;omega)] at hj;simp at hj
 | r::rs,[],o,n,cs,xs,hb,_,_,_,_=>by simp [rtL] at hb
 | r::rs,f::fl,o,n,cs,xs,hb,hx,hxl,hl,hw=>by
  simp only [rtL,Bool.and_eq_true] at hb
  obtain⟨b1,b2,b3,b4⟩:=hb
  have b1:=Nat.eq_of_beq_eq_true b1
  have b2:=Nat.eq_of_beq_eq_true b2
  cases xs with
  | nil=>simp at hxl
  | cons y ys =>
   have h0:=hx 0 f rfl
   simp only [List.getElem?_cons_zero] at h0
   rw [b1,b2] at h0
   simp only [RT.sizeL] at hl
   obtain⟨az,a1,a2⟩:=open_rt r f.type n _ y b3 h0 fun k hk=>hw k (by
    simp only [List.map_cons,DataW.weightsEach,List.mem_append]
    exact .inl hk)
   obtain⟨bs,c1,c2⟩:=open_rts rs fl (o + r.size) n cs ys b4 (fun i g hi=>by simpa using hx (i + 1) g (by simpa using hi)) (by simpa using hxl) (by omega) (fun k hk=>hw k (by
    simp only [List.map_cons,DataW.weightsEach,List.mem_append]
    exact .inr hk))
   refine⟨az++bs,⟨az,bs,rfl,a1,c1⟩,?_⟩
   have:=a2.append c2
   have hd:(cs.drop o).take r.size++cs.drop (o + r.size)=cs.drop o:=by
    rw [← List.drop_drop]
    exact List.take_append_drop _ _
   rw [hd] at this
   exact this
end
end
end Go.Proofs.Ytapciiffpnociaa
namespace Go.Proofs.Ytapciiffpnociaa
open Go Go.RowKit Go.ChangeShapes Go.WideShapes
def RT.arg:RT→List D→SV
 | .struct _,xs=>.agg (xs.map .d)
 | _,[x]=>.d x
 | _,_=>.junk
def ArgsDR (R:Nat):List RT→List SV→Prop
 | [],az=>az=[]
 | r::rs,az=>∃ xs l,az=r.arg xs::l∧TyDR R r xs∧ArgsDR R rs l
abbrev ArgsD:=ArgsDR reachBytes
def rtsB (P:Program):List RT→List TypeId→Bool
 | [],[]=>true
 | r::rs,t::ts=>rtB P r t && rtsB P rs ts
 | _,_=>false
section
variable {H : Type} {enc : TypeId × Value → H} {P : Program} {R : Nat}
theorem repL_agg {W:World} {e:Env}:∀ (cs:List Value) (xs:List D),RepL W cs xs→RelL (fun _=>False) e W (xs.map .d) cs
 | [],[],_=>trivial
 | [],_::_,h=>by have:=h.1;simp at this
 | _::_,[],h=>by have:=h.1;simp at this
 | c::cs,x::xs,h=>by
  obtain⟨h1,h2⟩:=h
  refine⟨?_,repL_agg cs xs ⟨by simpa using h1,fun j u hj=>by simpa using h2 (j + 1) u (by simpa using hj)⟩⟩
  obtain⟨y,hy,hr⟩:=h2 0 c rfl
  simp at hy
  subst hy
  exact hr
theorem repL_one {W:World} {e:Env} {v:Value} {x:D} (h:RepL W [v] [x]):Rel (fun _=>False) e W (.d x) v:=by
 obtain⟨y,hy,hr⟩:=h.2 0 v rfl
 simp at hy
 subst hy
 exact hr
theorem rtB_bool {t:TypeId} (h:rtB P .bool t=true):P.underlying t=some .bool:=by
 unfold rtB at h;split at h <;> first|assumption|cases h
theorem rtB_str {t:TypeId} (h:rtB P .str t=true):P.underlying t=some .string:=by
 unfold rtB at h;split at h <;> first|assumption|cases h
theorem rtB_int {t:TypeId} {k:IntKind} (h:rtB P (.int k) t=true):P.underlying t=some (.int k):=by
 unfold rtB at h
 split at h
 ·rename_i k' hk;rw [hk,sameK_spec h]
 ·cases h
theorem rtB_slice {t:TypeId} {c b:Nat} {e:RT} (h:rtB P (.slice c b e) t=true):∃ te,P.underlying t=some (.slice te):=by
 unfold rtB at h
 split at h
 ·rename_i te ht;exact⟨te,ht⟩
 ·cases h
theorem rtB_struct {t:TypeId} {fs:List RT} (h:rtB P (.struct fs) t=true):∃ fl,P.underlying t=some (.struct fl):=by
 unfold rtB at h
 split at h
 ·rename_i te ht;exact⟨te,ht⟩
 ·cases h
theorem arg_open {W:World} {e:Env} {base:Nat}:∀ (r:RT) (t:TypeId) (v:Value) (d:DataW H) (ps:List MemPlace),rtB P r t=true→DataW.Trod enc P W 0 (fun _=>true) true t v d ps→Value.okWide P W .any base t v →
  (∀ n∈d.weights P t,n≤R)→∃ xs,TyDR R r xs∧Rel (fun _=>False) e W (r.arg xs) v:=by
 intro r t v d ps hb ⟨fuel,hd⟩ hok hw
 obtain⟨xs,h1,h2⟩:=open_rt r t fuel v.cells.toList (d,ps) hb hd hw
 refine⟨xs,h1,?_⟩
 cases r with
 | bool =>
  obtain⟨b,rfl⟩:=okWide_bool (rtB_bool hb) hok
  obtain⟨b',rfl⟩:=h1
  exact repL_one h2
 | int k =>
  obtain⟨b,rfl⟩:=okWide_int (rtB_int hb) hok
  obtain⟨b',_,rfl⟩:=h1
  exact repL_one h2
 | str =>
  obtain⟨b,rfl⟩:=okWide_string (rtB_str hb) hok
  obtain⟨b',_,rfl⟩:=h1
  exact repL_one h2
 | slice c b el =>
  obtain⟨te,ht⟩:=rtB_slice hb
  obtain⟨a,n,cap,rfl⟩:=okWide_slice ht hok
  obtain⟨l,_,_,rfl,_⟩:=h1
  exact repL_one h2
 | struct fs =>
  obtain⟨fl,ht⟩:=rtB_struct hb
  obtain⟨cs,rfl,_⟩:=okWide_struct ht hok
  exact⟨cs.toList,by simp,repL_agg _ _ h2⟩
theorem args_open {W:World} {e:Env} {base:Nat}:∀ (rs:List RT) (ts:List TypeId) (vs:List Value) (ds:List (DataW H)) (ps:List MemPlace),rtsB P rs ts=true→DataW.TrodAll enc P W 0 (fun _=>true) true ts vs ds ps →
  (∀ (j:Nat) t v,ts[j]? = some t→vs[j]? = some v→Value.okWide P W .any base t v)→(∀ n∈DataW.weightsEach P ts ds,n≤R)→∃ az,ArgsDR R rs az∧RelL (fun _=>False) e W az vs
 | [],[],vs,ds,ps,_,h,_,_=>by
  obtain⟨rfl,rfl,rfl⟩:=trodAll_nil h
  exact⟨[],rfl,trivial⟩
 | [],_::_,_,_,_,hb,_,_,_=>by simp [rtsB] at hb
 | _::_,[],_,_,_,hb,_,_,_=>by simp [rtsB] at hb
 | r::rs,t::ts,vs,ds,ps,hb,h,hok,hw=>by
  obtain⟨v,vs',d,ds',p,q,rfl,rfl,rfl,h1,h2⟩:=trodAll_cons h
  simp only [rtsB,Bool.and_eq_true] at hb
  simp only [DataW.weightsEach,List.mem_append] at hw
  obtain⟨xs,g1,g2⟩:=arg_open (e:=e) r t v d p hb.1 h1 (hok 0 t v rfl rfl) fun n hn=>hw n (.inl hn)
  obtain⟨az,g3,g4⟩:=args_open (e:=e) rs ts vs' ds' q hb.2 h2 (fun j t v ht hv=>hok (j + 1) t v (by simpa using ht) (by simpa using hv)) fun n hn=>hw n (.inr hn)
  exact⟨r.arg xs::az,⟨xs,az,rfl,g1,g3⟩,g2,g4⟩
def readB (P:Program) (ts:List TypeId):Bool:=ts.all fun t=>P.readableRec t && Nat.blt t P.types.size
theorem args_again {W W':World} {spare:Nat→Bool} (hl:laidOutB P=true) (hb:Below W.heap.size W W'):∀ (ts:List TypeId) (vs:List Value) (ds:List (DataW H)) (ps:List MemPlace),readB P ts=true →
  DataW.TrodAll enc P W 0 (fun _=>true) true ts vs ds ps→(∀ p∈ps,p.block < W.heap.size)→(∀ p∈ps,spare p.block=true)→DataW.TrodAll enc P W' 0 spare true ts vs ds ps
 | [],vs,ds,ps,_,h,_,_=>by
  obtain⟨rfl,rfl,rfl⟩:=trodAll_nil h
  rfl
 | t::ts,vs,ds,ps,hr,h,hlt,hsp=>by
  obtain⟨v,vs',d,ds',p,q,rfl,rfl,rfl,h1,h2⟩:=trodAll_cons h
  simp only [readB,List.all_cons,Bool.and_eq_true] at hr
  refine⟨p,q,?_,args_again hl hb ts vs' ds' q (by simpa [readB] using hr.2) h2 (fun x hx=>hlt x (List.mem_append_right _ hx)) (fun x hx=>hsp x (List.mem_append_right _ hx)),rfl⟩
  exact WideElems.Trod_stays hl hr.1.1 (Nat.le_of_ble_eq_true hr.1.2) h1 (fun x hx=>hb.same (hlt x (List.mem_append_left _ hx))) fun x hx=>hsp x (List.mem_append_left _ hx)
theorem law_post {f:Func} {s:ChangeSpec} {apart fresh handsOn:Bool} {W W':World} {args:Array Value} {ds gs:List (DataW H)} {before:List MemPlace} {tb:TypeId}
  (hv:s.vars=[]) (hW:DataW.Whole enc P f.params.toList s.vars apart W args.toList ds gs before) (hfn:gs=[]→s.fn H (ds++gs) = { results:=[.lit (.bool true)],args:=ds })
  (hres:f.resultTypes = #[tb]) (htb:P.underlying tb=some .bool) (hl:laidOutB P=true) (hr:readB P f.params.toList=true) (hb:Below W.heap.size W W') :
  s.post enc P f apart fresh handsOn false W args (.bool true) W':=by
 have hW0:=hW
 have hlt:=fun p hp=>hW.lt p hp
 obtain⟨p,q,hA,hV,rfl,hfz,hnd⟩:=hW
 rw [hv] at hV
 obtain⟨rfl,rfl⟩:=trodVars_none hV
 have hfn:=hfn rfl
 refine⟨ds,[],p++[],[],p,[],hW0,?_,?_,?_,hb.frame _,fun h=>by cases h⟩
 ·rw [hres,hfn]
  exact trodAll_mk1 (shut_bool htb true)
 ·rw [hfn]
  exact args_again hl hb _ _ _ _ hr hA (fun x hx=>hlt x (List.mem_append_left _ hx)) fun x hx=>by simpa using hlt x (List.mem_append_left _ hx)
 ·rw [hv,hfn]
  rfl
theorem ctxX_nil {τ τok} {e:Env} {W:World} {n J β0}:∀ b,Ctx.X ⟨P,τ,τok,fun _=>False,W,fun b=>b∈ownedL e [],n,J,β0,none,noPan,true,false⟩ e [] b→False:=by
 rintro b (h|h)
 ·exact h
 ·simp [ownedL] at h
theorem law_calls {τ:List (Nat × TI)} {τok:TabOk P τ} {f:FuncId} {rs:List RT} {ts:List TypeId} {args:Array Value} {ds:List (DataW H)} {ps:List MemPlace} {W:World} {base:Nat}
  (hc:∀ az,ArgsDR R rs az→FnP false P τ τok f az (fun r=>r = .d (.bool true))) (hb:rtsB P rs ts=true) (hA:DataW.TrodAll enc P W 0 (fun _=>true) true ts args.toList ds ps)
  (hok:∀ (j:Nat) t v,ts[j]? = some t→args.toList[j]? = some v→Value.okWide P W .any base t v) (hw:∀ n∈DataW.weightsEach P ts ds,n≤R) :
  Calls P f args W fun en W'=>en = .returned (.bool true)∧Below W.heap.size W W':=by
 let e:Env:=⟨fun _=>0,fun _=>undef,lo 0⟩
 obtain⟨az,h1,h2⟩:=args_open (e:=e) rs ts args.toList ds ps hb hA hok hw
 have hk:=(hc az h1).2 (fun _=>False) e W args.toList ?_ ?_
 ·rw [Array.toArray_toList] at hk
  refine Calls.mono hk ?_
  rintro en W' ⟨k',r,H',e',v,⟨rfl,_,rfl⟩,rfl,hH,hr⟩
  have hr':RepC _ W' v (.bool true):=hr
  cases hr'
  exact⟨rfl,⟨hH.os,hH.tape,hH.output,hH.size,fun b hb=>hH.block b hb (by simp [ownedL])⟩⟩
 ·exact { top:=fun _=>Iff.rfl,heap:=(fun p hp=>nomatch hp),ids:=.nil,nodup:=.nil,mine:=(fun b hb=>nomatch hb),os:=rfl,tape:=rfl,output:=rfl,drawn:=(fun _=>Nat.le_refl _),size:=Nat.le_refl _,block:=(fun _ _ _=>rfl),obound:=(fun _ h=>h.elim),jle:=(fun _ h=>nomatch h),anchor:=(fun _ h=>nomatch h) }
 ·exact RelL.keep (Nat.le_refl _) (fun _ _ _=>rfl) (fun b _ hy=>ctxX_nil b hy) _ _ h2
theorem law_lifted {C:Checked} {τ:List (Nat × TI)} {τok:TabOk C.prog τ} {os:Os} (started:os.Started) {f:FuncId} {fn:Func} {s:ChangeSpec} {conds:List PathCond} {apart fresh handsOn:Bool} {rs:List RT} {tb:TypeId}
  (own:ownKnob C.prog.godebug=none) (noInit:C.prog.inits.idxOf? f=none) (hfn:C.prog.funcs[f]? = some fn)
  (witness:∃ (w:World) (tape:Tape) (i:Input),w.os=os∧(w.forCall tape i).Shaped C.prog∧i.vars=[]∧Input.okWide C.prog (w.forCall tape i) .any w.heap.size f i ∧
   s.pre6 enc C.prog fn conds apart (w.forCall tape i).memory i.args∧({}:Assume).holds C.prog (lone (Frame.enter C.prog f i.args .normal) [] (w.forCall tape i)))
  (hv:s.vars=[]) (hvt:s.plain.varTypes C.prog=[]) (hs:∀ (ds:List (DataW H)),ds.length=fn.params.toList.length→s.fn H ds = { results:=[.lit (.bool true)],args:=ds })
  (hres:fn.resultTypes = #[tb]) (htb:C.prog.underlying tb=some .bool) (hl:laidOutB C.prog=true) (hr:readB C.prog fn.params.toList=true) (hb:rtsB C.prog rs fn.params.toList=true)
  (hc:∀ az,ArgsD rs az→FnP false C.prog τ τok f az (fun r=>r = .d (.bool true))) :
  ReturnsInHanded {} C os f .any (s.pre6 enc C.prog fn conds apart) (s.post enc C.prog fn apart fresh handsOn false):=by
 refine returnsInHanded_of_change_sized own started noInit hfn witness ?_
 intro W base args ds gs before hval hW _ hwt _
 obtain⟨p,q,hA,hV,hpq,hfz,hnd⟩:=id hW
 rw [hv] at hV
 obtain⟨rfl,rfl⟩:=trodVars_none hV
 rw [hvt,List.append_nil,List.append_nil] at hwt
 have hlen:∀ (ts:List TypeId) (vs:List Value) (ds:List (DataW H)) (ps:List MemPlace),DataW.TrodAll enc C.prog W 0 (fun _=>true) true ts vs ds ps→ds.length=ts.length:=by
  intro ts
  induction ts with
  | nil=>intro vs ds ps h;obtain⟨rfl,rfl,rfl⟩:=trodAll_nil h;rfl
  | cons t ts ih =>
   intro vs ds ps h
   obtain⟨v,vs',d,ds',p,q,rfl,rfl,rfl,h1,h2⟩:=trodAll_cons h
   simp [ih _ _ _ h2]
 refine (law_calls hc hb hA (fun j t v ht hv=>hval j t v (by simpa using ht) (by simpa using hv)) (fun n hn=>by simpa using List.all_eq_true.1 hwt n hn)).mono ?_
 rintro en W' ⟨rfl,hbl⟩
 exact⟨_,rfl,law_post hv hW (fun _=>by rw [List.append_nil];exact hs ds (hlen _ _ _ _ hA)) hres htb hl hr hbl⟩
end
end Go.Proofs.Ytapciiffpnociaa
namespace Go.Proofs.Ytapciiffpnociaa
open Go Go.RowKit Go.Sort Go.Shelf
section
variable {β : Type}
variable {P : Program} {τ : List (Nat × TI)} {τok : TabOk P τ} {ρ : Ren}
end
section
variable {Γ : Ctx} {k : Nat} {L : Sl} {H : Hp} {K : Next'} {ops : List Oper} {rest : List Oper} {β : Type}
end
open Go Go.RowKit
attribute [local irreducible] DW DS DL DQ Ev FnOk FnP thenD inBlockD DT

theorem lt_irrefl {x:Fct} (h:ordF x x < 0):False:=by rw [ordF_self] at h;omega
theorem half_u64 (i j:Nat) (h:i + j≤9223372036854775807):shrN .u64 (IntKind.u64.wrap ((i:Int) + j)) 1=(((i + j) / 2:Nat):Int):=by
 have hw:IntKind.u64.wrap ((i:Int) + j)=(i:Int) + j:=by simp [IntKind.wrap,IntKind.bits,IntKind.signed];omega
 rw [hw]
 unfold shrN
 rw [show (2:Int) ^ min (1:Int).toNat IntKind.u64.bits=2 from by decide,Int.fdiv_eq_ediv_of_nonneg _ (by decide)]
 omega
end Go.Proofs.Ytapciiffpnociaa
namespace Go.Proofs.Ytapciiffpnociaa
open Go Go.RowKit
def Kepts (L:Sl):Sl→Prop
 | []=>True
 | (t,s)::r=>Sl.get L t=s∧Kepts L r
def params:List Nat→List SV→Sl→Sl
 | p::ps,s::ss,L=>params ps ss ((p,s)::L)
 | _,_,L=>L
theorem Heap.widen {Γ:Ctx} {k:Nat→Prop} {H:Hp} {e:Env} {w:World} {l:Nat} (h:Heap Γ k H e w) (hl:¬ Γ.O l):Heap ⟨Γ.P,Γ.τ,Γ.τok,Γ.O,Γ.w0,fun b=>Γ.E0 b∨b=l,Γ.n,Γ.J,Γ.β0,Γ.rd,Γ.pan,Γ.mks,Γ.dr⟩ k H e w where
 top:=h.top
 heap:=h.heap
 ids:=h.ids
 nodup:=h.nodup
 mine b hb:=⟨(h.mine b hb).1.imp .inl id,(h.mine b hb).2⟩
 os:=h.os
 tape:=h.tape
 output:=h.output
 drawn:=h.drawn
 size:=h.size
 block b h1 h2:=h.block b h1 fun h=>h2 (.inl h)
 obound b hb:=⟨(h.obound b hb).1,fun hx=>hx.elim (h.obound b hb).2 fun hx=>hl (hx▸hb)⟩
 jle:=h.jle
 anchor:=h.anchor
end Go.Proofs.Ytapciiffpnociaa
namespace Go.Proofs.Ytapciiffpnociaa
open Go Go.RowKit
def SV.flat:SV→Bool
 | .val _=>true
 | .junk=>true
 | .d (.int _ _)=>true
 | .d (.bool _)=>true
 | _=>false
theorem Rel.flat {X e w X' e' w'}:∀ (s:SV) (v:Value),s.flat=true→Rel X e w s v→Rel X' e' w' s v
 | .val _,_,_,h=>h
 | .junk,_,_,_=>trivial
 | .d (.int _ _),_,_,h=>by
  have h':RepC _ _ _ _:=h
  cases h' with
  | int g=>exact RepC.int g
 | .d (.bool _),_,_,h=>by
  have h:RepC _ _ _ _:=h
  cases h
  exact RepC.bool
 | .d (.str _),_,h,_=>nomatch h
 | .d (.slice _ _),_,h,_=>nomatch h
 | .nils,_,h,_=>nomatch h
 | .pd _,_,h,_=>nomatch h
 | .loc _ _,_,h,_=>nomatch h
 | .row _,_,h,_=>nomatch h
 | .mp _,_,h,_=>nomatch h
 | .md _ _,_,h,_=>nomatch h
 | .prow _ _ _ _,_,h,_=>nomatch h
 | .sl _ _ _ _,_,h,_=>nomatch h
 | .rsl _ _ _ _,_,h,_=>nomatch h
 | .fn _ _,_,h,_=>nomatch h
 | .agg _,_,h,_=>nomatch h
 | .tup _,_,h,_=>nomatch h
def flatB:Sl→Bool
 | []=>true
 | (_,s)::r=>s.flat && flatB r
theorem flat_get:∀ {L:Sl},flatB L=true→∀ t,(L.get t).flat=true
 | [],_,_=>rfl
 | (d,s)::r,h,t=>by
  simp only [flatB,Bool.and_eq_true] at h
  rw [Sl.get_cons]
  split
  ·exact h.1
  ·exact flat_get h.2 t
theorem kepts_get {L:Sl}:∀ {L':Sl},Kepts L L'→∀ t,L'.get t = .junk∨L'.get t=L.get t
 | [],_,_=>.inl rfl
 | (d,s)::r,h,t=>by
  rw [Sl.get_cons]
  split
  ·rename_i hd;subst hd;exact .inr h.1.symm
  ·exact kepts_get h.2 t
structure Flat (N:Nat) (L:Sl) (a:Act):Prop where
 len:a.tmps.size=N
 defers:a.defers=[]
 slot:∀ t X e w,Rel X e w (L.get t) (a.tmps.getD t undef)
abbrev Γit (P:Program) (τ:List (Nat × TI)) (τok:TabOk P τ) (O:Nat→Prop) (W:World) (N:Nat):Ctx:=⟨P,τ,τok,O,W,fun _=>False,N,0,fun _=>(0,undef),none,noPan,false,false⟩
section
variable {P : Program} {τ : List (Nat × TI)} {τok : TabOk P τ} {O : Nat → Prop} {N : Nat} {L : Sl}
theorem Models.flatten {W:World} {k:Nat→Prop} {H:Hp} {e:Env} {a:Act} {w:World} (m:Models (Γit P τ τok O W N) k L H e a w) {Ls:Sl} (hK:Kepts L Ls) (hf:flatB Ls=true):Flat N Ls a where
 len:=m.len
 defers:=by
  obtain⟨rs,h1,h0,_⟩:=m.defers
  rw [h1,h0 rfl];rfl
 slot t X e' w':=by
  have hg:=flat_get hf t
  rcases kepts_get hK t with h|h
  ·rw [h];trivial
  ·rw [h] at hg ⊢;exact Rel.flat _ _ hg (m.slot t)
end
section
variable {Γ : Ctx} {k : Nat} {L : Sl} {H : Hp} {K : Next'} {ops : List Oper} {rest : List Oper} {x y : Operand} {t ty : TypeId}
end
section
variable {Γ : Ctx} {k : Nat} {L : Sl} {H : Hp} {R : Exit → Act → World → Prop}
end
section
variable {Γ : Ctx} {k : Nat} {L : Sl} {H : Hp} {R : Exit → Act → World → Prop}
end
theorem FnP.imp {dr:Bool} {P:Program} {τ:List (Nat × TI)} {τok:TabOk P τ} {f:FuncId} {args:List SV} {R R':SV→Prop} (h:FnP dr P τ τok f args R) (g:∀ r,R r→R' r):FnP dr P τ τok f args R' :=
 ⟨h.1,fun O e w vs hH hr=>(h.2 O e w vs hH hr).mono fun _ _ ⟨k',r,H',e',v,⟨a,b,c⟩,d⟩=>⟨k',r,H',e',v,⟨a,b,g r c⟩,d⟩⟩
attribute [local irreducible] DW DS DL DQ Ev FnOk FnP thenD inBlockD DT




theorem ent_freezeL {Γ:Ctx} {k:Nat} {L:Sl} {H:Hp} (t i:Nat) {ty:TypeId} {ds:List D} (hL:L.get t = .loc i 0) (hH:Hp.get H i=some (.blk ty (ds.map .d))):Ent Γ k L H k ((t,.pd ds)::L) (Hp.del H i):=by
 intro e a w m
 obtain⟨m2,hX⟩:=m.del i
 have hmem:=Hp.mem_of hH
 refine⟨e,m2.toHeap,m2.defers,m2.len,fun t'=>?_⟩
 rw [Sl.get_cons]
 split
 ·rename_i ht
  subst ht
  have hs:=m.slot t
  rw [hL] at hs
  obtain⟨_,hv⟩:=hs
  obtain⟨us,g1,g2,_⟩:=(m.heap _ hmem).2
  have hown:HB.owned e (i,.blk ty (ds.map .d))=some (e.β i):=rfl
  refine⟨e.β i,0,hv,lt_of_heap g1,fun hx=>?_,fun j hj=>?_⟩
  ·rcases hx with hx|hx
   ·exact (m.mine _ (List.mem_filterMap.2 ⟨_,hmem,hown⟩)).2 hx
   ·obtain⟨p,hp,hpg⟩:=List.mem_filterMap.1 hx
    have hd:=Hp.del_mem (i:=i) H m.ids p hp
    exact m.owned_ne hd.1 hmem hd.2 hpg hown
  ·obtain⟨u,g3,g4⟩:=RelL.get _ _ g2 j (.d ds[j]) (by rw [List.getElem?_map,List.getElem?_eq_getElem hj];rfl)
   refine⟨u,?_,RepC.keep (Nat.le_refl _) (fun _ _ _=>rfl) (fun b _ h=>hX b h) g4⟩
   rw [cell_of_row w _ _ _ ty (0,0) g1,Nat.zero_add];simpa using g3
 ·exact m2.slot t'
def posU (l:List Upd) (i:UId):Nat:=l.countP fun u=>decide (ordId u.id i < 0)
theorem posU_at {l:List Upd} {i:UId} {n:Nat} (hn:n≤l.length) (h1:∀ p (hp:p < l.length),p < n→ordId l[p].id i < 0) (h2:∀ p (hp:p < l.length),n≤p→0≤ordId l[p].id i):posU l i=n:=by
 unfold posU
 rw [← List.take_append_drop n l,List.countP_append]
 have e1:(l.take n).countP (fun u=>decide (ordId u.id i < 0))=(l.take n).length:=List.countP_eq_length.2 fun u hu=>by
  obtain⟨p,hp,rfl⟩:=List.mem_iff_getElem.1 hu
  rw [List.length_take] at hp
  rw [List.getElem_take]
  exact decide_eq_true (h1 p (by omega) (by omega))
 have e2:(l.drop n).countP (fun u=>decide (ordId u.id i < 0))=0:=List.countP_eq_zero.2 fun u hu=>by
  obtain⟨p,hp,rfl⟩:=List.mem_iff_getElem.1 hu
  rw [List.length_drop] at hp
  rw [List.getElem_drop]
  have:=h2 (n + p) (by omega) (by omega)
  simp only [decide_eq_true_eq]
  omega
 rw [e1,e2,List.length_take]
 omega
theorem strU_below {l:List Upd} {i:UId} {h:Nat} (hs:StrU l) (hml:h < l.length) (hg:ordId l[h].id i < 0):∀ p (hp:p < l.length),p < h + 1→ordId l[p].id i < 0:=by
 intro p hp hlt
 by_cases he:p=h
 ·subst he;exact hg
 ·exact ordId_trans (List.pairwise_iff_getElem.1 hs p h hp hml (by omega)) hg
theorem strU_above {l:List Upd} {i:UId} {h:Nat} (hs:StrU l) (hml:h < l.length) (hg:0≤ordId l[h].id i):∀ p (hp:p < l.length),h≤p→0≤ordId l[p].id i:=by
 intro p hp hlt
 by_cases he:p=h
 ·subst he;exact hg
 ·have h1:=List.pairwise_iff_getElem.1 hs h p hml hp (by omega)
  apply Classical.byContradiction
  intro hc
  have h3:=ordId_trans h1 (by omega:ordId l[p].id i < 0)
  omega
theorem foundU_at {l:List Upd} {i:UId} {n:Nat} (hs:StrU l) (h1:∀ p (hp:p < l.length),p < n→ordId l[p].id i < 0) (h2:∀ p (hp:p < l.length),n≤p→0≤ordId l[p].id i):hasU l i=(if h:n < l.length then decide (ordId l[n].id i=0) else false):=by
 rw [Bool.eq_iff_iff,hasU_iff]
 have hpi:=List.pairwise_iff_getElem.1 hs
 constructor
 ·rintro⟨u,hu,rfl⟩
  obtain⟨p,hp,rfl⟩:=List.mem_iff_getElem.1 hu
  have hpi':¬ p < n:=fun h=>ordId_irr (h1 p hp h)
  rw [dif_pos (by omega)]
  by_cases he:p=n
  ·subst he;exact decide_eq_true (ordId_self _)
  ·have:=hpi n p (by omega) hp (by omega)
   have:=h2 n (by omega) (Nat.le_refl _)
   omega
 ·intro h
  split at h
  ·rename_i hi
   exact⟨_,List.getElem_mem hi,ordId_eq (of_decide_eq_true h)⟩
  ·cases h
set_option maxHeartbeats 8000000 in
theorem dorder_fn (a b:Upd):Fn 170 [elUpd a,elUpd b] (fun r=>r = .d (.int .i64 (ordId a.id b.id))):=by
 refine fnp_enter' _ Try.func170 rfl rfl (by kernel_rfl) ?_
 intro O w0 E0 β0
 have w:=order_fn a.id b.id
 repeat' (first|refine z0 ?_|apply ds_nil|apply dw_seq2|refine z16 ?_|apply dw_ret|apply thenD_n|refine z21 ?_ (hc:=by apply w)|refine z1 ?_|fail)
 exact ret_i rfl rfl
set_option maxHeartbeats 8000000 in
theorem at1_fn (u:Upd) (i:UId):Fn 228 [elUpd u,elId i] (fun r=>r = .d (.int .i64 (ordId u.id i))):=by
 refine fnp_enter' _ Try.func228 rfl rfl (by kernel_rfl) ?_
 intro O w0 E0 β0
 have w:=order_fn u.id i
 repeat' (first|refine z0 ?_|apply ds_nil|apply dw_seq2|refine z16 ?_|apply dw_ret|apply thenD_n|refine z21 ?_ (hc:=by apply w)|refine z1 ?_|fail)
 exact ret_i rfl rfl
set_option maxHeartbeats 8000000 in
theorem bsearchU_fn (l:List Upd) (f:UId) (hl:l.length≤1000000) (hs:StrU l):Fn 227 [.d (.slice 5 (l.map encUpd)),elId f,.fn 228 []] (fun r=>r = .tup [.d (.int .i64 (posU l f)),.d (.bool (hasU l f))]):=by
 refine fnp_enter' _ Try.func227 rfl rfl (by kernel_rfl) ?_
 intro O w0 E0 β0
 have ll:(l.map encUpd).length=l.length:=List.length_map _
 repeat' (first|refine z0 ?_|apply ds_nil|apply dw_seq2|refine z16 ?_|apply dw_block|apply thenD_n|refine z1 ?_|fail)
 refine ds_loop (ι:=Nat × Nat) (fun x=>⟨1,[(0,.d (.slice 5 (l.map encUpd))),(2,.fn 228 []),(4,.loc 0 0),(8,.d (.int .i64 l.length)),(9,.d (.int .i64 x.1)),(10,.d (.int .i64 x.2))],[(0,.blk 36 [.d (.int .i64 f.author),.d (.int .i64 f.number)])]⟩)
  (fun x=>x.1≤x.2∧x.2≤l.length∧(∀ p (hp:p < l.length),p < x.1→ordId l[p].id f < 0)∧(∀ p (hp:p < l.length),x.2≤p→0≤ordId l[p].id f)) (fun x=>x.2 - x.1)
  (0,l.length) ⟨Nat.zero_le _,Nat.le_refl _,fun p _ h=>absurd h (Nat.not_lt_zero p),fun p hp h=>by omega⟩ (ent_ren id ⟨rfl,rfl,rfl,by rw [← ll];rfl,rfl,by rw [← ll];rfl,trivial⟩ ⟨rfl,trivial⟩ rfl rfl rfl rfl rfl rfl) ?_
 rintro⟨i,j⟩ ⟨g1,g2,g3,g4⟩
 dsimp only at g1 g2 g3 g4 ⊢
 by_cases hij:i < j
 ·have he:=half_u64 i j (by omega)
  have hm1:i≤(i + j) / 2:=by omega
  have hm2:(i + j) / 2 < j:=by omega
  have hml:(i + j) / 2 < l.length:=by omega
  have hw:=at1_fn (l[(i + j) / 2]'hml) f
  repeat' ((fail_if_success (apply dw_stopS 5));(first|refine z0 ?_|apply ds_nil|refine z5 ?_|refine z14 ?_|refine z10 ?_|apply dw_seq2|refine z16 ?_|refine z20 ?_|apply dw_block|apply dw_skip|apply dw_exit|apply dw_ret|apply thenD_n|apply thenD_e|refine z17 ?_|(refine z23 ?_ ?_ <;> intro hg)|((fail_if_success (apply dt_known;exact rfl));apply dt_guardP;exact rfl;exact rfl;exact rfl;all_goals intro hg)))
  all_goals try (exfalso;omega)
  refine dw_ent (k':=1) (L':=[(11,.d (.int .i64 (((i + j) / 2:Nat):Int))),(0,.d (.slice 5 (l.map encUpd))),(2,.fn 228 []),(4,.loc 0 0),(8,.d (.int .i64 l.length)),(9,.d (.int .i64 i)),(10,.d (.int .i64 j))]) (H':=[(0,.blk 36 [.d (.int .i64 f.author),.d (.int .i64 f.number)])]) ?_ ?_
  ·rw [← he]
   exact ent_ren id ⟨rfl,rfl,rfl,rfl,rfl,rfl,rfl,trivial⟩ ⟨rfl,trivial⟩ rfl rfl rfl rfl rfl rfl
  generalize (i + j) / 2=h at *
  repeat' (first|refine z0 ?_|apply ds_nil|refine z5 ?_|refine z10 ?_|apply dw_seq2|refine z16 ?_|refine z20 ?_|apply thenD_n|apply inB_n|(apply dt_callV;exact rfl;exact rfl;exact rfl;exact rfl;apply hw;exact rfl;(exact rfl);exact rfl;exact rfl;exact⟨_,rfl⟩;rintro _ rfl)|(refine z23 ?_ ?_ <;> intro hg)|fail)
  all_goals try (exfalso;omega)
  all_goals first
   | exact⟨(h + 1,j),⟨by dsimp only;omega,g2,strU_below hs hml hg,g4⟩,ent_ren id ⟨rfl,rfl,rfl,rfl,rfl,rfl,trivial⟩ ⟨rfl,trivial⟩ rfl rfl rfl rfl rfl rfl,by show j - (h + 1) < j - i;omega⟩
   | exact⟨(i,h),⟨hm1,by dsimp only;omega,g3,strU_above hs hml (Int.not_lt.1 hg)⟩,ent_ren id ⟨rfl,rfl,rfl,rfl,rfl,rfl,trivial⟩ ⟨rfl,trivial⟩ rfl rfl rfl rfl rfl rfl,by show h - i < j - i;omega⟩
 ·have hij':i=j:=by omega
  subst hij'
  have hf:=foundU_at hs g3 g4
  rw [posU_at g2 g3 g4]
  by_cases hil:i < l.length
  ·rw [dif_pos hil] at hf
   have hw:=at1_fn l[i] f
   rw [hf]
   repeat' (first|refine z0 ?_|apply ds_nil|refine z5 ?_|refine z14 ?_|refine z10 ?_|apply dw_seq2|refine z16 ?_|refine z20 ?_|apply dw_block|apply dw_skip|apply dw_exit|apply dw_ret|apply thenD_n|apply thenD_e|refine z17 ?_|(apply dt_callV;exact rfl;exact rfl;exact rfl;exact rfl;apply hw;exact rfl;(exact rfl);exact rfl;exact rfl;exact⟨_,rfl⟩;rintro _ rfl)|(refine z23 ?_ ?_ <;> intro hg)|((fail_if_success (apply dt_known;exact rfl));apply dt_guardP;exact rfl;exact rfl;exact rfl;all_goals intro hg))
   all_goals try (exfalso;omega)
   all_goals exact⟨.inl rfl,_,rfl,rfl,rfl⟩
  ·rw [dif_neg hil] at hf
   rw [hf]
   repeat' (first|refine z0 ?_|apply ds_nil|refine z5 ?_|refine z14 ?_|refine z10 ?_|apply dw_seq2|refine z16 ?_|refine z20 ?_|apply dw_block|apply dw_skip|apply dw_exit|apply dw_ret|apply thenD_n|apply thenD_e|refine z17 ?_|(refine z23 ?_ ?_ <;> intro hg)|((fail_if_success (apply dt_known;exact rfl));apply dt_guardP;exact rfl;exact rfl;exact rfl;all_goals intro hg))
   all_goals try (exfalso;omega)
   exact⟨.inl rfl,_,rfl,rfl,rfl⟩
set_option maxHeartbeats 8000000 in
theorem at_fn (l:List Upd) (i:UId) (hl:l.length≤1000000) (hs:StrU l):Fn 206 [.d (.slice 5 (l.map encUpd)),elId i] (fun r=>r = .tup [.d (.int .i64 (posU l i)),.d (.bool (hasU l i))]):=by
 refine fnp_enter' _ Try.func206 rfl rfl (by kernel_rfl) ?_
 intro O w0 E0 β0
 have w:=bsearchU_fn l i hl hs
 repeat' (first|refine z0 ?_|apply ds_nil|apply dw_seq2|refine z16 ?_|apply dw_ret|apply thenD_n|refine z21 ?_ (hc:=by apply w)|refine z1 ?_|fail)
 exact⟨.inl rfl,_,rfl,rfl,rfl⟩
set_option maxHeartbeats 8000000 in
theorem dhas_fn (l:List Upd) (i:UId) (hl:l.length≤1000000) (hs:StrU l):Fn 173 [.d (.slice 5 (l.map encUpd)),elId i] (fun r=>r = .d (.bool (hasU l i))):=by
 refine fnp_enter' _ Try.func173 rfl rfl (by kernel_rfl) ?_
 intro O w0 E0 β0
 have w:=at_fn l i hl hs
 repeat' (first|refine z0 ?_|apply ds_nil|apply dw_seq2|refine z16 ?_|apply dw_ret|apply thenD_n|refine z21 ?_ (hc:=by apply w)|refine z1 ?_|fail)
 exact ret_b rfl rfl
set_option maxHeartbeats 8000000 in
theorem growId_fn (n:Nat) (hn:n≤1000000):FnOk false Try.prog tab tab_ok 241 [.nils,.d (.int .i64 n)] 0 0 [] (fun _ r H=>r = .row 0∧H=[(0,.row 36 2 [])]):=by
 refine fn_enterR _ Try.func241 rfl rfl (by kernel_rfl) ?_
 intro O w0 E0 β0
 by_cases h0:n=0
 ·subst h0
  repeat' (first|refine z0 ?_|apply ds_nil|apply dw_seq2|refine z16 ?_|apply dw_skip|refine z19 ?_|apply thenD_n)
  all_goals try (exfalso;omega)
  refine ds_ev (ev_cap_nils rfl rfl) rfl rfl ?_
  repeat' (first|refine z0 ?_|apply ds_nil|apply dw_seq2|refine z16 ?_|apply dw_skip|refine z19 ?_|apply thenD_n)
  all_goals try (exfalso;omega)
  refine dw_ent (ent_nilrow (t:=4) 36 2 rfl) ?_
  repeat' (apply dw_ret)
  exact⟨.inl rfl,_,rfl,id,1,.row 0,[(0,.row 36 2 [])],rfl,⟨rfl,trivial⟩,rfl,rfl,rfl,rfl,rfl,rfl,rfl,rfl⟩
 ·repeat' (first|refine z0 ?_|apply ds_nil|apply dw_seq2|refine z16 ?_|apply dw_skip|refine z19 ?_|apply thenD_n)
  all_goals try (exfalso;omega)
  refine ds_ev (ev_cap_nils rfl rfl) rfl rfl ?_
  repeat' (first|refine z0 ?_|apply ds_nil|apply dw_seq2|refine z16 ?_|apply dw_skip|apply dw_ret|apply thenD_n|(refine z23 ?_ ?_ <;> intro hg)|fail)
  all_goals try (exfalso;omega)
  refine ds_ev (ev_cap_nils rfl rfl) rfl rfl ?_
  repeat' refine z0 ?_
  all_goals try (exfalso;omega)
  refine ds_apmk (n:=n) (es:=2) (te:=36) [.int .i64 0,.int .i64 0] rfl rfl (by omega) rfl rfl rfl rfl ⟨.inl rfl,.inl rfl,trivial⟩ rfl rfl (by omega) (by omega) ?_ (by unfold maxLen;omega) rfl rfl ?_
  ·show n * 16≤_
   omega
  repeat' (first|refine z0 ?_|apply ds_nil|apply dw_seq2|refine z16 ?_|apply thenD_n)
  all_goals try (exfalso;omega)
  refine dw_ent (ent_cut (n:=0) 4 rfl rfl (Nat.zero_le _) rfl) ?_
  repeat' (apply dw_ret)
  exact⟨.inl rfl,_,rfl,fun j=>match j with|0=>1|j=>j,1,.row 0,[(0,.row 36 2 [])],rfl,⟨rfl,trivial⟩,rfl,rfl,rfl,rfl,rfl,rfl,rfl,rfl⟩
set_option maxHeartbeats 8000000 in
theorem concatId_fn (ls:List (List (UId))) (h:(ls.map List.length).sum≤1000000) (h2:ls.length≤1000000):Fn 229 [.d (.slice 1 (ls.map fun l=>[.slice 2 (l.map encId)]))] (fun r=>r = .d (.slice 2 (ls.flatten.map encId))):=by
 refine fnp_enter' _ Try.func229 rfl rfl (by kernel_rfl) ?_
 intro O w0 E0 β0
 have ll:(ls.map fun l=>[D.slice 2 (l.map encId)]).length=ls.length:=List.length_map _
 repeat' (first|refine z0 ?_|apply ds_nil|apply dw_seq2|refine z16 ?_|apply dw_block|apply thenD_n)
 refine ds_loop (ι:=Nat) (fun i=>⟨0,[(0,.d (.slice 1 (ls.map fun l=>[.slice 2 (l.map encId)]))),(3,.d (.int .i64 (((ls.take i).map List.length).sum:Nat))),(9,.d (.slice 1 (ls.map fun l=>[.slice 2 (l.map encId)]))),(10,.d (.int .i64 ls.length)),(11,.d (.int .i64 i))],[]⟩)
  (fun i=>i≤ls.length) (fun i=>ls.length - i) 0 (Nat.zero_le _) (ent_ren id ⟨rfl,rfl,rfl,by rw [← ll];rfl,rfl,trivial⟩ trivial rfl rfl rfl rfl rfl rfl) ?_
 intro i g1
 by_cases hi:i < ls.length
 ·have h3:=sum_takeL hi
  have h4:=sum_leL ls (i + 1)
  have h5:(ls[i].map encId).length=ls[i].length:=List.length_map _
  repeat' (first|refine z0 ?_|apply ds_nil|apply dw_seq2|refine z16 ?_|apply dw_block|apply dw_skip|apply dw_exit|refine z19 ?_|apply thenD_n|apply thenD_e|apply inB_n|refine z17 ?_|(refine z23 ?_ ?_ <;> intro hg)|fail)
  all_goals try (exfalso;omega)
  exact⟨i + 1,by omega,ent_ren id ⟨rfl,congrArg (fun z=>SV.d (.int .i64 z)) (by rw [h3,h5];omega),rfl,rfl,rfl,trivial⟩ trivial rfl rfl rfl rfl rfl rfl,by omega⟩
 ·rw [List.take_of_length_le (by omega)]
  repeat' (first|refine z0 ?_|apply ds_nil|apply dw_seq2|refine z16 ?_|apply dw_block|apply dw_skip|apply dw_exit|refine z19 ?_|apply thenD_n|apply thenD_e|apply inB_n|refine z17 ?_|(refine z23 ?_ ?_ <;> intro hg)|fail)
  all_goals try (exfalso;omega)
  refine ds_callF id (growId_fn (ls.map List.length).sum h) rfl rfl rfl rfl trivial rfl rfl rfl rfl rfl rfl ?_ ?_
  ·rintro k2 r H2 ⟨rfl,rfl⟩;exact⟨rfl,rfl⟩
  rintro k2 r H2 ⟨rfl,rfl⟩
  change DS _ _ _ _ _ _ _ _
  repeat' (first|refine z0 ?_|apply ds_nil|apply dw_seq2|refine z16 ?_|apply dw_block|apply thenD_n)
  refine ds_loop (ι:=Nat) (fun i=>⟨1,[(6,.row 0),(25,.d (.slice 1 (ls.map fun l=>[.slice 2 (l.map encId)]))),(26,.d (.int .i64 ls.length)),(27,.d (.int .i64 i))],[(0,.row 36 2 ((ls.take i).flatten.map encId))]⟩)
   (fun i=>i≤ls.length) (fun i=>ls.length - i) 0 (Nat.zero_le _) (ent_ren id ⟨rfl,rfl,by rw [← ll];rfl,rfl,trivial⟩ ⟨rfl,trivial⟩ rfl rfl rfl rfl rfl rfl) ?_
  clear hi g1
  intro i g1
  by_cases hi:i < ls.length
  ·have h3:=sum_takeL hi
   have h4:=sum_leL ls (i + 1)
   have h5:(ls[i].map encId).length=ls[i].length:=List.length_map _
   have h6:((ls.take i).flatten.map encId).length=((ls.take i).map List.length).sum:=by rw [List.length_map,List.length_flatten]
   have h7:(ls.take (i + 1)).flatten=(ls.take i).flatten++ls[i]:=by rw [List.take_succ_eq_append_getElem hi,List.flatten_append];simp
   repeat' (first|refine z0 ?_|apply ds_nil|apply dw_seq2|refine z16 ?_|apply dw_block|apply dw_skip|apply dw_exit|apply dw_ret|apply thenD_n|apply thenD_e|apply inB_n|refine z17 ?_|refine z2 ?_|(refine z23 ?_ ?_ <;> intro hg)|fail)
   all_goals try (exfalso;omega)
   exact⟨i + 1,by omega,ent_ren (fun _=>1) ⟨rfl,rfl,rfl,rfl,trivial⟩ ⟨by rw [h7,List.map_append];rfl,trivial⟩ rfl rfl rfl rfl rfl rfl,by omega⟩
  ·rw [List.take_of_length_le (by omega)]
   repeat' (first|refine z0 ?_|apply ds_nil|apply dw_seq2|refine z16 ?_|apply dw_block|apply dw_skip|apply dw_exit|apply thenD_n|apply thenD_e|apply inB_n|refine z17 ?_|refine z2 ?_|(refine z23 ?_ ?_ <;> intro hg)|fail)
   all_goals try (exfalso;omega)
   refine dw_ent (ent_seal 2 rfl rfl rfl) ?_
   repeat' (apply dw_ret)
   exact⟨.inl rfl,_,rfl,rfl,rfl⟩
set_option maxHeartbeats 8000000 in
theorem under_fn (u:Upd) (h:u.parents.length + u.takes.length≤1000000):Fn 207 [elUpd u] (fun r=>r = .d (.slice 2 ((underU u).map encId))):=by
 refine fnp_enter' _ Try.func207 rfl rfl (by kernel_rfl) ?_
 intro O w0 E0 β0
 have hc:Fn 229 [.d (.slice 1 [[.slice 2 (u.parents.map encId)],[.slice 2 (u.takes.map encId)]])] (fun r=>r = .d (.slice 2 ((underU u).map encId))):=by
  have h:=concatId_fn [u.parents,u.takes] (by simpa using h) (by simp)
  rw [show [u.parents,u.takes].flatten=underU u by simp [underU]] at h
  exact h
 repeat' (first|refine z0 ?_|apply ds_nil|apply dw_seq2|refine z16 ?_|apply dw_ret|apply thenD_n|refine z21 ?_ (hc:=by apply hc)|refine z1 ?_|refine z4 ?_|fail)
 exact⟨.inl rfl,_,rfl,rfl,rfl⟩
set_option maxHeartbeats 8000000 in
theorem ready1_fn (l:List Upd) (i:UId) (hl:l.length≤1000000) (hs:StrU l):Fn 208 ([elId i]++[.pd [.slice 5 (l.map encUpd)]]) (fun r=>r = .d (.bool (!hasU l i))):=by
 refine fnp_enter' _ Try.func208 rfl rfl (by kernel_rfl) ?_
 intro O w0 E0 β0
 have w:=dhas_fn l i hl hs
 repeat' (first|refine z0 ?_|apply ds_nil|apply dw_seq2|refine z16 ?_|apply dw_ret|apply thenD_n|refine z21 ?_ (hc:=by apply w)|refine z1 ?_|fail)
 exact ret_b rfl rfl
set_option maxHeartbeats 8000000 in
theorem dready_fn (l:List Upd) (u:Upd) (hl:l.length≤1000000) (hs:StrU l) (h:u.parents.length + u.takes.length≤1000000):Fn 175 [.d (.slice 5 (l.map encUpd)),elUpd u] (fun r=>r = .d (.bool (readyU l u))):=by
 refine fnp_enter' _ Try.func175 rfl rfl (by kernel_rfl) ?_
 intro O w0 E0 β0
 have w1:=under_fn u h
 have w2:=containsFuncId_fn (caps:=[.pd [.slice 5 (l.map encUpd)]]) (fun i=>!hasU l i) (underU u) rfl (fun i _=>ready1_fn l i hl hs)
 have he:(!((underU u).any fun i=>!hasU l i))=readyU l u:=by unfold readyU;rw [List.all_eq_not_any_not]
 rw [← he]
 repeat' ((fail_if_success (apply dw_stopS 1));(first|refine z0 ?_|apply ds_nil|apply dw_seq2|refine z16 ?_|apply thenD_n|refine z1 ?_|fail))
 refine dw_ent (ent_freezeL (ds:=[.slice 5 (l.map encUpd)]) 2 0 rfl rfl) ?_
 repeat' (first|refine z0 ?_|apply ds_nil|apply dw_seq2|refine z16 ?_|apply dw_ret|apply thenD_n|refine z21 ?_ (hc:=by apply w1)|refine z21 ?_ (hc:=by apply w2)|fail)
 exact ret_b rfl rfl
end Go.Proofs.Ytapciiffpnociaa
namespace Go.Proofs.Ytapciiffpnociaa
open Go Go.RowKit
open Go.Maps (Keyed)
def MK.eqb:MK→MK→Bool
 | .str a,.str b=>decide (a.data=b.data)
 | .pair a b,.pair c d=>decide (a=c) && decide (b=d)
 | _,_=>false
theorem MK.eqb_iff:∀ {a b:MK},a.eqb b=true↔a=b
 | .str a,.str b=>by
  simp only [MK.eqb,decide_eq_true_iff,MK.str.injEq]
  exact⟨fun h=>by cases a;cases b;exact congrArg _ h,fun h=>by rw [h]⟩
 | .pair a b,.pair c d=>by simp only [MK.eqb,Bool.and_eq_true,decide_eq_true_iff,MK.pair.injEq]
 | .str _,.pair _ _=>by simp [MK.eqb]
 | .pair _ _,.str _=>by simp [MK.eqb]
theorem MK.eqb_self (a:MK):a.eqb a=true:=MK.eqb_iff.2 rfl
theorem MK.val_inj:∀ {a b:MK},a.val=b.val→a=b
 | .str a,.str b,h=>by cases h;rfl
 | .pair a b,.pair c d,h=>by
  simp only [MK.val,Value.agg.injEq,Array.mk.injEq,List.cons.injEq,Value.int.injEq,and_true,true_and] at h
  rw [h.1,h.2]
 | .str _,.pair _ _,h=>by cases h
 | .pair _ _,.str _,h=>by cases h
def mapGet?:List (MK × Int)→MK→Option Int
 | [],_=>none
 | (k,v)::l,x=>if k.eqb x then some v else mapGet? l x
def mapSet:List (MK × Int)→MK→Int→List (MK × Int)
 | [],x,n=>[(x,n)]
 | (k,v)::l,x,n=>if k.eqb x then (k,n)::l else (k,v)::mapSet l x n
theorem mapGet_set (x:MK) (n:Int) (y:MK):∀ l,mapGet? (mapSet l x n) y=if x.eqb y then some n else mapGet? l y
 | []=>rfl
 | (k,v)::l=>by
  unfold mapSet
  by_cases hk:k.eqb x=true
  ·have:=MK.eqb_iff.1 hk
   subst this
   rw [if_pos hk]
   simp only [mapGet?]
   split <;> rfl
  ·rw [if_neg hk]
   simp only [mapGet?,mapGet_set x n y l]
   by_cases hy:k.eqb y=true
   ·have:=MK.eqb_iff.1 hy
    subst this
    rw [if_pos hy,if_neg (fun h=>hk (MK.eqb_iff.2 (MK.eqb_iff.1 h).symm)),if_pos hy]
   ·rw [if_neg hy,if_neg hy]
theorem mapGet_none {x:MK}:∀ {l:List (MK × Int)},(∀ p∈l,p.1≠x)→mapGet? l x=none
 | [],_=>rfl
 | (k,v)::l,h=>by
  unfold mapGet?
  rw [if_neg (fun hc=>h (k,v) (List.mem_cons_self ..) (MK.eqb_iff.1 hc))]
  exact mapGet_none fun p hp=>h p (List.mem_cons_of_mem _ hp)
theorem mapGet_some {x:MK} {n:Int}:∀ {l:List (MK × Int)},l.Pairwise (fun p q=>p.1≠q.1)→(x,n)∈l→mapGet? l x=some n
 | [],_,h=>by simp at h
 | (k,v)::l,hp,h=>by
  obtain⟨h1,h2⟩:=List.pairwise_cons.1 hp
  unfold mapGet?
  rcases List.mem_cons.1 h with h|h
  ·cases h;rw [if_pos (MK.eqb_self _)]
  ·rw [if_neg fun hc=>h1 _ h (MK.eqb_iff.1 hc)]
   exact mapGet_some h2 h
theorem mapSet_new {x:MK} {n:Int}:∀ {l:List (MK × Int)},(∀ p∈l,p.1≠x)→mapSet l x n=l++[(x,n)]
 | [],_=>rfl
 | (k,v)::l,h=>by
  unfold mapSet
  rw [if_neg (fun hc=>h (k,v) (List.mem_cons_self ..) (MK.eqb_iff.1 hc)),mapSet_new fun p hp=>h p (List.mem_cons_of_mem _ hp)]
  rfl
theorem mapSet_old {x:MK} {n:Int}:∀ {l:List (MK × Int)} {j:Nat} {v:Int},l.Pairwise (fun p q=>p.1≠q.1)→l[j]? = some (x,v)→mapSet l x n=l.set j (x,n)
 | [],_,_,_,h=>by simp at h
 | (k,u)::l,0,v,hp,h=>by
  simp only [List.getElem?_cons_zero,Option.some.injEq,Prod.mk.injEq] at h
  unfold mapSet
  rw [if_pos (by rw [h.1];exact MK.eqb_self _),h.1]
  rfl
 | (k,u)::l,j + 1,v,hp,h=>by
  obtain⟨h1,h2⟩:=List.pairwise_cons.1 hp
  rw [List.getElem?_cons_succ] at h
  unfold mapSet
  rw [if_neg fun hc=>h1 _ (List.mem_of_getElem? h) (MK.eqb_iff.1 hc),mapSet_old h2 h]
  rfl
theorem mapSet_keys (x:MK) (n:Int):∀ l,∀ p∈mapSet l x n,p=(x,n)∨p∈l
 | [],p,h=>by simp only [mapSet,List.mem_singleton] at h;exact .inl h
 | (k,v)::l,p,h=>by
  unfold mapSet at h
  split at h
  ·rename_i hk
   rw [MK.eqb_iff.1 hk] at h
   rcases List.mem_cons.1 h with h|h
   ·exact .inl h
   ·exact .inr (List.mem_cons_of_mem _ h)
  ·rcases List.mem_cons.1 h with h|h
   ·exact .inr (by rw [h];exact List.mem_cons_self ..)
   ·exact (mapSet_keys x n l p h).imp id fun h=>List.mem_cons_of_mem _ h
theorem mapSet_pairs (x:MK) (n:Int):∀ l:List (MK × Int),l.Pairwise (fun p q=>p.1≠q.1)→(mapSet l x n).Pairwise (fun p q=>p.1≠q.1)
 | [],_=>by simp [mapSet]
 | (k,v)::l,h=>by
  obtain⟨h1,h2⟩:=List.pairwise_cons.1 h
  unfold mapSet
  split
  ·exact List.pairwise_cons.2 ⟨h1,h2⟩
  ·rename_i hk
   refine List.pairwise_cons.2 ⟨fun p hp=>?_,mapSet_pairs x n l h2⟩
   rcases mapSet_keys x n l p hp with h|h
   ·rw [h];exact fun hc=>hk (MK.eqb_iff.2 hc)
   ·exact h1 p h
structure MapT (P:Program) (t:TypeId) (kd:Bool):Prop where
 ty:∃ kt et,P.underlying t=some (.map kt et)∧Keyed P kt∧(∀ key:MK,key.ok kd→∃ l,keyOf P kt key.val=some l)∧∀ w,(zeroValue et).run P w = .ok (.int .i64 0) w
def keyC:SV→Option MK
 | .d (.str s)=>some (.str s)
 | .agg [.d (.int .i64 a),.d (.int .i64 b)]=>some (.pair a b)
 | _=>none
def MK.kd:MK→Bool
 | .str _=>true
 | .pair _ _=>false
theorem keyC_rel {X e w} {s:SV} {v:Value} {key:MK} (h:keyC s=some key) (hr:Rel X e w s v):v=key.val∧key.ok key.kd:=by
 unfold keyC at h
 split at h
 ·cases h
  have hr:RepC _ _ _ _:=hr
  cases hr
  exact⟨rfl,rfl,by assumption⟩
 ·cases h
  obtain⟨vs,rfl,h2⟩:=hr
  match vs,h2 with
  | [u1,u2],⟨g1,g2,_⟩ =>
   have g1:RepC _ _ _ _:=g1
   have g2:RepC _ _ _ _:=g2
   cases g1
   cases g2
   exact⟨rfl,rfl,by assumption,by assumption⟩
 ·cases h
section
variable {Γ : Ctx} {k : Nat → Prop} {L : Sl} {H : Hp} {K : Next'} {ops : List Oper} {rest : List Oper} {a : Act} {w : World} {e : Env} {t t' ty : TypeId} {x y : Operand}
theorem cSV_mp (v:Value) (i:Nat):cSV v≠.mp i:=by unfold cSV;split <;> simp
theorem entries_get {es:Array MapEntry} {kvs:List (MK × Int)} (h:es.toList.map (fun x=>(x.key,x.val))=kvs.map (fun p=>(p.1.val,Value.int .i64 p.2))) {j:Nat} {x:MapEntry} (hj:es.toList[j]? = some x):∃ p,kvs[j]? = some p∧x.key=p.1.val∧x.val = .int .i64 p.2:=by
 have h1:(es.toList.map (fun x=>(x.key,x.val)))[j]? = some (x.key,x.val):=by rw [List.getElem?_map,hj];rfl
 rw [h,List.getElem?_map] at h1
 cases hk:kvs[j]? with
 | none=>rw [hk] at h1;cases h1
 | some p =>
  rw [hk] at h1
  simp only [Option.map_some,Option.some.injEq,Prod.mk.injEq] at h1
  exact⟨p,rfl,h1.1.symm,h1.2.symm⟩
theorem entries_of {es:Array MapEntry} {kvs:List (MK × Int)} (h:es.toList.map (fun x=>(x.key,x.val))=kvs.map (fun p=>(p.1.val,Value.int .i64 p.2))) {x:MapEntry} (hx:x∈es.toList):∃ p∈kvs,x.key=p.1.val∧x.val = .int .i64 p.2:=by
 obtain⟨j,hj⟩:=List.mem_iff_getElem?.1 hx
 obtain⟨p,h1,h2⟩:=entries_get h hj
 exact⟨p,List.mem_of_getElem? h1,h2⟩
theorem map_find {P:Program} {kt:TypeId} {kd:Bool} {kvs:List (MK × Int)} {es:Array MapEntry} (K:Keyed P kt) (hof:∀ key:MK,key.ok kd→∃ l,keyOf P kt key.val=some l) (hes:es.toList.map (fun x=>(x.key,x.val))=kvs.map (fun p=>(p.1.val,Value.int .i64 p.2)))
  (hkeys:kvs.Pairwise fun p q=>p.1≠q.1) (hwf:∀ p∈kvs,p.1.ok kd∧(Lit.int .i64 p.2).wf=true) {key:MK} (hk:key.ok kd) (w:World) :
  ((Instr.findKey kt key.val es.toList).run P w = .ok none w∧mapGet? kvs key=none∧∀ p∈kvs,p.1≠key)∨∃ j x n,(Instr.findKey kt key.val es.toList).run P w = .ok (some (j,.int .i64 n)) w∧es.toList[j]? = some x∧x.key=key.val∧kvs[j]? = some (key,n)∧mapGet? kvs key=some n∧(Lit.int .i64 n).wf=true:=by
 obtain⟨l,hl⟩:=hof key hk
 have hall:∀ e∈es.toList,∃ l,keyOf P kt e.key=some l:=fun x hx=>by
  obtain⟨p,h1,h2,_⟩:=entries_of hes hx
  rw [h2];exact hof _ (hwf p h1).1
 rcases K.find w hl es.toList hall with ⟨h1,h2⟩|⟨j,x,h1,h2,h3⟩
 ·have hno:∀ p∈kvs,p.1≠key:=fun p hp he=>by
   obtain⟨j,hj⟩:=List.mem_iff_getElem?.1 hp
   have hj2:(es.toList.map (fun x=>(x.key,x.val)))[j]? = some (p.1.val,Value.int .i64 p.2):=by rw [hes,List.getElem?_map,hj];rfl
   rw [List.getElem?_map] at hj2
   cases hx:es.toList[j]? with
   | none=>rw [hx] at hj2;cases hj2
   | some x =>
    rw [hx] at hj2
    simp only [Option.map_some,Option.some.injEq,Prod.mk.injEq] at hj2
    exact h2 x (List.mem_of_getElem? hx) (by rw [hj2.1,he])
  exact .inl ⟨h1,mapGet_none hno,hno⟩
 ·obtain⟨p,q1,q2,q3⟩:=entries_get hes h2
  have hpk:p.1=key:=MK.val_inj (by rw [← q2,h3])
  obtain⟨pk,n⟩:=p
  subst hpk
  rw [q3] at h1
  exact .inr ⟨j,x,n,h1,h2,h3,q1,mapGet_some hkeys (List.mem_of_getElem? q1),(hwf _ (List.mem_of_getElem? q1)).2⟩
theorem stamps_push {es:Array MapEntry} {clock:Nat} {k v:Value} (h:Stamps es clock):Stamps (es.push ⟨k,v,clock⟩) (clock + 1):=by
 refine⟨?_,fun x hx=>?_⟩
 ·rw [Array.toList_push]
  refine List.pairwise_append.2 ⟨h.1,List.pairwise_singleton _ _,fun x hx y hy=>?_⟩
  rw [List.mem_singleton] at hy
  subst hy
  have:=h.2 x hx
  dsimp only
  omega
 ·rw [Array.toList_push] at hx
  rcases List.mem_append.1 hx with hx|hx
  ·have:=h.2 x hx;omega
  ·rw [List.mem_singleton] at hx
   subst hx
   exact Nat.lt_succ_self _
theorem borns_modify {es:Array MapEntry} {j:Nat} {f:MapEntry→MapEntry} (hf:∀ x,(f x).born=x.born):(es.modify j f).toList.map (·.born)=es.toList.map (·.born):=by
 apply List.ext_getElem?
 intro q
 rw [List.getElem?_map,List.getElem?_map,Array.getElem?_toList,Array.getElem?_toList,Array.getElem?_modify]
 by_cases hq:j=q
 ·rw [if_pos hq]
  cases es[q]? with
  | none=>rfl
  | some x=>simp [hf]
 ·rw [if_neg hq]
theorem stamps_modify {es:Array MapEntry} {clock j:Nat} {f:MapEntry→MapEntry} (h:Stamps es clock) (hf:∀ x,(f x).born=x.born):Stamps (es.modify j f) clock:=by
 have hb:=borns_modify (es:=es) (j:=j) hf
 have h1:(es.toList.map (·.born)).Pairwise (·≠·):=List.pairwise_map.2 h.1
 rw [← hb] at h1
 refine⟨List.pairwise_map.1 h1,fun x hx=>?_⟩
 have hm:x.born∈(es.modify j f).toList.map (·.born):=List.mem_map.2 ⟨x,hx,rfl⟩
 rw [hb] at hm
 obtain⟨y,hy,he⟩:=List.mem_map.1 hm
 rw [← he]
 exact h.2 y hy
theorem wf_zero:(Lit.int .i64 0).wf=true:=by decide
theorem look_run {P:Program} {kd:Bool} {kvs:List (MK × Int)} {key:MK} (T:MapT P t kd) (c:Bool) {w:World} {b:Nat} (hM:MapIs w b kd kvs) (hok:key.ok kd) :
  (Instr.lookup t (.map (some b)) key.val c).run P w = .ok (if c then .tuple #[.int .i64 ((mapGet? kvs key).getD 0),.bool (mapGet? kvs key).isSome] else .int .i64 ((mapGet? kvs key).getD 0)) w∧(Lit.int .i64 ((mapGet? kvs key).getD 0)).wf=true:=by
 obtain⟨kt,et,ht,K,hof,hz⟩:=T.ty
 obtain⟨⟨es,clock,hb,hes,hst⟩,hkeys,hwf⟩:=hM
 obtain⟨l,hl⟩:=hof key hok
 rcases map_find K hof hes hkeys hwf hok w with ⟨h1,h2,_⟩|⟨j,x0,n,h1,_,_,_,h2,h3⟩
 ·refine⟨?_,by rw [h2];exact wf_zero⟩
  simp [Instr.lookup,run_underlying ht,MapKept.run_getObj_map hb,K.check w _ hl,h1,hz w,h2,Result.andThen]
 ·refine⟨?_,by rw [h2];exact h3⟩
  simp [Instr.lookup,run_underlying ht,MapKept.run_getObj_map hb,K.check w _ hl,h1,h2,Result.andThen]
def lookAt (H:Hp) (s:SV) (kd:Bool) (kvs:List (MK × Int)):Prop:=match s with
 | .mp i=>Hp.get H i=some (.map kd kvs)
 | .md kd' kvs'=>kd' = kd∧kvs' = kvs
 | _=>False
theorem cSV_md (v:Value) (kd:Bool) (kvs:List (MK × Int)):cSV v≠.md kd kvs:=by unfold cSV;split <;> simp
theorem lookAt_is {kd:Bool} {kvs:List (MK × Int)} (m:Models Γ k L H e a w) (h:lookAt H (opSV L x) kd kvs):∃ b,a.eval x = .map (some b)∧b < w.heap.size∧MapIs w b kd kvs:=by
 unfold lookAt at h
 split at h
 ·rename_i i hx
  obtain⟨_,hv⟩:=evT m hx (cSV_mp · _)
  exact⟨_,hv,m.toHeap.lt (e.β i) (List.mem_filterMap.2 ⟨_,Hp.mem_of h,rfl⟩),(m.heap _ (Hp.mem_of h)).2⟩
 ·rename_i kd' kvs' hx
  obtain⟨rfl,rfl⟩:=h
  obtain⟨b,h1,h2,_,h3⟩:=evT m hx (cSV_md · _ _)
  exact⟨b,h1,h2,h3⟩
 ·exact h.elim
theorem ev_lookup {kd:Bool} {kvs:List (MK × Int)} {key:MK} (T:MapT Γ.P t kd) (hx:lookAt H (opSV L x) kd kvs) (hy:keyC (opSV L y)=some key) (hkd:key.kd=kd) (hyo:opOkB y=true) :
  Ev Γ k L H (.lookup t x y false) ty (.d (.int .i64 ((mapGet? kvs key).getD 0))):=by
 intro e a w m
 obtain⟨b,hvx,hlt,hM⟩:=lookAt_is m hx
 obtain⟨hvy,hok⟩:=keyC_rel hy (m.op y (opOkB_spec hyo))
 rw [hkd] at hok
 refine⟨.int .i64 ((mapGet? kvs key).getD 0),fun _ _ _ _ w' hw=>?_,.int (look_run T false hM hok).2⟩
 have h1:=(look_run T false (hM.keep fun _ _ h=>(hw.block _ hlt).trans h) hok).1
 simp only [execOp,hvx,hvy,Sem.run_bind,Sem.run_pure,h1,Result.andThen_ok]
 rfl
theorem op_mapNew {d z:Nat} {kd:Bool} {pos:String} {af:Array Edge} {g:Option (Nat × Bool)} (hz:¬ k z) (hd:Nat.blt d Γ.n=true):OpOk Γ ⟨some d,.makeMap t none,ty,pos,af,g⟩ k L H (with1 k z) ((d,.mp z)::L) ((z,.map kd [])::H):=by
 intro e a w Q m
 have hze:¬ e.dom z:=fun h=>hz ((m.top z).1 h)
 have hrun:(execOp a.eval ⟨some d,.makeMap t none,ty,pos,af,g⟩).run Γ.P w = .ok (.value (.map (some w.heap.size))) (w.alloc (.map #[] 0)):=by
  simp only [execOp,Option.map_none,Sem.run_bind,run_makeMap,Result.andThen_ok,Sem.run_pure]
 unfold Oper.wp
 rw [hrun]
 have m2:=m.new hz (hb:=.map kd []) (e':=e.bind z w.heap.size) (w':=w.alloc (.map #[] 0)) (fun i=>or_congr (m.top i) Iff.rfl) (e.bind_ext _ _ hze) ⟨(Below.refl _ _).alloc (Nat.le_refl _) _,fun _=>Nat.le_refl _⟩
  (fun b hb=>by simp [HB.owned,Env.bind] at hb;omega) (fun _=>⟨⟨#[],0,by show (w.alloc (.map #[] 0)).heap[(e.bind z w.heap.size).β z]? = _;rw [show (e.bind z w.heap.size).β z=w.heap.size from if_pos rfl];exact (MapKept.heap_alloc w _).1,rfl,.nil,by simp⟩,.nil,by simp⟩)
 refine⟨_,m2.put (s:=.mp z) (v:=.map (some w.heap.size)) (Nat.le_of_ble_eq_true hd) ⟨.inr rfl,?_⟩⟩
 show _=Value.map (some (if z=z then w.heap.size else e.β z));rw [if_pos rfl]
theorem op_mapSet {i:Nat} {kd:Bool} {kvs:List (MK × Int)} {key:MK} {n:Int} {u:Operand} {dst:Option Nat} {pos:String} {af:Array Edge} {g:Option (Nat × Bool)} (T:MapT Γ.P t kd) (hx:opSV L x = .mp i) (hH:Hp.get H i=some (.map kd kvs)) (hy:keyC (opSV L y)=some key) (hkd:key.kd=kd) (hyo:opOkB y=true)
  (hu:opSV L u = .d (.int .i64 n)) (huo:opOkB u=true) (hdst:dst=none):OpOk Γ ⟨dst,.mapUpdate t x y u,ty,pos,af,g⟩ k L H k L (Hp.set H i (.map kd (mapSet kvs key n))):=by
 subst hdst
 intro e a w Q m
 obtain⟨kt,et,ht,K,hof,hz⟩:=T.ty
 obtain⟨_,hvx⟩:=evT m hx (cSV_mp · _)
 obtain⟨hvy,hok⟩:=keyC_rel hy (m.op y (opOkB_spec hyo))
 rw [hkd] at hok
 have hru:=m.op u (opOkB_spec huo)
 rw [hu] at hru
 obtain⟨hvu,hnwf⟩:a.eval u = .int .i64 n∧(Lit.int .i64 n).wf=true:=by
  have hru:RepC _ _ _ _:=hru
  generalize a.eval u=vu at hru
  cases hru with
  | int h=>exact⟨rfl,h⟩
 have hM:MapIs w (e.β i) kd kvs:=(m.heap _ (Hp.mem_of hH)).2
 have hlt:=m.toHeap.lt (e.β i) (List.mem_filterMap.2 ⟨_,Hp.mem_of hH,rfl⟩)
 obtain⟨⟨es,clock,hb,hes,hst⟩,hkeys,hwf⟩:=hM
 obtain⟨l,hl⟩:=hof key hok
 have hrun:∃ es' clock',(Instr.mapUpdate t (.map (some (e.β i))) key.val (.int .i64 n)).run Γ.P w = .ok () { w with heap:=w.heap.setIfInBounds (e.β i) (.map es' clock') }∧es'.toList.map (fun x=>(x.key,x.val))=(mapSet kvs key n).map (fun p=>(p.1.val,Value.int .i64 p.2))∧Stamps es' clock':=by
  rcases map_find K hof hes hkeys hwf hok w with ⟨h1,_,h2⟩|⟨j,x0,n0,h1,h2,h3,h4,_,_⟩
  ·refine⟨es.push ⟨key.val,.int .i64 n,clock⟩,clock + 1,?_,?_,stamps_push hst⟩
   ·simp [Instr.mapUpdate,run_underlying ht,MapKept.run_getObj_map hb,K.check w false hl,h1,MapKept.run_setObj_map _ hb,Result.andThen]
   ·rw [mapSet_new h2,Array.toList_push,List.map_append,List.map_append,hes]
    rfl
  ·have hj2:es[j]? = some x0:=by simpa using h2
   have hjl:j < es.size:=(Array.getElem?_eq_some_iff.1 hj2).1
   refine⟨es.modify j fun x=>{ x with key:=key.val,val:=.int .i64 n },clock,?_,?_,stamps_modify hst fun _=>rfl⟩
   ·have hst:(Instr.keyThatStays (((es[j]?).map (·.key)).getD key.val) key.val).run Γ.P w = .ok key.val w:=by
     rw [hj2]
     show (Instr.keyThatStays x0.key key.val).run Γ.P w=_
     rw [h3]
     exact K.stays w hl
    simp [Instr.mapUpdate,run_underlying ht,MapKept.run_getObj_map hb,K.check w false hl,h1,hst,MapKept.run_setObj_map _ hb,Result.andThen]
   ·rw [mapSet_old hkeys h4,List.map_set,← hes]
    apply List.ext_getElem?
    intro q
    by_cases hq:q=j
    ·subst hq
     simp [hjl]
    ·simp [Ne.symm hq]
 obtain⟨es',clock',hr,hes'⟩:=hrun
 unfold Oper.wp
 simp only [execOp,hvx,hvy,hvu,Sem.run_bind,Sem.run_pure,hr,Result.andThen_ok]
 refine⟨e,?_⟩
 have m2:=m.turn (w':={ w with heap:=w.heap.setIfInBounds (e.β i) (.map es' clock') }) (b':=.map kd (mapSet kvs key n)) hH (by simp) rfl rfl rfl (fun _=>Nat.le_refl _) (fun c hc hne=>?_) rfl ⟨⟨es',clock',?_,hes'⟩,mapSet_pairs _ _ _ hkeys,fun p hp=>?_⟩
 ·exact m2
 ·have hne':e.β i≠c:=fun h=>hne (by simp [HB.owned,h])
  exact Array.getElem?_setIfInBounds_ne hne'
 ·show (w.heap.setIfInBounds (e.β i) (.map es' clock'))[e.β i]? = _
  simp [hlt]
 ·rcases mapSet_keys key n kvs p hp with h|h
  ·rw [h];exact⟨hok,hnwf⟩
  ·exact hwf p h
end
section
variable {Γ : Ctx} {k : Nat} {L : Sl} {H : Hp} {K : Next'} {ops : List Oper} {rest : List Oper} {t t' ty : TypeId} {x y : Operand} {q : Bool}
theorem ds_lookup {kd:Bool} {kvs:List (MK × Int)} {key:MK} {d:Nat} {pos:String} {af:Array Edge} {g:Option (Nat × Bool)} (T:MapT Γ.P t kd) (hx:lookAt H (opSV L x) kd kvs) (hy:keyC (opSV L y)=some key) (hkd:key.kd=kd) (hyo:opOkB y=true)
  (hw:wantedSV ops L g=some true) (hd:Nat.blt d Γ.n=true) (hk:DS q Γ ops rest K k ((d,.d (.int .i64 ((mapGet? kvs key).getD 0)))::L) H):DS q Γ ops (⟨some d,.lookup t x y false,ty,pos,af,g⟩::rest) K k L H :=
 ds_ev (ev_lookup T hx hy hkd hyo) hw hd hk
theorem ent_mapd {t i:Nat} {kd:Bool} {kvs:List (MK × Int)} {H':Hp} (hL:L.get t = .mp i) (hH:Hp.get H i=some (.map kd kvs)) (hD:delF H i some=some H'):Ent Γ k L H k ((t,.md kd kvs)::L) H':=by
 rw [delF_eq] at hD
 cases hD
 intro e a w m
 obtain⟨m2,hX⟩:=m.del i
 have hmem:=Hp.mem_of hH
 have hown:e.β i∈ownedL e H:=List.mem_filterMap.2 ⟨_,hmem,rfl⟩
 refine⟨e,m2.toHeap,m2.defers,m2.len,fun t'=>?_⟩
 rw [Sl.get_cons]
 split
 ·rename_i ht
  subst ht
  have hs:=m.slot t
  rw [hL] at hs
  refine⟨e.β i,hs.2,m.toHeap.lt _ hown,fun hx=>?_,(m.heap _ hmem).2⟩
  rcases hx with hx|hx
  ·exact (m.mine _ hown).2 hx
  ·obtain⟨p,hp,hpg⟩:=List.mem_filterMap.1 hx
   have hd:=Hp.del_mem (i:=i) H m.ids p hp
   exact m.owned_ne hd.1 hmem hd.2 hpg rfl
 ·exact m2.slot t'
theorem ds_mapNew (kd:Bool) {d:Nat} {pos:String} {af:Array Edge} {g:Option (Nat × Bool)} (hw:wantedSV ops L g=some true) (hd:Nat.blt d Γ.n=true)
  (hk:DS false Γ ops rest K (k + 1) ((d,.mp k)::L) ((k,.map kd [])::H)):DS false Γ ops (⟨some d,.makeMap t none,ty,pos,af,g⟩::rest) K k L H :=
 dl_op hw ((op_mapNew (lo_not k) hd).cast (with1_lo k)) hk
theorem ds_mapSet (i:Nat) {kd:Bool} {kvs:List (MK × Int)} {key:MK} {n:Int} {u:Operand} {H':Hp} {pos:String} {af:Array Edge} {g:Option (Nat × Bool)} (T:MapT Γ.P t kd) (hx:opSV L x = .mp i) (hH:Hp.get H i=some (.map kd kvs)) (hy:keyC (opSV L y)=some key) (hkd:key.kd=kd) (hyo:opOkB y=true)
  (hu:opSV L u = .d (.int .i64 n)) (huo:opOkB u=true) (hS:setF H i (.map kd (mapSet kvs key n)) some=some H') (hw:wantedSV ops L g=some true)
  (hk:DS false Γ ops rest K k L H'):DS false Γ ops (⟨none,.mapUpdate t x y u,ty,pos,af,g⟩::rest) K k L H:=by
 rw [setF_eq] at hS
 cases hS
 exact dl_op hw (op_mapSet T hx hH hy hkd hyo hu huo rfl) hk
end
end Go.Proofs.Ytapciiffpnociaa
