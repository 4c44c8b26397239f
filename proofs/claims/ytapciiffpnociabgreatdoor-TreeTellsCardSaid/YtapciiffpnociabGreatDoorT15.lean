/- Several texts in one: GxRow GxLaw TokIn GxTie ShJ TokJ TokK TokO TreT TokM TokS TokN TreU. Condition: none. -/
import Derived.Test.YtapciiffpnociabGreatDoorT08
import Derived.ProofKit
import Derived.SizedLaws
import Derived.Carry
import Derived.ChangeSame
import Derived.JoinedCond
import Derived.Deep.DeepWitnessRowRef
import Derived.LaidMore
import Derived.Shelf.Strings.OnBuilder
import Derived.Ground.Names2Prog
import Derived.Ground.SlgnProg
import Derived.Test.YtapciiffpnociabGreatDoorProg
import Derived.Test.YtapciiffpnociabGreatDoorT09
import Derived.Test.YtapciiffpnociabGreatDoorT10
import Derived.Test.YtapciiffpnociabGreatDoorT12
import Derived.Test.YtapciiffpnociabGreatDoorT14
namespace Go.Proofs.YtapciiffpnociabGreatDoor
open Go Go.RowKit
inductive RT where
 | bool
 | int (k:IntKind)
 | str
 | slice (cells bytes:Nat) (e:RT)
 | struct (fs:List RT)
mutual
def RT.size:RT→Nat
 | .struct fs=>RT.sizeL fs
 | .bool=>1
 | .int _=>1
 | .str=>1
 | .slice _ _ _=>1
def RT.sizeL:List RT→Nat
 | []=>0
 | r::rs=>r.size + RT.sizeL rs
end
mutual
def rtB (P:Program):RT→TypeId→Bool
 | .bool,t=>match P.underlying t with|some .bool=>true|_=>false
 | .int k,t=>match P.underlying t with|some (.int k')=>sameK k k'|_=>false
 | .str,t=>match P.underlying t with|some .string=>true|_=>false
 | .slice c b e,t=>match P.underlying t with
  | some (.slice te)=>Nat.beq (P.cellsOf te) c && (Nat.beq (P.bytesOf te) b && (Nat.blt 0 c && (Nat.beq e.size c && rtB P e te)))
  | _=>false
 | .struct fs,t=>match P.underlying t with
  | some (.struct fl)=>rtL P fs fl.toList 0 && Nat.beq (P.cellsOf t) (RT.sizeL fs)
  | _=>false
def rtL (P:Program):List RT→List Field→Nat→Bool
 | [],[],_=>true
 | r::rs,f::fl,o=>Nat.beq f.offset o && (Nat.beq (P.cellsOf f.type) r.size && (rtB P r f.type && rtL P rs fl (o + r.size)))
 | _,_,_=>false
end
mutual
def TyDR (R:Nat):RT→List D→Prop
 | .bool,xs=>∃ b,xs=[.bool b]
 | .int k,xs=>∃ n,(Lit.int k n).wf=true∧xs=[.int k n]
 | .str,xs=>∃ s:ByteArray,s.size≤R∧xs=[.str s]
 | .slice c b e,xs=>∃ l:List (List D),l.length * b≤R∧l.length≤maxLen∧xs=[.slice c l]∧∀ x∈l,TyDR R e x
 | .struct fs,xs=>TyFR R fs xs
def TyFR (R:Nat):List RT→List D→Prop
 | [],xs=>xs=[]
 | r::rs,xs=>∃ a b,xs=a++b∧TyDR R r a∧TyFR R rs b
end
section
variable {H : Type} {enc : TypeId × Value → H} {P : Program} {w : World} {R : Nat}
theorem cells?_spec {base:Nat} {a:Addr} {n:Nat} {vs:List Value} (h:w.cells? base a n=some vs):vs.length=n∧∀ j,j < n→∃ v,vs[j]? = some v∧w.cell? (a.add j)=some v:=by
 unfold World.cells? at h
 split at h
 ·have key:∀ (l:List Nat) (vs:List Value),(l.mapM fun i=>w.cell? (a.add i))=some vs→vs.length=l.length∧∀ (j i:Nat),l[j]? = some i→∃ v,vs[j]? = some v∧w.cell? (a.add i)=some v:=by
   intro l
   induction l with
   | nil=>intro vs h;simp at h;subst h;exact⟨rfl,fun j i hj=>by simp at hj⟩
   | cons x l ih =>
    intro vs h
    rw [List.mapM_cons] at h
    cases hx:w.cell? (a.add x) with
    | none=>simp [hx] at h
    | some v =>
     cases hl:(l.mapM fun i=>w.cell? (a.add i)) with
     | none=>simp [hx,hl] at h
     | some us =>
      simp [hx,hl] at h
      subst h
      obtain⟨h1,h2⟩:=ih us hl
      refine⟨by simp [h1],fun j i hj=>?_⟩
      cases j with
      | zero=>simp at hj;subst hj;exact⟨v,rfl,hx⟩
      | succ j=>simpa using h2 j i (by simpa using hj)
  obtain⟨h1,h2⟩:=key _ _ h
  exact⟨by simpa using h1,fun j hj=>h2 j j (by simp [hj])⟩
 ·cases h
theorem cell?_addr {a:Addr} {v:Value} (h:w.cell? a=some v):a.spot=none∧a.block < w.heap.size:=by
 unfold World.cell? at h
 split at h
 ·rename_i hb
  split at h
  ·cases h
  ·rename_i hs
   exact⟨by simpa using hs,(Array.getElem?_eq_some_iff.1 hb).1⟩
 ·cases h
theorem addr_00 (a:Addr):(a.add 0).add 0=a:=by simp [Go.Addr.add]
def RepL (w:World) (cs:List Value) (xs:List D):Prop:=cs.length=xs.length∧∀ (j:Nat) (u:Value),cs[j]? = some u→∃ x,xs[j]? = some x∧RepC (fun _=>False) w u x
theorem RepL.append {cs cs':List Value} {xs xs':List D} (h:RepL w cs xs) (h':RepL w cs' xs'):RepL w (cs++cs') (xs++xs'):=by
 obtain⟨h1,h2⟩:=h
 obtain⟨g1,g2⟩:=h'
 refine⟨by simp [h1,g1],fun j u hj=>?_⟩
 by_cases hlt:j < cs.length
 ·rw [List.getElem?_append_left hlt] at hj
  obtain⟨x,e1,e2⟩:=h2 j u hj
  exact⟨x,by rw [List.getElem?_append_left (by omega)];exact e1,e2⟩
 ·rw [List.getElem?_append_right (by omega)] at hj
  obtain⟨x,e1,e2⟩:=g2 _ u hj
  exact⟨x,by rw [List.getElem?_append_right (by omega),← h1];exact e1,e2⟩
theorem weightsAll_mem {e:TypeId}:∀ {l:List (DataW H)} {d:DataW H},d∈l→∀ n∈d.weights P e,n∈DataW.weightsAll P e l
 | [],_,h,_,_=>by simp at h
 | x::l,d,h,n,hn=>by
  simp only [DataW.weightsAll,List.mem_append]
  rcases List.mem_cons.1 h with rfl|h
  ·exact .inl hn
  ·exact .inr (weightsAll_mem h n hn)
mutual
theorem open_rt:∀ (r:RT) (t:TypeId) (fuel:Nat) (cs:List Value) (x:DataW H × List MemPlace),rtB P r t=true→DataW.trod enc P w 0 (fun _=>true) true fuel t cs=some x→(∀ n∈x.1.weights P t,n≤R) →
  ∃ xs,TyDR R r xs∧RepL w cs xs
 | .bool,t,fuel,cs,x,hb,h,_=>by
  have ht:P.underlying t=some .bool:=by
   unfold rtB at hb;split at hb <;> first|assumption|cases hb
  obtain⟨b,rfl,rfl⟩:=DataW.trod_bool ht h
  refine⟨[.bool b],⟨b,rfl⟩,rfl,fun j u hj=>?_⟩
  cases j with
  | zero=>simp at hj;subst hj;exact⟨_,rfl,.bool⟩
  | succ j=>simp at hj
 | .int k,t,fuel,cs,x,hb,h,_=>by
  have ht:P.underlying t=some (.int k):=by
   unfold rtB at hb
   split at hb
   ·rename_i k' hk;rw [hk,sameK_spec hb]
   ·cases hb
  obtain⟨n,rfl,rfl,hw⟩:=DataW.trod_int ht h
  refine⟨[.int k n],⟨n,hw,rfl⟩,rfl,fun j u hj=>?_⟩
  cases j with
  | zero=>simp at hj;subst hj;exact⟨_,rfl,.int hw⟩
  | succ j=>simp at hj
 | .str,t,fuel,cs,x,hb,h,hw=>by
  have ht:P.underlying t=some .string:=by
   unfold rtB at hb;split at hb <;> first|assumption|cases hb
  obtain⟨s,rfl,rfl,hs⟩:=DataW.trod_string ht h
  have hr:s.size≤R:=by
   have:=hw s.data.toList.length (by simp [DataW.weights])
   simpa using this
  refine⟨[.str s],⟨s,hr,rfl⟩,rfl,fun j u hj=>?_⟩
  cases j with
  | zero=>simp at hj;subst hj;exact⟨_,rfl,.str hs⟩
  | succ j=>simp at hj
 | .slice c b e,t,fuel,cs,x,hb,h,hw=>by
  obtain⟨te,ht,hc,hby,hpos,hes,hre⟩:∃ te,P.underlying t=some (.slice te)∧P.cellsOf te=c∧P.bytesOf te=b∧0 < c∧e.size=c∧rtB P e te=true:=by
   unfold rtB at hb
   split at hb
   ·rename_i te ht
    simp only [Bool.and_eq_true] at hb
    exact⟨te,ht,Nat.eq_of_beq_eq_true hb.1,Nat.eq_of_beq_eq_true hb.2.1,Nat.le_of_ble_eq_true hb.2.2.1,Nat.eq_of_beq_eq_true hb.2.2.2.1,hb.2.2.2.2⟩
   ·cases hb
  rcases DataW.trod_slice ht h with ⟨rfl,rfl⟩|⟨a,len,cap,elems,rest,n,_,rfl,rfl,_,hlc,hcm,hlen,hel,hsp,_⟩
  ·refine⟨[.slice c []],⟨[],by simp,by simp,rfl,by simp⟩,rfl,fun j u hj=>?_⟩
   cases j with
   | zero=>simp at hj;subst hj;exact⟨_,rfl,.nil⟩
   | succ j=>simp at hj
  ·obtain⟨hrl,hrest⟩:=hsp rfl
   have hcell0:∀ i,i < cap→∃ ci y,w.cells? 0 (a.add (i * c)) c=some ci∧DataW.trod enc P w 0 (fun _=>true) true n te ci=some y∧(∀ hi:i < len,elems[i]? = some y):=by
    intro i hi
    by_cases hil:i < len
    ·have h1:=hel i hil
     have h2:elems[i]? = some (elems[i]'(by omega)):=List.getElem?_eq_getElem (by omega)
     rw [hc,h2,Option.bind_eq_some_iff] at h1
     obtain⟨ci,g1,g2⟩:=h1
     exact⟨ci,_,g1,g2,fun _=>h2⟩
    ·have h1:=hrest (i - len) (by omega)
     have h2:rest[i - len]? = some (rest[i - len]'(by omega)):=List.getElem?_eq_getElem (by omega)
     rw [show len + (i - len)=i by omega,hc,h2,Option.bind_eq_some_iff] at h1
     obtain⟨ci,g1,g2⟩:=h1
     exact⟨ci,_,g1,g2,fun h=>absurd h hil⟩
   have hlist:∀ m,m≤len→∃ l:List (List D),l.length=m∧(∀ x∈l,TyDR R e x)∧∀ i (hi:i < m),∃ ci xi,w.cells? 0 (a.add (i * c)) c=some ci∧l[i]? = some xi∧RepL w ci xi:=by
    intro m
    induction m with
    | zero=>intro _;exact⟨[],rfl,by simp,fun i hi=>by omega⟩
    | succ m ih =>
     intro hm
     obtain⟨l,l1,l2,l3⟩:=ih (by omega)
     obtain⟨ci,y,g1,g2,g3⟩:=hcell0 m (by omega)
     have hy:=g3 (by omega)
     have hmem:y.1∈elems.map (·.1):=List.mem_map.2 ⟨y,List.mem_of_getElem? hy,rfl⟩
     obtain⟨xi,t1,t2⟩:=open_rt e te n ci y hre g2 fun k hk=>hw k (by
      simp only [DataW.weights,ht,List.mem_cons,List.mem_append]
      exact .inr (.inl (weightsAll_mem hmem k hk)))
     refine⟨l++[xi],by simp [l1],fun x hx=>?_,fun i hi=>?_⟩
     ·rcases List.mem_append.1 hx with hx|hx
      ·exact l2 x hx
      ·simp at hx;subst hx;exact t1
     ·by_cases him:i < m
      ·obtain⟨ci',xi',q1,q2,q3⟩:=l3 i him
       exact⟨ci',xi',q1,by rw [List.getElem?_append_left (by omega)];exact q2,q3⟩
      ·have:i=m:=by omega
       subst this
       exact⟨ci,xi,g1,by rw [List.getElem?_append_right (by omega),l1];simp,t2⟩
   obtain⟨l,l1,l2,l3⟩:=hlist len (Nat.le_refl _)
   have hwt:l.length * b≤R:=by
    have:=hw ((elems.length + rest.length) * P.bytesOf te) (by
     simp only [DataW.weights,ht,List.length_map,List.mem_cons,true_or])
    rw [hby] at this
    refine Nat.le_trans (Nat.mul_le_mul_right b ?_) this
    omega
   refine⟨[.slice c l],⟨l,hwt,by omega,rfl,l2⟩,rfl,fun j u hj=>?_⟩
   cases j with
   | succ j=>simp at hj
   | zero =>
    simp at hj
    subst hj
    refine⟨_,rfl,?_⟩
    by_cases hcap:cap=0
    ·have h0:len=0:=by omega
     subst hcap;subst h0
     have:l=[]:=List.eq_nil_of_length_eq_zero l1
     subst this
     exact .zero
    ·obtain⟨c0,y0,g1,_,_⟩:=hcell0 0 (by omega)
     obtain⟨v0,_,hv0⟩:=(cells?_spec g1).2 0 hpos
     rw [Nat.zero_mul,addr_00] at hv0
     obtain⟨s5,s2⟩:=cell?_addr hv0
     obtain⟨ab,ao,asp⟩:=a
     simp only at s5 s2
     subst s5
     have hl3:∀ i (hi:i < l.length),(l[i]'hi).length=c∧∀ j (hj:j < (l[i]'hi).length),∃ v,w.cell? ⟨ab,ao + i * c + j,none⟩=some v∧RepC (fun _=>False) w v ((l[i]'hi)[j]'hj):=by
      intro i hi
      obtain⟨ci,xi,q1,q2,q3,q4⟩:=l3 i (by omega)
      have hxi:l[i]'hi=xi:=by rw [List.getElem?_eq_getElem hi] at q2;exact Option.some.inj q2
      subst hxi
      obtain⟨r1,r2⟩:=cells?_spec q1
      refine⟨by omega,fun j hj=>?_⟩
      obtain⟨v,v1,v2⟩:=r2 j (by omega)
      obtain⟨xx,x1,x2⟩:=q4 j v v1
      rw [Addr.add_at,Addr.add_at] at v2
      have hxx:(l[i]'hi)[j]'hj=xx:=by rw [List.getElem?_eq_getElem hj] at x1;exact Option.some.inj x1
      exact⟨v,v2,hxx▸x2⟩
     refine .slice (fun i j=>(w.cell? ⟨ab,ao + i * c + j,none⟩).getD undef) l1.symm hlc hcm (fun h=>h) s2 (fun i hi=>(hl3 i hi).1) (fun i hi j hj=>?_) (fun i hi j hj=>?_)
     ·obtain⟨v,v1,_⟩:=(hl3 i hi).2 j hj
      rw [v1];rfl
     ·obtain⟨v,v1,v2⟩:=(hl3 i hi).2 j hj
      rw [v1];exact v2
 | .struct fs,t,fuel,cs,x,hb,h,hw=>by
  obtain⟨fl,ht,hf,hc⟩:∃ fl,P.underlying t=some (.struct fl)∧rtL P fs fl.toList 0=true∧P.cellsOf t=RT.sizeL fs:=by
   unfold rtB at hb
   split at hb
   ·rename_i fl ht
    simp only [Bool.and_eq_true] at hb
    exact⟨fl,ht,hb.1,Nat.eq_of_beq_eq_true hb.2⟩
   ·cases hb
  obtain⟨xs,n,_,rfl,hcl,hxl,hx⟩:=DataW.trod_struct ht h
  obtain⟨ys,y1,y2⟩:=open_rts fs fl.toList 0 n cs xs hf (fun i f hi=>hx i f (by simpa using hi)) (by simpa using hxl) (by rw [hcl,hc];omega) (fun k hk=>hw k (by
   simp only [DataW.weights,ht];exact hk))
  exact⟨ys,y1,by simpa using y2⟩
theorem open_rts:∀ (rs:List RT) (fl:List Field) (o n:Nat) (cs:List Value) (xs:List (DataW H × List MemPlace)),rtL P rs fl o=true →
  (∀ (i:Nat) (f:Field),fl[i]? = some f→DataW.trod enc P w 0 (fun _=>true) true n f.type ((cs.drop f.offset).take (P.cellsOf f.type))=xs[i]?)→xs.length=fl.length→cs.length=o + RT.sizeL rs →
  (∀ k∈DataW.weightsEach P (fl.map (·.type)) (xs.map (·.1)),k≤R)→∃ ys,TyFR R rs ys∧RepL w (cs.drop o) ys
 | [],fl,o,n,cs,xs,hb,_,_,hl,_=>by
  refine⟨[],rfl,?_,fun j u hj=>?_⟩
  ·simp [RT.sizeL] at hl ⊢;omega
  ·rw [List.drop_eq_nil_of_le (by simp [RT.sizeL] at hl;omega)] at hj;simp at hj
 | r::rs,[],o,n,cs,xs,hb,_,_,_,_=>by simp [rtL] at hb
 | r::rs,f::fl,o,n,cs,xs,hb,hx,hxl,hl,hw=>by
  simp only [rtL,Bool.and_eq_true] at hb
  obtain⟨b1,b2,b3,b4⟩:=hb
  have b1:=Nat.eq_of_beq_eq_true b1
  have b2:=Nat.eq_of_beq_eq_true b2
  cases xs with
  | nil=>simp at hxl
  | cons y ys =>
   have h0:=hx 0 f rfl
   simp only [List.getElem?_cons_zero] at h0
   rw [b1,b2] at h0
   simp only [RT.sizeL] at hl
   obtain⟨az,a1,a2⟩:=open_rt r f.type n _ y b3 h0 fun k hk=>hw k (by
    simp only [List.map_cons,DataW.weightsEach,List.mem_append]
    exact .inl hk)
   obtain⟨bs,c1,c2⟩:=open_rts rs fl (o + r.size) n cs ys b4 (fun i g hi=>by simpa using hx (i + 1) g (by simpa using hi)) (by simpa using hxl) (by omega) (fun k hk=>hw k (by
    simp only [List.map_cons,DataW.weightsEach,List.mem_append]
    exact .inr hk))
   refine⟨az++bs,⟨az,bs,rfl,a1,c1⟩,?_⟩
   have:=a2.append c2
   have hd:(cs.drop o).take r.size++cs.drop (o + r.size)=cs.drop o:=by
    rw [← List.drop_drop]
    exact List.take_append_drop _ _
   rw [hd] at this
   exact this
end
end
end Go.Proofs.YtapciiffpnociabGreatDoor
namespace Go.Proofs.YtapciiffpnociabGreatDoor
open Go Go.RowKit Go.ChangeShapes Go.WideShapes
def RT.arg:RT→List D→SV
 | .struct _,xs=>.agg (xs.map .d)
 | _,[x]=>.d x
 | _,_=>.junk
def ArgsDR (R:Nat):List RT→List SV→Prop
 | [],az=>az=[]
 | r::rs,az=>∃ xs l,az=r.arg xs::l∧TyDR R r xs∧ArgsDR R rs l
def rtsB (P:Program):List RT→List TypeId→Bool
 | [],[]=>true
 | r::rs,t::ts=>rtB P r t && rtsB P rs ts
 | _,_=>false
section
variable {H : Type} {enc : TypeId × Value → H} {P : Program} {R : Nat}
theorem repL_agg {W:World} {e:Env}:∀ (cs:List Value) (xs:List D),RepL W cs xs→RelL (fun _=>False) e W (xs.map .d) cs
 | [],[],_=>trivial
 | [],_::_,h=>by have:=h.1;simp at this
 | _::_,[],h=>by have:=h.1;simp at this
 | c::cs,x::xs,h=>by
  obtain⟨h1,h2⟩:=h
  refine⟨?_,repL_agg cs xs ⟨by simpa using h1,fun j u hj=>by simpa using h2 (j + 1) u (by simpa using hj)⟩⟩
  obtain⟨y,hy,hr⟩:=h2 0 c rfl
  simp at hy
  subst hy
  exact hr
theorem repL_one {W:World} {e:Env} {v:Value} {x:D} (h:RepL W [v] [x]):Rel (fun _=>False) e W (.d x) v:=by
 obtain⟨y,hy,hr⟩:=h.2 0 v rfl
 simp at hy
 subst hy
 exact hr
theorem rtB_bool {t:TypeId} (h:rtB P .bool t=true):P.underlying t=some .bool:=by
 unfold rtB at h;split at h <;> first|assumption|cases h
theorem rtB_str {t:TypeId} (h:rtB P .str t=true):P.underlying t=some .string:=by
 unfold rtB at h;split at h <;> first|assumption|cases h
theorem rtB_int {t:TypeId} {k:IntKind} (h:rtB P (.int k) t=true):P.underlying t=some (.int k):=by
 unfold rtB at h
 split at h
 ·rename_i k' hk;rw [hk,sameK_spec h]
 ·cases h
theorem rtB_slice {t:TypeId} {c b:Nat} {e:RT} (h:rtB P (.slice c b e) t=true):∃ te,P.underlying t=some (.slice te):=by
 unfold rtB at h
 split at h
 ·rename_i te ht;exact⟨te,ht⟩
 ·cases h
theorem rtB_struct {t:TypeId} {fs:List RT} (h:rtB P (.struct fs) t=true):∃ fl,P.underlying t=some (.struct fl):=by
 unfold rtB at h
 split at h
 ·rename_i te ht;exact⟨te,ht⟩
 ·cases h
theorem arg_open {W:World} {e:Env} {base:Nat}:∀ (r:RT) (t:TypeId) (v:Value) (d:DataW H) (ps:List MemPlace),rtB P r t=true→DataW.Trod enc P W 0 (fun _=>true) true t v d ps→Value.okWide P W .any base t v →
  (∀ n∈d.weights P t,n≤R)→∃ xs,TyDR R r xs∧Rel (fun _=>False) e W (r.arg xs) v:=by
 intro r t v d ps hb ⟨fuel,hd⟩ hok hw
 obtain⟨xs,h1,h2⟩:=open_rt r t fuel v.cells.toList (d,ps) hb hd hw
 refine⟨xs,h1,?_⟩
 cases r with
 | bool =>
  obtain⟨b,rfl⟩:=okWide_bool (rtB_bool hb) hok
  obtain⟨b',rfl⟩:=h1
  exact repL_one h2
 | int k =>
  obtain⟨b,rfl⟩:=okWide_int (rtB_int hb) hok
  obtain⟨b',_,rfl⟩:=h1
  exact repL_one h2
 | str =>
  obtain⟨b,rfl⟩:=okWide_string (rtB_str hb) hok
  obtain⟨b',_,rfl⟩:=h1
  exact repL_one h2
 | slice c b el =>
  obtain⟨te,ht⟩:=rtB_slice hb
  obtain⟨a,n,cap,rfl⟩:=okWide_slice ht hok
  obtain⟨l,_,_,rfl,_⟩:=h1
  exact repL_one h2
 | struct fs =>
  obtain⟨fl,ht⟩:=rtB_struct hb
  obtain⟨cs,rfl,_⟩:=okWide_struct ht hok
  exact⟨cs.toList,by simp,repL_agg _ _ h2⟩
theorem args_open {W:World} {e:Env} {base:Nat}:∀ (rs:List RT) (ts:List TypeId) (vs:List Value) (ds:List (DataW H)) (ps:List MemPlace),rtsB P rs ts=true→DataW.TrodAll enc P W 0 (fun _=>true) true ts vs ds ps →
  (∀ (j:Nat) t v,ts[j]? = some t→vs[j]? = some v→Value.okWide P W .any base t v)→(∀ n∈DataW.weightsEach P ts ds,n≤R)→∃ az,ArgsDR R rs az∧RelL (fun _=>False) e W az vs
 | [],[],vs,ds,ps,_,h,_,_=>by
  obtain⟨rfl,rfl,rfl⟩:=trodAll_nil h
  exact⟨[],rfl,trivial⟩
 | [],_::_,_,_,_,hb,_,_,_=>by simp [rtsB] at hb
 | _::_,[],_,_,_,hb,_,_,_=>by simp [rtsB] at hb
 | r::rs,t::ts,vs,ds,ps,hb,h,hok,hw=>by
  obtain⟨v,vs',d,ds',p,q,rfl,rfl,rfl,h1,h2⟩:=trodAll_cons h
  simp only [rtsB,Bool.and_eq_true] at hb
  simp only [DataW.weightsEach,List.mem_append] at hw
  obtain⟨xs,g1,g2⟩:=arg_open (e:=e) r t v d p hb.1 h1 (hok 0 t v rfl rfl) fun n hn=>hw n (.inl hn)
  obtain⟨az,g3,g4⟩:=args_open (e:=e) rs ts vs' ds' q hb.2 h2 (fun j t v ht hv=>hok (j + 1) t v (by simpa using ht) (by simpa using hv)) fun n hn=>hw n (.inr hn)
  exact⟨r.arg xs::az,⟨xs,az,rfl,g1,g3⟩,g2,g4⟩
def readB (P:Program) (ts:List TypeId):Bool:=ts.all fun t=>P.readableRec t && Nat.blt t P.types.size
theorem args_again {W W':World} {spare:Nat→Bool} (hl:laidOutB P=true) (hb:Below W.heap.size W W'):∀ (ts:List TypeId) (vs:List Value) (ds:List (DataW H)) (ps:List MemPlace),readB P ts=true →
  DataW.TrodAll enc P W 0 (fun _=>true) true ts vs ds ps→(∀ p∈ps,p.block < W.heap.size)→(∀ p∈ps,spare p.block=true)→DataW.TrodAll enc P W' 0 spare true ts vs ds ps
 | [],vs,ds,ps,_,h,_,_=>by
  obtain⟨rfl,rfl,rfl⟩:=trodAll_nil h
  rfl
 | t::ts,vs,ds,ps,hr,h,hlt,hsp=>by
  obtain⟨v,vs',d,ds',p,q,rfl,rfl,rfl,h1,h2⟩:=trodAll_cons h
  simp only [readB,List.all_cons,Bool.and_eq_true] at hr
  refine⟨p,q,?_,args_again hl hb ts vs' ds' q (by simpa [readB] using hr.2) h2 (fun x hx=>hlt x (List.mem_append_right _ hx)) (fun x hx=>hsp x (List.mem_append_right _ hx)),rfl⟩
  exact WideElems.Trod_stays hl hr.1.1 (Nat.le_of_ble_eq_true hr.1.2) h1 (fun x hx=>hb.same (hlt x (List.mem_append_left _ hx))) fun x hx=>hsp x (List.mem_append_left _ hx)
theorem law_post {f:Func} {s:ChangeSpec} {apart fresh handsOn:Bool} {W W':World} {args:Array Value} {ds gs:List (DataW H)} {before:List MemPlace} {tb:TypeId}
  (hv:s.vars=[]) (hW:DataW.Whole enc P f.params.toList s.vars apart W args.toList ds gs before) (hfn:gs=[]→s.fn H (ds++gs) = { results:=[.lit (.bool true)],args:=ds })
  (hres:f.resultTypes = #[tb]) (htb:P.underlying tb=some .bool) (hl:laidOutB P=true) (hr:readB P f.params.toList=true) (hb:Below W.heap.size W W') :
  s.post enc P f apart fresh handsOn false W args (.bool true) W':=by
 have hW0:=hW
 have hlt:=fun p hp=>hW.lt p hp
 obtain⟨p,q,hA,hV,rfl,hfz,hnd⟩:=hW
 rw [hv] at hV
 obtain⟨rfl,rfl⟩:=trodVars_none hV
 have hfn:=hfn rfl
 refine⟨ds,[],p++[],[],p,[],hW0,?_,?_,?_,hb.frame _,fun h=>by cases h⟩
 ·rw [hres,hfn]
  exact trodAll_mk1 (shut_bool htb true)
 ·rw [hfn]
  exact args_again hl hb _ _ _ _ hr hA (fun x hx=>hlt x (List.mem_append_left _ hx)) fun x hx=>by simpa using hlt x (List.mem_append_left _ hx)
 ·rw [hv,hfn]
  rfl
theorem ctxX_nil {τ τok} {e:Env} {W:World} {n J β0}:∀ b,Ctx.X ⟨P,τ,τok,fun _=>False,W,fun b=>b∈ownedL e [],n,J,β0,none,noPan,true,false⟩ e [] b→False:=by
 rintro b (h|h)
 ·exact h
 ·simp [ownedL] at h
theorem law_calls {τ:List (Nat × TI)} {τok:TabOk P τ} {f:FuncId} {rs:List RT} {ts:List TypeId} {args:Array Value} {ds:List (DataW H)} {ps:List MemPlace} {W:World} {base:Nat}
  (hc:∀ az,ArgsDR R rs az→FnP false P τ τok f az (fun r=>r = .d (.bool true))) (hb:rtsB P rs ts=true) (hA:DataW.TrodAll enc P W 0 (fun _=>true) true ts args.toList ds ps)
  (hok:∀ (j:Nat) t v,ts[j]? = some t→args.toList[j]? = some v→Value.okWide P W .any base t v) (hw:∀ n∈DataW.weightsEach P ts ds,n≤R) :
  Calls P f args W fun en W'=>en = .returned (.bool true)∧Below W.heap.size W W':=by
 let e:Env:=⟨fun _=>0,fun _=>undef,lo 0⟩
 obtain⟨az,h1,h2⟩:=args_open (e:=e) rs ts args.toList ds ps hb hA hok hw
 have hk:=(hc az h1).2 (fun _=>False) e W args.toList ?_ ?_
 ·rw [Array.toArray_toList] at hk
  refine Calls.mono hk ?_
  rintro en W' ⟨k',r,H',e',v,⟨rfl,_,rfl⟩,rfl,hH,hr⟩
  have hr':RepC _ W' v (.bool true):=hr
  cases hr'
  exact⟨rfl,⟨hH.os,hH.tape,hH.output,hH.size,fun b hb=>hH.block b hb (by simp [ownedL])⟩⟩
 ·exact { top:=fun _=>Iff.rfl,heap:=(fun p hp=>nomatch hp),ids:=.nil,nodup:=.nil,mine:=(fun b hb=>nomatch hb),os:=rfl,tape:=rfl,output:=rfl,drawn:=(fun _=>Nat.le_refl _),size:=Nat.le_refl _,block:=(fun _ _ _=>rfl),obound:=(fun _ h=>h.elim),jle:=(fun _ h=>nomatch h),anchor:=(fun _ h=>nomatch h) }
 ·exact RelL.keep (Nat.le_refl _) (fun _ _ _=>rfl) (fun b _ hy=>ctxX_nil b hy) _ _ h2
end
open Go Go.RowKit
end Go.Proofs.YtapciiffpnociabGreatDoor
namespace Go.Proofs.YtapciiffpnociabGreatDoor
open Go Go.RowKit Go.ChangeShapes Go.WideShapes
section
variable {H : Type} {enc : TypeId × Value → H} {R : Nat}
theorem law_lifted_row {C:Checked} {τ:List (Nat × TI)} {τok:TabOk C.prog τ} {os:Os} (started:os.Started) {f:FuncId} {fn:Func} {s:OpenSpec} {F:Stop.Interp} {conds:List PathCond} {apart fresh handsOn:Bool} {laid:List (String × DataW Unit)} {rs:List RT} {tb:TypeId}
  (own:ownKnob C.prog.godebug=none) (noInit:C.prog.inits.idxOf? f=none) (hfn:C.prog.funcs[f]? = some fn)
  (witness:∃ (w:World) (tape:Tape) (i:Input),w.os=os∧(w.forCall tape i).Shaped C.prog∧i.vars=[]∧Input.okWide C.prog (w.forCall tape i) .any w.heap.size f i ∧
   s.preRow enc C.prog fn conds apart laid (w.forCall tape i).memory i.args∧({}:Assume).holds C.prog (lone (Frame.enter C.prog f i.args .normal) [] (w.forCall tape i)))
  (hv:s.vars=[]) (hva:(s.at F).vars=[]) (hvt:s.bare.plain.varTypes C.prog=[]) (hs:∀ (ds:List (DataW H)),ds.length=fn.params.toList.length→(s.at F).fn H ds = { results:=[.lit (.bool true)],args:=ds })
  (hres:fn.resultTypes = #[tb]) (htb:C.prog.underlying tb=some .bool) (hl:laidOutB C.prog=true) (hr:readB C.prog fn.params.toList=true) (hb:rtsB C.prog rs fn.params.toList=true)
  (hkR:∀ ds:List (DataW H),(∀ k,s.cond=some k→k H ds=true)→(∀ n∈DataW.weightsEach C.prog fn.params.toList ds,n≤reachBytes)→∀ n∈DataW.weightsEach C.prog fn.params.toList ds,n≤R)
  (hc:∀ az,ArgsDR R rs az→FnP false C.prog τ τok f az (fun r=>r = .d (.bool true))) :
  ReturnsInHanded {} C os f .any (s.preRow enc C.prog fn conds apart laid) ((s.at F).post enc C.prog fn apart fresh handsOn false):=by
 refine returnsInHanded_of_row own started noInit hfn witness ?_
 intro W base args ds gs before hval hW _ hkk hwt _ _ _
 obtain⟨p,q,hA,hV,hpq,hfz,hnd⟩:=id hW
 rw [hv] at hV
 obtain⟨rfl,rfl⟩:=trodVars_none hV
 rw [hvt,List.append_nil,List.append_nil] at hwt
 simp only [List.append_nil] at hkk
 have hlen:∀ (ts:List TypeId) (vs:List Value) (ds:List (DataW H)) (ps:List MemPlace),DataW.TrodAll enc C.prog W 0 (fun _=>true) true ts vs ds ps→ds.length=ts.length:=by
  intro ts
  induction ts with
  | nil=>intro vs ds ps h;obtain⟨rfl,rfl,rfl⟩:=trodAll_nil h;rfl
  | cons t ts ih =>
   intro vs ds ps h
   obtain⟨v,vs',d,ds',p,q,rfl,rfl,rfl,h1,h2⟩:=trodAll_cons h
   simp [ih _ _ _ h2]
 refine (law_calls hc hb hA (fun j t v ht hv=>hval j t v (by simpa using ht) (by simpa using hv)) (hkR ds hkk fun n hn=>by simpa using List.all_eq_true.1 hwt n hn)).mono ?_
 rintro en W' ⟨rfl,hbl⟩
 rw [hv] at hW
 exact⟨_,rfl,law_post hva (by rw [hva];exact hW) (fun _=>by rw [List.append_nil];exact hs ds (hlen _ _ _ _ hA)) hres htb hl hr hbl⟩
end
end Go.Proofs.YtapciiffpnociabGreatDoor
namespace Go.Proofs
open Go.Shelf Go.RowKit
def Tryz.lays156_ren:Go.Shelf.Ren:=⟨fun|156=>47|165=>81|166=>21|169=>25|240=>50|241=>104|276=>85|277=>114|n=>n,fun|31=>70|9=>9|3=>3|4=>4|0=>0|20=>20|72=>56|76=>61|70=>53|37=>54|75=>60|127=>96|164=>117|5=>5|80=>66|n=>n,fun|n=>n⟩
theorem Tryz.lays156:Go.Proofs.Lays.n156 Tryz.prog Tryz.lays156_ren:={
 mixed:=by kernel_rfl
 f156:=Tryz.func47.trans (congrArg some (by kernel_rfl))
 f165:=Tryz.func81.trans (congrArg some (by kernel_rfl))
 f166:=Tryz.func21.trans (congrArg some (by kernel_rfl))
 f169:=Tryz.func25.trans (congrArg some (by kernel_rfl))
 f240:=Tryz.func50.trans (congrArg some (by kernel_rfl))
 f241:=Tryz.func104.trans (congrArg some (by kernel_rfl))
 f276:=Tryz.func85.trans (congrArg some (by kernel_rfl))
 f277:=Tryz.func114.trans (congrArg some (by kernel_rfl))
 t0:=Tryz.underlying0
 a0:=Tryz.isAgg0
 z0:=Tryz.sizeOf0
 v0:=Tryz.zeroValue0
 t3:=Tryz.underlying3
 a3:=Tryz.isAgg3
 z3:=Tryz.sizeOf3
 v3:=Tryz.zeroValue3
 t4:=Tryz.underlying4
 a4:=Tryz.isAgg4
 z4:=Tryz.sizeOf4
 v4:=Tryz.zeroValue4
 t9:=Tryz.underlying9
 a9:=Tryz.isAgg9
 z9:=Tryz.sizeOf9
 v9:=Tryz.zeroValue9
 t20:=Tryz.underlying20
 a20:=Tryz.isAgg20
 z20:=Tryz.sizeOf20
 v20:=Tryz.zeroValue20
 t31:=Tryz.underlying70
 a31:=Tryz.isAgg70
 z31:=Tryz.sizeOf70
 v31:=Tryz.zeroValue70
 t37:=Tryz.underlying54
 a37:=Tryz.isAgg54
 z37:=Tryz.sizeOf54
 v37:=Tryz.zeroValue54
 t70:=Tryz.underlying53
 a70:=Tryz.isAgg53
 z70:=Tryz.sizeOf53
 v70:=Tryz.zeroValue53
 t72:=Tryz.underlying56
 a72:=Tryz.isAgg56
 z72:=Tryz.sizeOf56
 v72:=Tryz.zeroValue56
 t75:=Tryz.underlying60
 a75:=Tryz.isAgg60
 z75:=Tryz.sizeOf60
 v75:=Tryz.zeroValue60
 t76:=Tryz.underlying61
 a76:=Tryz.isAgg61
 z76:=Tryz.sizeOf61
 v76:=Tryz.zeroValue61
 t127:=Tryz.underlying96
 a127:=Tryz.isAgg96
 z127:=Tryz.sizeOf96
 v127:=Tryz.zeroValue96
 t164:=Tryz.underlying117
 a164:=Tryz.isAgg117
 z164:=Tryz.sizeOf117
 v164:=Tryz.zeroValue117 }
theorem Tryz.Builder_Extra_156:Builder.Extra Tryz.prog Tryz.lays156_ren:={
 sizeBuilder:=by kernel_rfl
 liesBuilder:=by kernel_rfl
 t5:=Tryz.underlying5
 a5:=Tryz.isAgg5
 z5:=Tryz.sizeOf5
 v5:=Tryz.zeroValue5
 infoByte:=by kernel_rfl
 cellsByte:=by kernel_rfl
 sizeByte:=by kernel_rfl
 neB5:=by decide }
theorem Tryz.strings_Join_none (a:Option Addr) (c:Nat) (sep:ByteArray) (w:World) :
  Calls Tryz.prog 47 #[.slice a 0 c,.string sep] w fun e w'=>e = .returned (.string ⟨#[]⟩)∧w' = w:=Any.strings_Join_none Tryz.lays156 Tryz.Builder_Extra_156 a c sep w
theorem Tryz.strings_Join (bk o c:Nat) (xs:List ByteArray) (sep:ByteArray) (w:World) (hcells:∀ (j:Nat) x,xs[j]? = some x→w.cell? ⟨bk,o + j,none⟩=some (.string x)) (hbk:bk < w.heap.size) (hN:xs.length≤140737488355328) (hcap:xs.length≤c) (hlen:(Lib.join (xs.map (·.data.toList)) sep.data.toList).length≤140737488355328) :
  Calls Tryz.prog 47 #[.slice (some ⟨bk,o,none⟩) xs.length c,.string sep] w fun e w'=>e = .returned (.string ⟨(Lib.join (xs.map (·.data.toList)) sep.data.toList).toArray⟩)∧Below w.heap.size w w':=Any.strings_Join Tryz.lays156 Tryz.Builder_Extra_156 bk o c xs sep w hcells hbk hN hcap hlen
end Go.Proofs
namespace Go.Proofs.YtapciiffpnociabGreatDoor
open Go Go.RowKit
theorem fnp_of_calls {P:Program} {τ:List (Nat × TI)} {τok:TabOk P τ} {f:FuncId} {args:List SV} {R:SV→Prop} (hcall:callable P f=true)
  (h:∀ (X:Nat→Prop) (e:Env) (w:World) (vs:List Value),RelL X e w args vs→Calls P f vs.toArray w fun en w'=>∃ v r,en = .returned v∧R r∧r.low 0=true∧(∀ Y,Rel Y e w' r v)∧Below w.heap.size w w') :
  FnP false P τ τok f args R:=by
 refine⟨hcall,fun O e w vs hH hr=>(h _ e w vs hr).mono ?_⟩
 rintro en w' ⟨v,r,h1,h2,h3,h4,h5⟩
 refine⟨0,r,[],e,v,⟨rfl,h3,h2⟩,h1,?_,h4 _⟩
 exact { top:=hH.top,heap:=(fun p hp=>nomatch hp),ids:=.nil,nodup:=.nil,mine:=(fun b hb=>nomatch hb),os:=h5.os,tape:=h5.tape,output:=h5.output,drawn:=(fun h=>nomatch h),size:=h5.size,block:=(fun b hb _=>h5.block b hb),obound:=hH.obound,jle:=hH.jle,anchor:=hH.anchor }
def joinB (xs:List ByteArray) (sep:ByteArray):ByteArray:=⟨(Lib.join (xs.map (·.data.toList)) sep.data.toList).toArray⟩
def encStrs (xs:List ByteArray):List (List D):=xs.map fun t=>[D.str t]
theorem join_fn (xs:List ByteArray) (sep:ByteArray) (hN:xs.length≤140737488355328) (hlen:(joinB xs sep).size≤140737488355328) :
  Fn 47 [.d (.slice 1 (encStrs xs)),.d (.str sep)] (fun r=>r = .d (.str (joinB xs sep))):=by
 have hlen':(Lib.join (xs.map (·.data.toList)) sep.data.toList).length≤140737488355328:=by simpa [joinB,ByteArray.size] using hlen
 have hmax:(joinB xs sep).size≤maxLen:=Nat.le_trans hlen (by decide)
 refine fnp_of_calls (by kernel_rfl) fun X e w vs hr=>?_
 obtain⟨v1,v2,rfl,h1,h2⟩:∃ v1 v2,vs=[v1,v2]∧Rel X e w (.d (.slice 1 (encStrs xs))) v1∧Rel X e w (.d (.str sep)) v2:=by
  match vs,hr with
  | [v1,v2],⟨h1,h2,_⟩=>exact⟨v1,v2,rfl,h1,h2⟩
 cases h2
 change RepC X w v1 (.slice 1 (encStrs xs)) at h1
 generalize hq:encStrs xs=ys at h1
 cases h1 with
 | nil =>
  have hx:xs=[]:=by simpa [encStrs] using hq
  subst hx
  exact (Tryz.strings_Join_none none 0 sep w).mono fun en w' ⟨h3,h4⟩=>⟨_,_,h3,rfl,rfl,fun _=>.str hmax,h4▸Below.refl _ _⟩
 | zero =>
  have hx:xs=[]:=by simpa [encStrs] using hq
  subst hx
  exact (Tryz.strings_Join_none _ 0 sep w).mono fun en w' ⟨h3,h4⟩=>⟨_,_,h3,rfl,rfl,fun _=>.str hmax,h4▸Below.refl _ _⟩
 | slice c hn hc hm hX hb he hcell hrep =>
  rename_i b off n cap
  subst hq
  have hl:(encStrs xs).length=xs.length:=by simp [encStrs]
  rw [hl] at hn
  subst hn
  refine (Tryz.strings_Join b off cap xs sep w ?_ hb hN hc hlen').mono fun en w' ⟨h3,h4⟩=>⟨_,_,h3,rfl,rfl,fun _=>.str hmax,h4⟩
  intro j x hx
  obtain⟨hj,hx⟩:=List.getElem?_eq_some_iff.1 hx
  have hj':j < (encStrs xs).length:=by rw [hl];exact hj
  have hel:(encStrs xs)[j]=[D.str x]:=by simp [encStrs,hx]
  have g1:=hcell j hj' 0 (by rw [hel];exact Nat.one_pos)
  have g2:=hrep j hj' 0 (by rw [hel];exact Nat.one_pos)
  simp only [hel] at g2
  rw [show off + j=off + j * 1 + 0 by omega,g1]
  change RepC X w (c j 0) (.str x) at g2
  generalize c j 0=u at g2
  cases g2
  rfl
attribute [local irreducible] DW DS DL DQ Ev FnOk FnP thenD inBlockD DT
def joinW:List Tok→Nat
 | []=>0
 | t::l=>1 + t.text.size + joinW l
def joinS (l:List Tok):ByteArray × Int:=if l.all tokOk then (if 5001 < joinW l then (⟨#[]⟩,2) else (joinB (l.map (·.text)) ⟨#[32]⟩,0)) else (⟨#[]⟩,1)
def encJoin (q:ByteArray × Int):SV:=.tup [.d (.str q.1),.d (.int .i64 q.2)]
theorem oneS_small {kind s} (h:oneS kind s=true):s.size≤5000:=by
 apply Decidable.byContradiction
 intro hn
 unfold oneS at h
 rw [scanS_big s (by omega)] at h
 cases h
theorem joinW_app:∀ (l m:List Tok),joinW (l++m)=joinW l + joinW m
 | [],_=>by simp [joinW]
 | t::l,m=>by simp only [List.cons_append,joinW,joinW_app l m];omega
theorem joinW_le:∀ (l:List Tok),l.all tokOk=true→joinW l≤5001 * l.length
 | [],_=>Nat.le_refl _
 | t::l,h=>by
  simp only [List.all_cons,Bool.and_eq_true] at h
  have h1:=oneS_small h.1
  have h2:=joinW_le l h.2
  simp only [joinW,List.length_cons]
  omega
theorem take_snoc {α:Type} (l:List α) (i:Nat) (h:i < l.length):l.take (i + 1)=l.take i++[l[i]]:=by
 rw [List.take_add_one];simp [h]
theorem joinTail_len (sep:List UInt8):∀ (r:List ByteArray),(Lib.joinTail sep (r.map (·.data.toList))).length=(r.map fun x=>sep.length + x.size).sum
 | []=>rfl
 | x::r=>by
  have ih:=joinTail_len sep r
  have e:Lib.joinTail sep ((x::r).map (·.data.toList))=(sep++x.data.toList)++Lib.joinTail sep (r.map (·.data.toList)):=rfl
  have e2:x.data.toList.length=x.size:=Array.length_toList
  rw [e,List.length_append,List.length_append,ih,e2,List.map_cons,List.sum_cons]
theorem joinW_sum:∀ (l:List Tok),joinW l=((l.map (·.text)).map fun x=>1 + x.size).sum
 | []=>rfl
 | t::l=>by simp only [joinW,List.map_cons,List.sum_cons,joinW_sum l]
theorem joinB_size (l:List Tok):(joinB (l.map (·.text)) ⟨#[32]⟩).size≤joinW l:=by
 cases l with
 | nil=>exact Nat.le_refl _
 | cons t l =>
  have h:=joinTail_len [32] (l.map (·.text))
  have h2:=joinW_sum l
  have e2:t.text.data.toList.length=t.text.size:=Array.length_toList
  have e3:(joinB ((t::l).map (·.text)) ⟨#[32]⟩).size=(Lib.join (((t::l).map (·.text)).map (·.data.toList)) [32]).length:=by
   unfold joinB
   exact List.size_toArray
  rw [e3,List.map_cons,List.map_cons,Lib.join_cons,List.length_append,h,e2,joinW,h2]
  show t.text.size + ((l.map (·.text)).map fun x=>1 + x.size).sum≤_
  omega
set_option maxHeartbeats 8000000 in
theorem tjoin_fn (l:List Tok) (hl:l.length≤4398046511104):Fn 19 [.d (encToks l)] (fun r=>r=encJoin (joinS l)):=by
 refine fnp_enter' _ Tryz.func19 rfl rfl (by kernel_rfl) ?_
 intro O w0 E0 β0
 unfold encToks
 repeat' (first|refine z0 ?_|apply ds_nil|apply dw_seq2|refine z16 ?_|apply dw_block|apply thenD_n)
 refine dw_nilrow (t:=4) 9 1 rfl ?_
 refine ds_loop (ι:=Nat) (fun i=>⟨1,[(4,.row 0),(5,.d (.int .i64 (joinW (l.take i)))),(8,.d (.slice 3 (l.map encTok))),(9,.d (.int .i64 l.length)),(10,.d (.int .i64 i))],[(0,.row 9 1 ((l.take i).map fun t=>[D.str t.text]))]⟩)
  (fun i=>i≤l.length∧(l.take i).all tokOk=true) (fun i=>l.length - i) 0 ⟨Nat.zero_le _,rfl⟩
  (ent_ren id ⟨rfl,rfl,rfl,by simp;rfl,rfl,trivial⟩ ⟨rfl,trivial⟩ rfl rfl rfl rfl rfl rfl) ?_
 rintro i ⟨h1,h2⟩
 have hw:=joinW_le _ h2
 have hl2:(l.take i).length≤l.length:=List.length_take_le' ..
 repeat' (first|refine z0 ?_|apply ds_nil|apply dw_seq2|refine z16 ?_|apply thenD_n)
 refine dw_condP rfl (fun h=>?_) (fun h=>?_)
 ·have hi:i < l.length:=by omega
  have hsn:=take_snoc l i hi
  repeat' (first|refine z0 ?_|apply ds_nil|apply dw_seq2|refine z16 ?_|apply dw_block|apply dw_skip|apply thenD_n|refine z21 ?_ (hc:=by apply one_fn)|refine z1 ?_|refine z3 ?_|fail)
  refine dw_cond rfl (fun hb=>?_) (fun hb=>?_)
  ·repeat' (first|refine z0 ?_|apply ds_nil|apply dw_seq2|refine z16 ?_|apply dw_ret|apply thenD_n|apply thenD_r|apply inB_r)
   have hbad:l.all tokOk=false:=by
    rw [List.all_eq_false]
    exact⟨l[i],List.getElem_mem hi,by unfold tokOk;simpa using hb⟩
   unfold joinS
   rw [if_neg (by rw [hbad];exact Bool.false_ne_true)]
   exact ret_2 rfl ⟨rfl,rfl⟩
  ·have hok:oneS l[i].kind l[i].text=true:=by simpa using hb
   have hsm:=oneS_small hok
   repeat' (first|refine z0 ?_|apply ds_nil|apply dw_seq2|refine z16 ?_|apply dw_skip|apply thenD_n|apply inB_n|refine z4 ?_|refine z2 ?_|fail)
   have he:joinW (l.take (i + 1))=joinW (l.take i) + (1 + l[i].text.size):=by rw [hsn,joinW_app];simp [joinW]
   refine⟨i + 1,⟨hi,?_⟩,?_,?_⟩
   ·rw [hsn,List.all_append,h2];simpa [tokOk] using hok
   ·rw [he,hsn,List.map_append]
    exact ent_ren (fun _=>2) ⟨rfl,rfl,rfl,rfl,rfl,trivial⟩ ⟨rfl,trivial⟩ rfl rfl rfl rfl rfl rfl
   ·omega
 ·have hil:i=l.length:=by omega
  subst hil
  rw [List.take_length] at h2 hw
  rw [show joinW (l.take l.length)=joinW l by rw [List.take_length],show (l.take l.length)=l by rw [List.take_length]]
  repeat' (first|refine z0 ?_|apply ds_nil|apply dw_seq2|refine z16 ?_|apply dw_exit|apply thenD_n|apply thenD_e|refine z17 ?_|fail)
  refine dw_seal 4 rfl rfl ?_
  refine dw_condP rfl (fun hbig=>?_) (fun hbig=>?_)
  ·repeat' (first|refine z0 ?_|apply ds_nil|apply dw_seq2|refine z16 ?_|apply dw_ret|apply thenD_n|apply thenD_r)
   unfold joinS
   rw [if_pos h2,if_pos (by omega)]
   exact ret_2 rfl ⟨rfl,rfl⟩
  ·have hj:=join_fn (l.map (·.text)) ⟨#[32]⟩ (by rw [List.length_map];omega) (by have:=joinB_size l;omega)
   rw [show encStrs (l.map (·.text))=l.map (fun t=>[D.str t.text]) by unfold encStrs;rw [List.map_map];rfl] at hj
   repeat' (first|refine z0 ?_|apply ds_nil|apply dw_seq2|refine z16 ?_|apply dw_skip|apply dw_ret|apply thenD_n|refine z21 ?_ (hc:=by apply hj)|fail)
   unfold joinS
   rw [if_pos h2,if_neg (by omega)]
   exact ret_2 rfl ⟨rfl,rfl⟩
theorem same_refl (t:Tok) (k:Int):Tok.same false t ⟨t.kind,k,t.text⟩=true:=by
 unfold Tok.same
 simp
def textsOf:List Tok→List UInt8
 | []=>[]
 | [t]=>t.text.data.toList
 | t::l=>t.text.data.toList++32::textsOf l
theorem textsOf_cons2 (t t':Tok) (l:List Tok):textsOf (t::t'::l)=t.text.data.toList++32::textsOf (t'::l):=by
 rw [textsOf]
 simp
theorem joinTail_cons (sep x:List UInt8) (r:List (List UInt8)):Lib.joinTail sep (x::r)=sep++x++Lib.joinTail sep r:=by
 simp [Lib.joinTail]
theorem join_texts:∀ (l:List Tok),(joinB (l.map (·.text)) ⟨#[32]⟩).data.toList=textsOf l
 | []=>rfl
 | [t]=>by simp [joinB,textsOf,Lib.join_one]
 | t::t'::l=>by
  have ih:=join_texts (t'::l)
  rw [textsOf_cons2,← ih]
  simp only [joinB,List.map_cons]
  show Lib.join (t.text.data.toList::t'.text.data.toList::_) [32]=t.text.data.toList++32::Lib.join (t'.text.data.toList::_) [32]
  rw [Lib.join_cons,Lib.join_cons,joinTail_cons]
  simp
theorem sameAll_nn {α:Type} (p:α→α→Bool):sameAll p [] []=true:=by kernel_rfl
theorem sameAll_nc {α:Type} (p:α→α→Bool) (y:α) (ys:List α):sameAll p [] (y::ys)=false:=by kernel_rfl
theorem sameAll_cn {α:Type} (p:α→α→Bool) (x:α) (xs:List α):sameAll p (x::xs) []=false:=by kernel_rfl
theorem sameAll_cc {α:Type} (p:α→α→Bool) (x y:α) (xs ys:List α):sameAll p (x::xs) (y::ys)=(p x y && sameAll p xs ys):=by kernel_rfl
theorem scan_texts (s:ByteArray):∀ (l:List Tok) (i:Nat),l.all tokOk=true→s.data.toList.drop i=textsOf l→∃ m,scanAt s false i = .ok m∧sameAll (Tok.same false) l m=true
 | [],i,_,hd=>by
  have:=drop_size s i
  rw [hd] at this
  exact⟨[],scanAt_end s false i (by simp [textsOf] at this;omega),sameAll_nn _⟩
 | [t],i,hok,hd=>by
  obtain⟨h0,h1,h2,h3⟩:=ok_parts (all_cons' hok).1
  obtain⟨l0,hl0⟩:=first_byte t.text h0
  have hd':s.data.toList.drop i=t.text.data.toList:=hd
  have hs:=drop_size s i
  rw [hd',show t.text.data.toList.length=t.text.size from Array.length_toList] at hs
  have hi:i < s.size:=by omega
  have hb:=byte_of_drop s i hi _ _ (hd'.trans hl0)
  have:=scan_one s i t.kind t.text.size hi (by rw [hd'];exact h2) (by rw [hb];exact h3)
  rw [scanAt_end s false (i + t.text.size) (by omega)] at this
  refine⟨_,this,?_⟩
  have hx:s.extract i (i + t.text.size)=t.text:=bytes_inj (by rw [ext_list,hd'];exact List.take_of_length_le (Nat.le_of_eq (Array.length_toList (xs:=t.text.data))))
  rw [hx]
  rw [sameAll_cc,same_refl,Bool.true_and]
  exact sameAll_nn _
 | t::t'::l,i,hok,hd=>by
  obtain⟨hok1,hok2⟩:=all_cons' hok
  obtain⟨h0,h1,h2,h3⟩:=ok_parts hok1
  obtain⟨l0,hl0⟩:=first_byte t.text h0
  rw [textsOf_cons2] at hd
  have hlen:t.text.data.toList.length=t.text.size:=Array.length_toList
  have hs:=drop_size s i
  rw [hd,List.length_append,hlen,List.length_cons] at hs
  have hi:i < s.size:=by omega
  have hb:=byte_of_drop s i hi _ (l0++32::textsOf (t'::l)) (by rw [hd,hl0];rfl)
  have hne:t.text.data.toList≠[]:=by rw [hl0];exact List.cons_ne_nil _ _
  have hta:=tokAt_app t.text.data.toList t.kind hne (by rw [h2,hlen]) (textsOf (t'::l))
  rw [hlen] at hta
  have h5:=scan_one s i t.kind t.text.size hi (by rw [hd];exact hta) (by rw [hb];exact h3)
  have hd2:=drop_append_right s i _ _ hd
  rw [hlen] at hd2
  have hi2:i + t.text.size < s.size:=by omega
  have hb2:=byte_of_drop s _ hi2 _ _ hd2
  have h6:=scanAt_blank s (i + t.text.size) hi2 (by rw [hb2];rfl) (by rw [hb2];rfl)
  have hd3:s.data.toList.drop (i + t.text.size + 1)=textsOf (t'::l):=by
   rw [← List.drop_drop,hd2];rfl
  obtain⟨m,hm,hsame⟩:=scan_texts s (t'::l) (i + t.text.size + 1) hok2 hd3
  rw [h6,hm] at h5
  refine⟨_,h5,?_⟩
  have hx:s.extract i (i + t.text.size)=t.text:=bytes_inj (by rw [ext_list,hd,← hlen];exact List.take_left)
  rw [hx]
  show sameAll (Tok.same false) (t::t'::l) (_::m)=true
  rw [sameAll_cc,same_refl,Bool.true_and]
  exact hsame
theorem joinS_ok {l:List Tok} {t:ByteArray} (h:joinS l=(t,0)):l.all tokOk=true∧joinW l≤5001∧t=joinB (l.map (·.text)) ⟨#[32]⟩:=by
 unfold joinS at h
 split at h
 ·split at h
  ·injection h with h1 h2;cases h2
  ·injection h with h1 h2
   exact⟨by assumption,by omega,h1.symm⟩
 ·injection h with h1 h2;cases h2
theorem joinTail_total:∀ (l:List Tok),(textsOf l).length + 1≤joinW l∨l=[]
 | []=>.inr rfl
 | [t]=>.inl (by
  have:t.text.data.toList.length=t.text.size:=Array.length_toList
  simp only [textsOf,joinW,this];omega)
 | t::t'::l=>.inl (by
  have ih:=joinTail_total (t'::l)
  have:t.text.data.toList.length=t.text.size:=Array.length_toList
  rw [textsOf_cons2,List.length_append,List.length_cons,this]
  rw [show joinW (t::t'::l)=1 + t.text.size + joinW (t'::l) from rfl]
  rcases ih with ih|ih
  ·omega
  ·cases ih)
theorem back_join {l:List Tok} {t:ByteArray} (h:joinS l=(t,0)):∃ m,scanS t=(m,0,0)∧sameAll (Tok.same false) l m=true:=by
 obtain⟨h1,h2,h3⟩:=joinS_ok h
 have hd:t.data.toList.drop 0=textsOf l:=by rw [List.drop_zero,h3];exact join_texts l
 obtain⟨m,hm,hs⟩:=scan_texts t l 0 h1 hd
 have hsz:t.size≤5000:=by
  have e:t.size=(textsOf l).length:=by rw [← hd,List.drop_zero];exact (Array.length_toList).symm
  rcases joinTail_total l with h4|h4
  ·rw [e];omega
  ·rw [e,h4];simp [textsOf]
 exact⟨m,scanS_ok t (by omega) m hm,hs⟩
def stripL (x:TLt):TLt:=⟨x.kind,0,x.op,x.name,x.terms⟩
def stripR (r:TRu):TRu:=⟨0,r.name,r.terms,r.fold,r.body.map stripL⟩
structure SameTk (l m:List Tok):Prop where
 len:l.length=m.length
 at':∀ i:Nat,(l[i]?).map (fun t:Tok=>(t.kind,t.text))=(m[i]?).map (fun t:Tok=>(t.kind,t.text))
theorem sameTk_of:∀ {l m:List Tok},sameAll (Tok.same false) l m=true→SameTk l m
 | [],[],_=>⟨rfl,fun _=>rfl⟩
 | [],_::_,h=>by rw [sameAll_nc] at h;cases h
 | _::_,[],h=>by rw [sameAll_cn] at h;cases h
 | x::xs,y::ys,h=>by
  rw [sameAll_cc] at h
  rw [Bool.and_eq_true] at h
  have ih:=sameTk_of h.2
  have hx:=h.1
  unfold Tok.same at hx
  simp only [Bool.and_eq_true,decide_eq_true_eq] at hx
  refine⟨by simp [ih.len],fun i=>?_⟩
  cases i with
  | zero=>simp [hx.1.1,hx.1.2]
  | succ i=>simpa using ih.at' i
variable {l m : List Tok} (h : SameTk l m)
include h
theorem seesT_tk:seesT l=seesT m:=by
 funext i s
 have:=h.at' i
 unfold seesT
 cases h1:l[i]? <;> cases h2:m[i]? <;> simp_all
theorem nameT_tk:nameT l=nameT m:=by
 funext i
 have:=h.at' i
 unfold nameT
 cases h1:l[i]? <;> cases h2:m[i]? <;> simp_all
theorem isTestT_tk:isTestT l=isTestT m:=by
 funext i
 have:=h.at' i
 unfold isTestT
 cases h1:l[i]? <;> cases h2:m[i]? <;> simp_all
theorem termT_tk:termT l=termT m:=by
 funext i
 unfold termT
 rw [seesT_tk h]
 cases seesT m i ⟨#[45]⟩ with
 | true =>
  dsimp only
  have:=h.at' (i + 1)
  cases h1:l[i + 1]? <;> cases h2:m[i + 1]? <;> simp_all
 | false =>
  dsimp only
  have:=h.at' i
  cases h1:l[i]? <;> cases h2:m[i]? <;> simp_all
theorem firstT_tk:firstT l=firstT m:=by
 funext i ws
 induction ws with
 | nil=>rfl
 | cons w ws ih =>
  funext n
  unfold firstT
  rw [seesT_tk h,ih]
theorem firstQ_tk:firstQ l=firstQ m:=by
 funext ws j q
 unfold firstQ
 rw [firstT_tk h]
theorem foldT_tk:foldT l=foldT m:=by
 funext a b c
 unfold foldT
 rw [firstT_tk h]
theorem termsGo_tk:termsGo l=termsGo m:=by
 funext head n
 induction n with
 | zero=>rfl
 | succ n ih =>
  funext i acc
  rw [termsGo_succ,termsGo_succ,termT_tk h,foldT_tk h,seesT_tk h,ih]
theorem termsT_tk:termsT l=termsT m:=by
 funext i head
 unfold termsT
 rw [seesT_tk h,termsGo_tk h,h.len]
theorem testT_tk:testT l=testT m:=by
 funext i
 unfold testT
 rw [termT_tk h,firstQ_tk h,seesT_tk h]
def mapL (p:PR TLt):PR TLt:=p.map fun q=>(stripL q.1,q.2)
theorem litT_tk (e e':Int) (i:Nat):mapL (litT l e i)=mapL (litT m e' i):=by
 unfold litT
 rw [seesT_tk h,nameT_tk h,isTestT_tk h,testT_tk h,termsT_tk h]
 cases seesT m i ⟨#[110,111,116]⟩ with
 | true =>
  dsimp only
  cases nameT m (i + 1) with
  | error k=>rfl
  | ok p =>
   obtain⟨s,k⟩:=p
   dsimp only
   cases termsT m k false with
   | error k=>rfl
   | ok p=>rfl
 | false =>
  dsimp only
  cases isTestT m i with
  | true =>
   dsimp only
   cases testT m i with
   | error k=>rfl
   | ok p=>rfl
  | false =>
   dsimp only
   cases nameT m i with
   | error k=>rfl
   | ok p =>
    obtain⟨s,k⟩:=p
    dsimp only
    cases termsT m k false with
    | error k=>rfl
    | ok p=>rfl
def mapLs (p:PR (List TLt)):PR (List TLt):=p.map fun q=>(q.1.map stripL,q.2)
theorem litsGo_tk (e e':Int):∀ (n i:Nat) (a b:List TLt),a.map stripL=b.map stripL→mapLs (litsGo l e n i a)=mapLs (litsGo m e' n i b)
 | 0,_,_,_,_=>rfl
 | n + 1,i,a,b,hab=>by
  rw [litsGo_succ,litsGo_succ]
  have hl:=litT_tk h e e' i
  cases h1:litT l e i with
  | error k =>
   rw [h1] at hl
   cases h2:litT m e' i with
   | error k'=>rw [h2] at hl;injection hl with hl;subst hl;rfl
   | ok q=>rw [h2] at hl;cases hl
  | ok p =>
   rw [h1] at hl
   cases h2:litT m e' i with
   | error k'=>rw [h2] at hl;cases hl
   | ok q =>
    rw [h2] at hl
    obtain⟨x,k⟩:=p
    obtain⟨y,k'⟩:=q
    injection hl with hl
    injection hl with hx hk
    dsimp only at hx hk ⊢
    subst hk
    have hab':(a++[x]).map stripL=(b++[y]).map stripL:=by rw [List.map_append,List.map_append,hab,List.map_singleton,List.map_singleton,hx]
    rw [seesT_tk h]
    split
    ·exact litsGo_tk e e' n (k + 1) _ _ hab'
    ·show Except.ok ((a++[x]).map stripL,k)=Except.ok ((b++[y]).map stripL,k)
     rw [hab']
def mapR (p:PR TRu):PR TRu:=p.map fun q=>(stripR q.1,q.2)
theorem ruleT_tk (e e':Int) (i:Nat):mapR (ruleT l e i)=mapR (ruleT m e' i):=by
 unfold ruleT
 rw [seesT_tk h,nameT_tk h,termsT_tk h,h.len]
 cases nameT m i with
 | error k=>rfl
 | ok p =>
  obtain⟨s,k⟩:=p
  dsimp only
  cases termsT m k true with
  | error k=>rfl
  | ok p =>
   obtain⟨⟨ts,f⟩,j⟩:=p
   dsimp only
   split
   ·rfl
   ·split
    ·have hl:=litsGo_tk h e e' (m.length + 1) (j + 1) [] [] rfl
     cases h1:litsGo l e (m.length + 1) (j + 1) [] with
     | error k =>
      rw [h1] at hl
      cases h2:litsGo m e' (m.length + 1) (j + 1) [] with
      | error k'=>rw [h2] at hl;injection hl with hl;subst hl;rfl
      | ok q=>rw [h2] at hl;cases hl
     | ok p =>
      rw [h1] at hl
      cases h2:litsGo m e' (m.length + 1) (j + 1) [] with
      | error k'=>rw [h2] at hl;cases hl
      | ok q =>
       rw [h2] at hl
       obtain⟨x,k⟩:=p
       obtain⟨y,k'⟩:=q
       injection hl with hl
       injection hl with hx hk
       dsimp only at hx hk ⊢
       subst hk
       split
       ·show Except.ok _=Except.ok _
        unfold stripR
        dsimp only
        rw [hx]
       ·rfl
    ·rfl
def mapRs (p:Except Nat (List TRu)):Except Nat (List TRu):=p.map fun q=>q.map stripR
theorem rulesGo_tk (e e':Int):∀ (n i:Nat) (a b:List TRu),a.map stripR=b.map stripR→mapRs (rulesGo l e n i a)=mapRs (rulesGo m e' n i b)
 | 0,_,a,b,hab=>by show Except.ok (a.map stripR)=Except.ok (b.map stripR);rw [hab]
 | n + 1,i,a,b,hab=>by
  rw [rulesGo_succ,rulesGo_succ,h.len]
  split
  ·have hl:=ruleT_tk h e e' i
   cases h1:ruleT l e i with
   | error k =>
    rw [h1] at hl
    cases h2:ruleT m e' i with
    | error k'=>rw [h2] at hl;injection hl with hl;subst hl;rfl
    | ok q=>rw [h2] at hl;cases hl
   | ok p =>
    rw [h1] at hl
    cases h2:ruleT m e' i with
    | error k'=>rw [h2] at hl;cases hl
    | ok q =>
     rw [h2] at hl
     obtain⟨x,k⟩:=p
     obtain⟨y,k'⟩:=q
     injection hl with hl
     injection hl with hx hk
     dsimp only at hx hk ⊢
     subst hk
     exact rulesGo_tk e e' n k _ _ (by rw [List.map_append,List.map_append,hab,List.map_singleton,List.map_singleton,hx])
  ·show Except.ok (a.map stripR)=Except.ok (b.map stripR)
   rw [hab]
omit h
theorem tlOk_strip (x:TLt):tlOk (stripL x)=tlOk x:=rfl
theorem all_map' {α β:Type} (f:α→β) (p:β→Bool) (q:α→Bool) (hp:∀ x,p (f x)=q x):∀ l:List α,(l.map f).all p=l.all q
 | []=>rfl
 | a::l=>by rw [List.map_cons,List.all_cons,List.all_cons,hp,all_map' f p q hp l]
theorem any_map' {α β:Type} (f:α→β) (p:β→Bool) (q:α→Bool) (hp:∀ x,p (f x)=q x):∀ l:List α,(l.map f).any p=l.any q
 | []=>rfl
 | a::l=>by rw [List.map_cons,List.any_cons,List.any_cons,hp,any_map' f p q hp l]
theorem truOk_strip (r:TRu):truOk (stripR r)=truOk r:=by
 unfold truOk stripR
 dsimp only
 rw [all_map' stripL tlOk tlOk tlOk_strip]
 have:(decide (r.body.map stripL≠[]))=decide (r.body≠[]):=by
  apply decide_eq_decide.2
  rw [ne_eq,List.map_eq_nil_iff]
 rw [this]
theorem muchT_strip (r:TRu):muchT (stripR r)=muchT r:=by
 unfold muchT stripR
 dsimp only
 rw [List.length_map,any_map' stripL _ (fun x=>decide (3 < x.terms.length)) (fun x=>rfl)]
theorem checkT_strip (rs:List TRu):checkT (rs.map stripR)=checkT rs:=by
 unfold checkT
 rw [List.length_map,all_map' stripR truOk truOk truOk_strip,any_map' stripR muchT muchT muchT_strip]
theorem sameTTms_refl (l:List TTm):sameL sameTTm l l=true:=sameL_refl (fun x=>by unfold sameTTm;simp) l
theorem sameTLt_strip {x y:TLt} (h:stripL x=stripL y):sameTLt false x y=true:=by
 unfold stripL at h
 injection h with h1 h2 h3 h4 h5
 unfold sameTLt
 rw [h1,h3,h4,h5,sameTTms_refl]
 simp
theorem sameL_strip {α β:Type} {f:α→β} {p:α→α→Bool} (hp:∀ x y,f x=f y→p x y=true):∀ {a b:List α},a.map f=b.map f→sameL p a b=true
 | [],[],_=>rfl
 | [],_::_,h=>by cases h
 | _::_,[],h=>by cases h
 | x::a,y::b,h=>by
  rw [List.map_cons,List.map_cons] at h
  injection h with h1 h2
  unfold sameL
  rw [hp x y h1,sameL_strip hp h2]
  rfl
theorem sameTRu_strip {x y:TRu} (h:stripR x=stripR y):sameTRu false x y=true:=by
 unfold stripR at h
 injection h with h1 h2 h3 h4 h5
 unfold sameTRu
 rw [h2,h3,h4,sameTTms_refl,sameL_strip (fun x y=>sameTLt_strip) h5]
 simp
theorem parse_tk {s t:ByteArray} {l m:List Tok} {p q:Int} (h1:scanS s=(l,p,0)) (h2:scanS t=(m,q,0)) (h:SameTk l m):(parseS s).2.2=(parseS t).2.2∧sameL (sameTRu false) (parseS s).1 (parseS t).1=true:=by
 unfold parseS
 rw [h1,h2]
 dsimp only
 rw [if_neg (by simp),if_neg (by simp)]
 have hr:=rulesGo_tk h s.size t.size (l.length + 1) 0 [] [] rfl
 rw [← h.len]
 cases e1:rulesGo l s.size (l.length + 1) 0 [] with
 | error k =>
  rw [e1] at hr
  cases e2:rulesGo m t.size (l.length + 1) 0 [] with
  | error k'=>exact⟨rfl,rfl⟩
  | ok q=>rw [e2] at hr;cases hr
 | ok a =>
  rw [e1] at hr
  cases e2:rulesGo m t.size (l.length + 1) 0 [] with
  | error k'=>rw [e2] at hr;cases hr
  | ok b =>
   rw [e2] at hr
   injection hr with hr
   have hr:a.map stripR=b.map stripR:=hr
   have hc:checkT a=checkT b:=by rw [← checkT_strip a,hr,checkT_strip]
   dsimp only
   rw [hc]
   split
   ·exact⟨rfl,sameL_strip (fun x y=>sameTRu_strip) hr⟩
   ·exact⟨rfl,rfl⟩


def begunText:ByteArray:=⟨#[97,98,32,60,61,32,55,46,37,120]⟩
def begunToks:List Tok:=[⟨1,0,⟨#[97,98]⟩⟩,⟨4,3,⟨#[60,61]⟩⟩,⟨3,6,⟨#[55]⟩⟩,⟨4,7,⟨#[46]⟩⟩]
theorem begun_scan:scanS begunText=(begunToks,0,0):=by kernel_rfl
theorem begun_join:joinS begunToks=(⟨#[97,98,32,60,61,32,55,32,46]⟩,0):=by kernel_rfl
set_option maxHeartbeats 8000000 in
theorem begun_fn:Fn 16 [] (fun r=>r = .d (.bool true)):=by
 refine fnp_enter' _ Tryz.func16 rfl rfl (by kernel_rfl) ?_
 intro O w0 E0 β0
 have h1:=scan_fn begunText
 have h2:=tjoin_fn begunToks (by decide)
 rw [begun_scan] at h1
 rw [begun_join] at h2
 unfold encScan at h1
 unfold encJoin at h2
 unfold encToks begunToks at h1 h2
 unfold begunText at h1
 dsimp only at h1 h2
 repeat' (first|refine z0 ?_|apply ds_nil|apply dw_seq2|refine z16 ?_|apply dw_ret|apply thenD_n|refine z21 ?_ (hc:=by apply h1)|refine z21 ?_ (hc:=by apply h2)|fail)
 all_goals exact ret_b rfl (by decide)
theorem parse_ok {s:ByteArray} (h:(parseS s).2.2=0):checkT (parseS s).1=0:=by
 unfold parseS at h ⊢
 obtain⟨⟨l,p,er⟩,hq⟩:∃ q,q=scanS s:=⟨_,rfl⟩
 rw [← hq] at h ⊢
 dsimp only at h ⊢
 by_cases he:er=0
 ·rw [if_neg (fun h=>h he)] at h ⊢
  cases hr:rulesGo l s.size (l.length + 1) 0 [] with
  | error j=>rw [hr] at h;cases h
  | ok rs =>
   rw [hr] at h
   dsimp only at h ⊢
   by_cases hc:checkT rs=0
   ·rw [if_pos hc];exact hc
   ·rw [if_neg hc] at h;exact absurd h hc
 ·rw [if_pos he] at h;exact absurd h he
theorem parse_err {s:ByteArray} {l:List Tok} {p er:Int} (h:scanS s=(l,p,er)) (he:er≠0):parseS s=([],p,er):=by
 unfold parseS
 rw [h]
 dsimp only
 rw [if_pos he]
set_option maxHeartbeats 8000000 in
theorem treeTells_fn (s:ByteArray):Fn 5 [.d (.str s)] (fun r=>r = .d (.bool true)):=by
 refine fnp_enter' _ Tryz.func5 rfl rfl (by kernel_rfl) ?_
 intro O w0 E0 β0
 have h1:=treeBegun_fn
 have h2:=begun_fn
 have h3:=tparse_fn s
 have h5:=scan_fn s
 have hok:=parse_ok (s:=s)
 obtain⟨⟨l,p,er⟩,hq⟩:∃ q,q=scanS s:=⟨_,rfl⟩
 obtain⟨⟨rs,at_,e⟩,hp⟩:∃ q,q=parseS s:=⟨_,rfl⟩
 rw [← hq] at h5
 rw [← hp] at h3 hok
 unfold encScan at h5
 unfold encParse at h3
 dsimp only at h3 h5 hok
 have h4:=tcheck_fn rs
 by_cases he:er=0
 ·subst he
  obtain⟨hc,hs,hp0⟩:=scanS_chain s l p hq.symm
  have hlen:=chain_lenT l 0 hc (Nat.zero_le _)
  have h6:=tjoin_fn l (by omega)
  obtain⟨⟨t,f⟩,hj⟩:∃ q,q=joinS l:=⟨_,rfl⟩
  rw [← hj] at h6
  unfold encJoin at h6
  dsimp only at h6
  by_cases hf:f=0
  ·subst hf
   obtain⟨m,hm,hsame⟩:=back_join hj.symm
   have hpt:=parse_tk hq.symm hm (sameTk_of hsame)
   rw [← hp] at hpt
   have h7:=tparse_fn t
   obtain⟨⟨us,bt,g⟩,hu⟩:∃ q,q=parseS t:=⟨_,rfl⟩
   rw [← hu] at h7 hpt
   unfold encParse at h7
   dsimp only at h7 hpt
   obtain⟨rfl,hst⟩:=hpt
   have h8:=sameTree_fn rs us false
   rw [hst] at h8
   by_cases he0:e=0
   ·rw [hok he0] at h4
    repeat' (first|refine z0 ?_|refine z12 ?_|apply ds_nil|apply dw_seq2|refine z16 ?_|apply dw_skip|apply dw_ret|refine z19 ?_|apply thenD_n|refine z21 ?_ (hc:=by apply h1)|refine z21 ?_ (hc:=by apply h2)|refine z21 ?_ (hc:=by apply h3)|refine z21 ?_ (hc:=by apply h4)|refine z21 ?_ (hc:=by apply h5)|refine z21 ?_ (hc:=by apply h6)|refine z21 ?_ (hc:=by apply h7)|refine z21 ?_ (hc:=by apply h8)|refine z1 ?_|refine z3 ?_|((fail_if_success (apply ds_known;exact rfl));apply ds_guardP;exact rfl;exact rfl;exact rfl;all_goals intro hg))
    all_goals try (exfalso;omega)
    all_goals first|exact ret_b rfl rfl
   ·repeat' (first|refine z0 ?_|refine z12 ?_|apply ds_nil|apply dw_seq2|refine z16 ?_|apply dw_skip|apply dw_ret|refine z19 ?_|apply thenD_n|apply thenD_r|refine z21 ?_ (hc:=by apply h1)|refine z21 ?_ (hc:=by apply h2)|refine z21 ?_ (hc:=by apply h3)|refine z21 ?_ (hc:=by apply h4)|refine z21 ?_ (hc:=by apply h5)|refine z21 ?_ (hc:=by apply h6)|refine z21 ?_ (hc:=by apply h7)|refine z21 ?_ (hc:=by apply h8)|refine z1 ?_|refine z3 ?_|(refine z23 ?_ ?_ <;> intro hg)|((fail_if_success (apply ds_known;exact rfl));apply ds_guardP;exact rfl;exact rfl;exact rfl;all_goals intro hg))
    all_goals try (exfalso;omega)
    all_goals first|exact ret_b rfl rfl
  ·by_cases he0:e=0
   ·rw [hok he0] at h4
    repeat' (first|refine z0 ?_|refine z12 ?_|apply ds_nil|apply dw_seq2|refine z16 ?_|apply dw_skip|apply dw_ret|refine z19 ?_|apply thenD_n|apply thenD_r|refine z21 ?_ (hc:=by apply h1)|refine z21 ?_ (hc:=by apply h2)|refine z21 ?_ (hc:=by apply h3)|refine z21 ?_ (hc:=by apply h4)|refine z21 ?_ (hc:=by apply h5)|refine z21 ?_ (hc:=by apply h6)|refine z1 ?_|refine z3 ?_|(refine z23 ?_ ?_ <;> intro hg)|((fail_if_success (apply ds_known;exact rfl));apply ds_guardP;exact rfl;exact rfl;exact rfl;all_goals intro hg))
    all_goals try (exfalso;omega)
    all_goals first|exact ret_b rfl rfl
   ·repeat' (first|refine z0 ?_|refine z12 ?_|apply ds_nil|apply dw_seq2|refine z16 ?_|apply dw_skip|apply dw_ret|refine z19 ?_|apply thenD_n|apply thenD_r|refine z21 ?_ (hc:=by apply h1)|refine z21 ?_ (hc:=by apply h2)|refine z21 ?_ (hc:=by apply h3)|refine z21 ?_ (hc:=by apply h4)|refine z21 ?_ (hc:=by apply h5)|refine z21 ?_ (hc:=by apply h6)|refine z1 ?_|refine z3 ?_|(refine z23 ?_ ?_ <;> intro hg)|((fail_if_success (apply ds_known;exact rfl));apply ds_guardP;exact rfl;exact rfl;exact rfl;all_goals intro hg))
    all_goals try (exfalso;omega)
    all_goals first|exact ret_b rfl rfl
 ·have:=parse_err hq.symm he
  rw [← hp] at this
  injection this with e1 e2
  injection e2 with e2 e3
  subst e1 e2 e3
  repeat' (first|refine z0 ?_|refine z12 ?_|apply ds_nil|apply dw_seq2|refine z16 ?_|apply dw_skip|apply dw_ret|refine z19 ?_|apply thenD_n|apply thenD_r|refine z21 ?_ (hc:=by apply h1)|refine z21 ?_ (hc:=by apply h2)|refine z21 ?_ (hc:=by apply h3)|refine z21 ?_ (hc:=by apply h4)|refine z21 ?_ (hc:=by apply h5)|refine z1 ?_|refine z3 ?_|(refine z23 ?_ ?_ <;> intro hg)|((fail_if_success (apply ds_known;exact rfl));apply ds_guardP;exact rfl;exact rfl;exact rfl;all_goals intro hg))
  all_goals try (exfalso;omega)
  all_goals first|exact ret_b rfl (by simp)
end Go.Proofs.YtapciiffpnociabGreatDoor
