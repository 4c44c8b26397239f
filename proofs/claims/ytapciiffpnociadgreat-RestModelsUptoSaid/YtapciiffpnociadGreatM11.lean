/- Several texts in one: GxRow GxLaw GxSrt RelS GxWin. Condition: none. -/
import Derived.Test.YtapciiffpnociadGreatM07
import Derived.ProofKit
import Derived.SizedLaws
import Derived.Carry
import Derived.ChangeSame
import Derived.JoinedCond
import Derived.Shelf.SlSortCmp.NoneTotal
import Derived.Test.YtapciiffpnociadGreatM10
set_option linter.all false
open Array renaming getElem?_eq_getElem→Dy,getElem?_modify→Ea,getElem?_toList→Ce,length_toList→A4,toArray_toList→Gm
open Bool renaming and_eq_true→Ad
open List renaming append_nil→B0,eq_nil_of_length_eq_zero→Bm,ext_getElem?→Dz,flatten_cons→C7,getElem?_append_left→Bi,getElem?_append_right→A8,getElem?_drop→Fb,getElem?_eq_getElem→Ab,getElem?_eq_none→Ba,getElem?_take→Br,getElem_cons_zero→Dl,length_cons→Bn,length_drop→B9,length_map→Aa,length_take→Au,map_cons→A7,map_nil→Dh,map_toArray→Ee,mem_append→Bq,mem_append_left→A0,mem_append_right→B7,mem_cons→Be,mem_of_mem_drop→Bv,mem_of_mem_take→B1,replicate→An,take_append_drop→Dx
open Nat renaming add_mul→B4,beq→Aw,blt→As,div_lt_of_lt_mul→Ey,eq_of_beq_eq_true→Aj,eq_zero_or_pos→Gz,le_of_ble_eq_true→Ac,le_of_eq→F4,le_refl→Af,le_trans→Ar,lt_of_lt_of_le→Aq,mod_lt→E8,mul_comm→G3,mul_le_mul_right→Bc,not_lt_zero→A6,pos_of_ne_zero→Gy,zero_add→Da,zero_le→Ai,zero_mul→F3
open Option renaming bind_eq_some_iff→D4
namespace Go.Proofs.YtapciiffpnociadGreat
section
open Go Go.RowKit
variable [Bnds]
inductive RT where
 | bool
 | int (k:IntKind)
 | str
 | slice (cells bytes:Nat) (e:RT)
 | struct (fs:List RT)
mutual
def RT.size:RT->Nat
 | .struct fs=>RT.sizeL fs
 | .bool=>1
 | .int _=>1
 | .str=>1
 | .slice _ _ _=>1
def RT.sizeL:List RT->Nat
 | []=>0
 | r::rs=>r.size+RT.sizeL rs
end
mutual
def rtB (P:Program):RT->TypeId->Bool
 | .bool,t=>match P.underlying t with|some .bool=>true|_=>false
 | .int k,t=>match P.underlying t with|some (.int k')=>sameK k k'|_=>false
 | .str,t=>match P.underlying t with|some .string=>true|_=>false
 | .slice c b e,t=>match P.underlying t with
  | some (.slice te)=>Aw (P.cellsOf te) c && (Aw (P.bytesOf te) b && (As 0 c && (Aw e.size c && rtB P e te)))
  | _=>false
 | .struct fs,t=>match P.underlying t with
  | some (.struct fl)=>rtL P fs fl.toList 0 && Aw (P.cellsOf t) (RT.sizeL fs)
  | _=>false
def rtL (P:Program):List RT->List Field->Nat->Bool
 | [],[],_=>true
 | r::rs,f::fl,o=>Aw f.offset o && (Aw (P.cellsOf f.type) r.size && (rtB P r f.type && rtL P rs fl (o+r.size)))
 | _,_,_=>false
end
mutual
def vn (R:Nat):RT->List D->Prop
 | .bool,xs=>∃ b,xs=[.bool b]
 | .int k,xs=>∃ n,(Lit.int k n).wf=true/\xs=[.int k n]
 | .str,xs=>∃ s:ByteArray,s.size<=R/\xs=[.str s]
 | .slice c b e,xs=>∃ l:List (List D),l.length*b<=R/\l.length<=maxLen/\xs=[.slice c l]/\∀ x∈l,vn R e x
 | .struct fs,xs=>TyFR R fs xs
def TyFR (R:Nat):List RT->List D->Prop
 | [],xs=>xs=[]
 | r::rs,xs=>∃ a b,xs=a++b/\vn R r a/\TyFR R rs b
end
section
variable {H : Type} {enc : TypeId×Value -> H} {P : Program} {w : World} {R : Nat}
theorem cells?_spec {base:Nat} {a:Addr} {n:Nat} {vs:List Value} (h:w.cells? base a n=some vs):vs.length=n/\∀ j,j<n->∃ v,vs[j]?=some v/\w.cell? (a.add j)=some v:=by
 unfold World.cells? at h;split at h
 ·have key:∀ (l:List Nat) (vs:List Value),(l.mapM λi=>w.cell? (a.add i))=some vs->vs.length=l.length/\∀ (j i:Nat),l[j]?=some i->∃ v,vs[j]?=some v/\w.cell? (a.add i)=some v:=by
   intro l;induction l with
   | nil=>intro vs h;simp at h;subst h;exact⟨rfl,λj i hj=>by simp at hj⟩
   | cons x l ih =>
    intro vs h;rw [List.mapM_cons] at h;cases hx:w.cell? (a.add x) with
    | none=>simp [hx] at h
    | some v =>
     cases hl:(l.mapM λi=>w.cell? (a.add i)) with
     | none=>simp [hx,hl] at h
     | some us =>
      simp [hx,hl] at h;subst h;obtain⟨h1,h2⟩:=ih us hl;refine⟨by simp [h1],λj i hj=>?_⟩
      cases j with
      | zero=>simp at hj;subst hj;exact⟨v,rfl,hx⟩
      | succ j=>simpa using h2 j i (by simpa using hj)
  obtain⟨h1,h2⟩:=key _ _ h;exact⟨by simpa using h1,λj hj=>h2 j j (by simp [hj])⟩
 ·cases h
theorem cell?_addr {a:Addr} {v:Value} (h:w.cell? a=some v):a.spot=none/\a.block<w.heap.size:=by
 unfold World.cell? at h;split at h
 ·rename_i hb;split at h
  ·cases h
  ·rename_i hs;exact⟨by simpa using hs,(Array.getElem?_eq_some_iff.1 hb).1⟩
 ·cases h
theorem addr_00 (a:Addr):(a.add 0).add 0=a:=by simp [Go.Addr.add]
def RepL (w:World) (cs:List Value) (xs:List D):Prop:=cs.length=xs.length/\∀ (j:Nat) (u:Value),cs[j]?=some u->∃ x,xs[j]?=some x/\RepC (λ_=>False) w u x
theorem RepL.append {cs cs':List Value} {xs xs':List D} (h:RepL w cs xs) (h':RepL w cs' xs'):RepL w (cs++cs') (xs++xs'):=by
 obtain⟨h1,h2⟩:=h;obtain⟨g1,g2⟩:=h';refine⟨by simp [h1,g1],λj u hj=>?_⟩
 by_cases hlt:j<cs.length
 ·rw [Bi hlt] at hj;obtain⟨x,e1,e2⟩:=h2 j u hj;exact⟨x,by rw [Bi (by omega)];exact e1,e2⟩
 ·rw [A8 (by omega)] at hj;obtain⟨x,e1,e2⟩:=g2 _ u hj;exact⟨x,by rw [A8 (by omega),<- h1];exact e1,e2⟩
theorem vr {e:TypeId}:∀ {l:List (DataW H)} {d:DataW H},d∈l->∀ n∈d.weights P e,n∈DataW.weightsAll P e l
 | [],_,h,_,_=>by simp at h
 | x::l,d,h,n,hn=>by
  simp only [DataW.weightsAll,Bq]
  rcases List.mem_cons.1 h with rfl|h
  ·exact .inl hn
  ·exact .inr (vr h n hn)
mutual
theorem open_rt (hFw:w.heap.size<=Bnds.F):∀ (r:RT) (t:TypeId) (fuel:Nat) (cs:List Value) (x:DataW H×List MemPlace),rtB P r t=true->DataW.trod enc P w 0 (λ_=>true) true fuel t cs=some x->(∀ n∈x.1.weights P t,n<=R) ->
  ∃ xs,vn R r xs/\RepL w cs xs
 | .bool,t,fuel,cs,x,hb,h,_=>by
  have ht:P.underlying t=some .bool:=by
   unfold rtB at hb;split at hb<;>first|assumption|cases hb
  obtain⟨b,rfl,rfl⟩:=DataW.trod_bool ht h;refine⟨[.bool b],⟨b,rfl⟩,rfl,λj u hj=>?_⟩
  cases j with
  | zero=>simp at hj;subst hj;exact⟨_,rfl,.bool⟩
  | succ j=>simp at hj
 | .int k,t,fuel,cs,x,hb,h,_=>by
  have ht:P.underlying t=some (.int k):=by
   unfold rtB at hb;split at hb
   ·rename_i k' hk;rw [hk,lz hb]
   ·cases hb
  obtain⟨n,rfl,rfl,hw⟩:=DataW.trod_int ht h;refine⟨[.int k n],⟨n,hw,rfl⟩,rfl,λj u hj=>?_⟩
  cases j with
  | zero=>simp at hj;subst hj;exact⟨_,rfl,.int hw⟩
  | succ j=>simp at hj
 | .str,t,fuel,cs,x,hb,h,hw=>by
  have ht:P.underlying t=some .string:=by
   unfold rtB at hb;split at hb<;>first|assumption|cases hb
  obtain⟨s,rfl,rfl,hs⟩:=DataW.trod_string ht h;have hr:s.size<=R:=by
   have:=hw s.data.toList.length (by simp [DataW.weights])
   simpa using this
  refine⟨[.str s],⟨s,hr,rfl⟩,rfl,λj u hj=>?_⟩
  cases j with
  | zero=>simp at hj;subst hj;exact⟨_,rfl,.str hs⟩
  | succ j=>simp at hj
 | .slice c b e,t,fuel,cs,x,hb,h,hw=>by
  obtain⟨te,ht,hc,hby,hpos,hes,hre⟩:∃ te,P.underlying t=some (.slice te)/\P.cellsOf te=c/\P.bytesOf te=b/\0<c/\e.size=c/\rtB P e te=true:=by
   unfold rtB at hb;split at hb
   ·rename_i te ht;simp only [Ad] at hb;exact⟨te,ht,Aj hb.1,Aj hb.2.1,Ac hb.2.2.1,Aj hb.2.2.2.1,hb.2.2.2.2⟩
   ·cases hb
  rcases DataW.trod_slice ht h with ⟨rfl,rfl⟩|⟨a,len,cap,elems,rest,n,_,rfl,rfl,_,hlc,hcm,hlen,hel,hsp,_⟩
  ·refine⟨[.slice c []],⟨[],by simp,by simp,rfl,by simp⟩,rfl,λj u hj=>?_⟩
   cases j with
   | zero=>simp at hj;subst hj;exact⟨_,rfl,.nil⟩
   | succ j=>simp at hj
  ·obtain⟨hrl,hrest⟩:=hsp rfl;have hcell0:∀ i,i<cap->∃ ci y,w.cells? 0 (a.add (i*c)) c=some ci/\DataW.trod enc P w 0 (λ_=>true) true n te ci=some y/\(∀ hi:i<len,elems[i]?=some y):=by
    intro i hi;by_cases hil:i<len
    ·have h1:=hel i hil;have h2:elems[i]?=some (elems[i]'(by omega)):=Ab (by omega);rw [hc,h2,D4] at h1;obtain⟨ci,g1,g2⟩:=h1;exact⟨ci,_,g1,g2,λ_=>h2⟩
    ·have h1:=hrest (i-len) (by omega);have h2:rest[i-len]?=some (rest[i-len]'(by omega)):=Ab (by omega);rw [show len+(i-len)=i by omega,hc,h2,D4] at h1;obtain⟨ci,g1,g2⟩:=h1;exact⟨ci,_,g1,g2,λh=>absurd h hil⟩
   have hlist:∀ m,m<=len->∃ l:List (List D),l.length=m/\(∀ x∈l,vn R e x)/\∀ i (hi:i<m),∃ ci xi,w.cells? 0 (a.add (i*c)) c=some ci/\l[i]?=some xi/\RepL w ci xi:=by
    intro m;induction m with
    | zero=>intro _;exact⟨[],rfl,by simp,λi hi=>by omega⟩
    | succ m ih =>
     intro hm;obtain⟨l,l1,l2,l3⟩:=ih (by omega);obtain⟨ci,y,g1,g2,g3⟩:=hcell0 m (by omega);have hy:=g3 (by omega);have hmem:y.1∈elems.map (·.1):=List.mem_map.2 ⟨y,List.mem_of_getElem? hy,rfl⟩;obtain⟨xi,t1,t2⟩:=open_rt hFw e te n ci y hre g2 λk hk=>hw k (by
      simp only [DataW.weights,ht,Be,Bq];exact .inr (.inl (vr hmem k hk)))
     refine⟨l++[xi],by simp [l1],λx hx=>?_,λi hi=>?_⟩
     ·rcases List.mem_append.1 hx with hx|hx
      ·exact l2 x hx
      ·simp at hx;subst hx;exact t1
     ·by_cases him:i<m
      ·obtain⟨ci',xi',q1,q2,q3⟩:=l3 i him;exact⟨ci',xi',q1,by rw [Bi (by omega)];exact q2,q3⟩
      ·have:i=m:=by omega
       subst this;exact⟨ci,xi,g1,by rw [A8 (by omega),l1];simp,t2⟩
   obtain⟨l,l1,l2,l3⟩:=hlist len (Af _);have hwt:l.length*b<=R:=by
    have:=hw ((elems.length+rest.length)*P.bytesOf te) (by
     simp only [DataW.weights,ht,Aa,Be,true_or])
    rw [hby] at this;refine Ar (Bc b ?_) this;omega
   refine⟨[.slice c l],⟨l,hwt,by omega,rfl,l2⟩,rfl,λj u hj=>?_⟩
   cases j with
   | succ j=>simp at hj
   | zero =>
    simp at hj;subst hj;refine⟨_,rfl,?_⟩
    by_cases hcap:cap=0
    ·have h0:len=0:=by omega
     subst hcap;subst h0;have:l=[]:=Bm l1
     subst this;exact .zero
    ·obtain⟨c0,y0,g1,_,_⟩:=hcell0 0 (by omega);obtain⟨v0,_,hv0⟩:=(cells?_spec g1).2 0 hpos;rw [F3,addr_00] at hv0;obtain⟨s5,s2⟩:=cell?_addr hv0;obtain⟨ab,ao,asp⟩:=a;simp only at s5 s2;subst s5;have hl3:∀ i (hi:i<l.length),(l[i]'hi).length=c/\∀ j (hj:j<(l[i]'hi).length),∃ v,w.cell? ⟨ab,ao+i*c+j,none⟩=some v/\RepC (λ_=>False) w v ((l[i]'hi)[j]'hj):=by
      intro i hi;obtain⟨ci,xi,q1,q2,q3,q4⟩:=l3 i (by omega);have hxi:l[i]'hi=xi:=by rw [Ab hi] at q2;exact Option.some.inj q2
      subst hxi;obtain⟨r1,r2⟩:=cells?_spec q1;refine⟨by omega,λj hj=>?_⟩
      obtain⟨v,v1,v2⟩:=r2 j (by omega);obtain⟨xx,x1,x2⟩:=q4 j v v1;rw [Addr.add_at,Addr.add_at] at v2;have hxx:(l[i]'hi)[j]'hj=xx:=by rw [Ab hj] at x1;exact Option.some.inj x1
      exact⟨v,v2,hxx▸x2⟩
     refine RepC.slice (X:=λ_=>False) (λi j=>(w.cell? ⟨ab,ao+i*c+j,none⟩).getD undef) l1.symm hlc hcm (λh=>h) s2 (λi hi=>(hl3 i hi).1) (λi hi j hj=>?_) (λi hi j hj=>?_) (λhF=>absurd s2 (by omega))
     ·obtain⟨v,v1,_⟩:=(hl3 i hi).2 j hj;rw [v1];rfl
     ·obtain⟨v,v1,v2⟩:=(hl3 i hi).2 j hj;rw [v1];exact v2
 | .struct fs,t,fuel,cs,x,hb,h,hw=>by
  obtain⟨fl,ht,hf,hc⟩:∃ fl,P.underlying t=some (.struct fl)/\rtL P fs fl.toList 0=true/\P.cellsOf t=RT.sizeL fs:=by
   unfold rtB at hb;split at hb
   ·rename_i fl ht;simp only [Ad] at hb;exact⟨fl,ht,hb.1,Aj hb.2⟩
   ·cases hb
  obtain⟨xs,n,_,rfl,hcl,hxl,hx⟩:=DataW.trod_struct ht h;obtain⟨ys,y1,y2⟩:=open_rts hFw fs fl.toList 0 n cs xs hf (λi f hi=>hx i f (by simpa using hi)) (by simpa using hxl) (by rw [hcl,hc];omega) (λk hk=>hw k (by
   simp only [DataW.weights,ht];exact hk))
  exact⟨ys,y1,by simpa using y2⟩
theorem open_rts (hFw:w.heap.size<=Bnds.F):∀ (rs:List RT) (fl:List Field) (o n:Nat) (cs:List Value) (xs:List (DataW H×List MemPlace)),rtL P rs fl o=true ->
  (∀ (i:Nat) (f:Field),fl[i]?=some f->DataW.trod enc P w 0 (λ_=>true) true n f.type ((cs.drop f.offset).take (P.cellsOf f.type))=xs[i]?)->xs.length=fl.length->cs.length=o+RT.sizeL rs ->
  (∀ k∈DataW.weightsEach P (fl.map (·.type)) (xs.map (·.1)),k<=R)->∃ ys,TyFR R rs ys/\RepL w (cs.drop o) ys
 | [],fl,o,n,cs,xs,hb,_,_,hl,_=>by
  refine⟨[],rfl,?_,λj u hj=>?_⟩
  ·simp [RT.sizeL] at hl ⊢;omega
  ·rw [List.drop_eq_nil_of_le (by simp [RT.sizeL] at hl;omega)] at hj;simp at hj
 | r::rs,[],o,n,cs,xs,hb,_,_,_,_=>by simp [rtL] at hb
 | r::rs,f::fl,o,n,cs,xs,hb,hx,hxl,hl,hw=>by
  simp only [rtL,Ad] at hb;obtain⟨b1,b2,b3,b4⟩:=hb;have b1:=Aj b1;have b2:=Aj b2;cases xs with
  | nil=>simp at hxl
  | cons y ys =>
   have h0:=hx 0 f rfl;simp only [List.getElem?_cons_zero] at h0;rw [b1,b2] at h0;simp only [RT.sizeL] at hl;obtain⟨az,a1,a2⟩:=open_rt hFw r f.type n _ y b3 h0 λk hk=>hw k (by
    simp only [A7,DataW.weightsEach,Bq];exact .inl hk)
   obtain⟨bs,c1,c2⟩:=open_rts hFw rs fl (o+r.size) n cs ys b4 (λi g hi=>by simpa using hx (i+1) g (by simpa using hi)) (by simpa using hxl) (by omega) (λk hk=>hw k (by
    simp only [A7,DataW.weightsEach,Bq];exact .inr hk))
   refine⟨az++bs,⟨az,bs,rfl,a1,c1⟩,?_⟩
   have:=a2.append c2
   have hd:(cs.drop o).take r.size++cs.drop (o+r.size)=cs.drop o:=by
    rw [<- List.drop_drop];exact Dx _ _
   rw [hd] at this;exact this
end
end
end
section
open Go Go.RowKit Go.ChangeShapes Go.WideShapes
section
variable [Bnds]
def RT.arg:RT->List D->SV
 | .struct _,xs=>.agg (xs.map .d)
 | _,[x]=>.d x
 | _,_=>.junk
def ArgsDR (R:Nat):List RT->List SV->Prop
 | [],az=>az=[]
 | r::rs,az=>∃ xs l,az=r.arg xs::l/\vn R r xs/\ArgsDR R rs l
def rtsB (P:Program):List RT->List TypeId->Bool
 | [],[]=>true
 | r::rs,t::ts=>rtB P r t && rtsB P rs ts
 | _,_=>false
section
variable {H : Type} {enc : TypeId×Value -> H} {P : Program} {R : Nat}
theorem repL_agg {W:World} {e:Env}:∀ (cs:List Value) (xs:List D),RepL W cs xs->RelL (λ_=>False) e W (xs.map .d) cs
 | [],[],_=>trivial
 | [],_::_,h=>by have:=h.1;simp at this
 | _::_,[],h=>by have:=h.1;simp at this
 | c::cs,x::xs,h=>by
  obtain⟨h1,h2⟩:=h
  refine⟨?_,repL_agg cs xs ⟨by simpa using h1,λj u hj=>by simpa using h2 (j+1) u (by simpa using hj)⟩⟩
  obtain⟨y,hy,hr⟩:=h2 0 c rfl
  simp at hy
  subst hy
  exact hr
theorem repL_one {W:World} {e:Env} {v:Value} {x:D} (h:RepL W [v] [x]):Rel (λ_=>False) e W (.d x) v:=by
 obtain⟨y,hy,hr⟩:=h.2 0 v rfl;simp at hy;subst hy;exact hr
theorem rtB_bool {t:TypeId} (h:rtB P .bool t=true):P.underlying t=some .bool:=by
 unfold rtB at h;split at h<;>first|assumption|cases h
theorem rtB_str {t:TypeId} (h:rtB P .str t=true):P.underlying t=some .string:=by
 unfold rtB at h;split at h<;>first|assumption|cases h
theorem rtB_int {t:TypeId} {k:IntKind} (h:rtB P (.int k) t=true):P.underlying t=some (.int k):=by
 unfold rtB at h;split at h
 ·rename_i k' hk;rw [hk,lz h]
 ·cases h
theorem rtB_slice {t:TypeId} {c b:Nat} {e:RT} (h:rtB P (.slice c b e) t=true):∃ te,P.underlying t=some (.slice te):=by
 unfold rtB at h;split at h
 ·rename_i te ht;exact⟨te,ht⟩
 ·cases h
theorem rtB_struct {t:TypeId} {fs:List RT} (h:rtB P (.struct fs) t=true):∃ fl,P.underlying t=some (.struct fl):=by
 unfold rtB at h;split at h
 ·rename_i te ht;exact⟨te,ht⟩
 ·cases h
theorem arg_open {W:World} {e:Env} {base:Nat} (hFw:W.heap.size<=Bnds.F):∀ (r:RT) (t:TypeId) (v:Value) (d:DataW H) (ps:List MemPlace),rtB P r t=true->DataW.Trod enc P W 0 (λ_=>true) true t v d ps->Value.okWide P W .any base t v ->
  (∀ n∈d.weights P t,n<=R)->∃ xs,vn R r xs/\Rel (λ_=>False) e W (r.arg xs) v:=by
 intro r t v d ps hb ⟨fuel,hd⟩ hok hw;obtain⟨xs,h1,h2⟩:=open_rt hFw r t fuel v.cells.toList (d,ps) hb hd hw;refine⟨xs,h1,?_⟩
 cases r with
 | bool =>
  obtain⟨b,rfl⟩:=okWide_bool (rtB_bool hb) hok;obtain⟨b',rfl⟩:=h1;exact repL_one h2
 | int k =>
  obtain⟨b,rfl⟩:=okWide_int (rtB_int hb) hok;obtain⟨b',_,rfl⟩:=h1;exact repL_one h2
 | str =>
  obtain⟨b,rfl⟩:=okWide_string (rtB_str hb) hok;obtain⟨b',_,rfl⟩:=h1;exact repL_one h2
 | slice c b el =>
  obtain⟨te,ht⟩:=rtB_slice hb;obtain⟨a,n,cap,rfl⟩:=okWide_slice ht hok;obtain⟨l,_,_,rfl,_⟩:=h1;exact repL_one h2
 | struct fs =>
  obtain⟨fl,ht⟩:=rtB_struct hb;obtain⟨cs,rfl,_⟩:=okWide_struct ht hok;exact⟨cs.toList,by simp,repL_agg _ _ h2⟩
theorem args_open {W:World} {e:Env} {base:Nat} (hFw:W.heap.size<=Bnds.F):∀ (rs:List RT) (ts:List TypeId) (vs:List Value) (ds:List (DataW H)) (ps:List MemPlace),rtsB P rs ts=true->DataW.TrodAll enc P W 0 (λ_=>true) true ts vs ds ps ->
  (∀ (j:Nat) t v,ts[j]?=some t->vs[j]?=some v->Value.okWide P W .any base t v)->(∀ n∈DataW.weightsEach P ts ds,n<=R)->∃ az,ArgsDR R rs az/\RelL (λ_=>False) e W az vs
 | [],[],vs,ds,ps,_,h,_,_=>by
  obtain⟨rfl,rfl,rfl⟩:=trodAll_nil h
  exact⟨[],rfl,trivial⟩
 | [],_::_,_,_,_,hb,_,_,_=>by simp [rtsB] at hb
 | _::_,[],_,_,_,hb,_,_,_=>by simp [rtsB] at hb
 | r::rs,t::ts,vs,ds,ps,hb,h,hok,hw=>by
  obtain⟨v,vs',d,ds',p,q,rfl,rfl,rfl,h1,h2⟩:=trodAll_cons h
  simp only [rtsB,Ad] at hb
  simp only [DataW.weightsEach,Bq] at hw
  obtain⟨xs,g1,g2⟩:=arg_open (e:=e) hFw r t v d p hb.1 h1 (hok 0 t v rfl rfl) λn hn=>hw n (.inl hn)
  obtain⟨az,g3,g4⟩:=args_open (e:=e) hFw rs ts vs' ds' q hb.2 h2 (λj t v ht hv=>hok (j+1) t v (by simpa using ht) (by simpa using hv)) λn hn=>hw n (.inr hn)
  exact⟨r.arg xs::az,⟨xs,az,rfl,g1,g3⟩,g2,g4⟩
def readB (P:Program) (ts:List TypeId):Bool:=ts.all λt=>P.readableRec t && As t P.types.size
theorem args_again {W W':World} {spare:Nat->Bool} (hl:laidOutB P=true) (hb:Below W.heap.size W W'):∀ (ts:List TypeId) (vs:List Value) (ds:List (DataW H)) (ps:List MemPlace),readB P ts=true ->
  DataW.TrodAll enc P W 0 (λ_=>true) true ts vs ds ps->(∀ p∈ps,p.block<W.heap.size)->(∀ p∈ps,spare p.block=true)->DataW.TrodAll enc P W' 0 spare true ts vs ds ps
 | [],vs,ds,ps,_,h,_,_=>by
  obtain⟨rfl,rfl,rfl⟩:=trodAll_nil h
  rfl
 | t::ts,vs,ds,ps,hr,h,hlt,hsp=>by
  obtain⟨v,vs',d,ds',p,q,rfl,rfl,rfl,h1,h2⟩:=trodAll_cons h
  simp only [readB,List.all_cons,Ad] at hr
  refine⟨p,q,?_,args_again hl hb ts vs' ds' q (by simpa [readB] using hr.2) h2 (λx hx=>hlt x (B7 _ hx)) (λx hx=>hsp x (B7 _ hx)),rfl⟩
  exact WideElems.Trod_stays hl hr.1.1 (Ac hr.1.2) h1 (λx hx=>hb.same (hlt x (A0 _ hx))) λx hx=>hsp x (A0 _ hx)
theorem law_post {f:Func} {s:ChangeSpec} {apart fresh handsOn:Bool} {W W':World} {args:Array Value} {ds gs:List (DataW H)} {before:List MemPlace} {tb:TypeId}
  (hv:s.vars=[]) (hW:DataW.Whole enc P f.params.toList s.vars apart W args.toList ds gs before) (hfn:gs=[]->s.fn H (ds++gs) = { results:=[.lit (.bool true)],args:=ds })
  (hres:f.resultTypes = #[tb]) (htb:P.underlying tb=some .bool) (hl:laidOutB P=true) (hr:readB P f.params.toList=true) (hb:Below W.heap.size W W') :
  s.post enc P f apart fresh handsOn false W args (.bool true) W':=by
 have hW0:=hW;have hlt:=λp hp=>hW.lt p hp
 obtain⟨p,q,hA,hV,rfl,hfz,hnd⟩:=hW;rw [hv] at hV;obtain⟨rfl,rfl⟩:=trodVars_none hV;have hfn:=hfn rfl;refine⟨ds,[],p++[],[],p,[],hW0,?_,?_,?_,hb.frame _,λh=>by cases h⟩
 ·rw [hres,hfn];exact trodAll_mk1 (shut_bool htb true)
 ·rw [hfn];exact args_again hl hb _ _ _ _ hr hA (λx hx=>hlt x (A0 _ hx)) λx hx=>by simpa using hlt x (A0 _ hx)
 ·rw [hv,hfn];rfl
theorem ctxX_nil {τ τok} {e:Env} {W:World} {n J β0}:∀ b,Ctx.X ⟨P,τ,τok,λ_=>False,W,λb=>b∈ae e [],n,J,β0,none,cy,true,false⟩ e [] b->False:=by
 rintro b (h|h)
 ·exact h
 ·simp [ae] at h
theorem law_calls {τ:List (Nat×TI)} {τok:dc P τ} {f:FuncId} {rs:List RT} {ts:List TypeId} {args:Array Value} {ds:List (DataW H)} {ps:List MemPlace} {W:World} {base:Nat}
  (hc:∀ az,ArgsDR R rs az->FnP false P τ τok f az (λr=>r = .d (.bool true))) (hb:rtsB P rs ts=true) (hA:DataW.TrodAll enc P W 0 (λ_=>true) true ts args.toList ds ps)
  (hok:∀ (j:Nat) t v,ts[j]?=some t->args.toList[j]?=some v->Value.okWide P W .any base t v) (hw:∀ n∈DataW.weightsEach P ts ds,n<=R) (hB:Bnds.B=0) (hF:Bnds.F=W.heap.size) :
  Calls P f args W λen W'=>en = .returned (.bool true)/\Below W.heap.size W W':=by
 let e:Env:=⟨λ_=>0,λ_=>undef,lo 0⟩
 obtain⟨az,h1,h2⟩:=args_open (e:=e) (F4 hF.symm) rs ts args.toList ds ps hb hA hok hw;have hk:=(hc az h1).2 (λ_=>False) e W args.toList ?_ ?_
 ·rw [Gm] at hk;refine Calls.mono hk ?_;rintro en W' ⟨k',r,H',e',v,⟨rfl,_,rfl⟩,rfl,hH,hr⟩;have hr':RepC _ W' v (.bool true):=hr;cases hr';exact⟨rfl,⟨hH.os,hH.tape,hH.output,hH.size,λb hb=>hH.block b hb (by simp [ae])⟩⟩
 ·exact { top:=λ_=>Iff.rfl,heap:=(λp hp=>nomatch hp),ids:=.nil,nodup:=.nil,mine:=(λb hb=>nomatch hb),os:=rfl,tape:=rfl,output:=rfl,drawn:=(λ_=>Af _),size:=Af _,block:=(λ_ _ _=>rfl),obound:=(λ_ h=>h.elim),tabs:=⟨Ar (F4 hB) (Ai _),F4 hF,λ_ _=>Ar (F4 hB) (Ai _)⟩,jle:=(λ_ h=>nomatch h),anchor:=(λ_ h=>nomatch h) }
 ·exact RelL.keep (Af _) (λ_ _ _=>rfl) (λb _ hy=>ctxX_nil b hy) _ _ h2
end
end
section
variable {H : Type} {enc : TypeId×Value -> H} {P : Program} {R : Nat}
theorem law_lifted_cond {C:Checked} {τ:List (Nat×TI)} {τok:dc C.prog τ} {os:Os} (started:os.Started) {f:FuncId} {fn:Func} {s:OpenSpec} {k:(H:Type)->List (DataW H)->Bool} (hk:s.cond=some k) {F:Stop.Interp} {conds:List PathCond} {apart fresh handsOn:Bool} {rs:List RT} {tb:TypeId}
  (own:ownKnob C.prog.godebug=none) (noInit:C.prog.inits.idxOf? f=none) (hfn:C.prog.funcs[f]?=some fn)
  (witness:∃ (w:World) (tape:Tape) (i:Input),w.os=os/\(w.forCall tape i).Shaped C.prog/\i.vars=[]/\Input.okWide C.prog (w.forCall tape i) .any w.heap.size f i /\
   s.pre6 enc C.prog fn conds apart (w.forCall tape i).memory i.args/\({}:Assume).holds C.prog (lone (Frame.enter C.prog f i.args .normal) [] (w.forCall tape i)))
  (hv:s.vars=[]) (hva:(s.at F).vars=[]) (hs:∀ (ds:List (DataW H)),ds.length=fn.params.toList.length->(s.at F).fn H ds = { results:=[.lit (.bool true)],args:=ds })
  (hres:fn.resultTypes = #[tb]) (htb:C.prog.underlying tb=some .bool) (hl:laidOutB C.prog=true) (hr:readB C.prog fn.params.toList=true) (hb:rtsB C.prog rs fn.params.toList=true)
  (hkR:∀ ds:List (DataW H),k H ds=true->∀ n∈DataW.weightsEach C.prog fn.params.toList ds,n<=R)
  (hc:∀ [Bnds] (az),ArgsDR R rs az->FnP false C.prog τ τok f az (λr=>r = .d (.bool true))) :
  ReturnsInHanded {} C os f .any (s.pre6 enc C.prog fn conds apart) ((s.at F).post enc C.prog fn apart fresh handsOn false):=by
 refine returnsInHanded_of_cond hk own started noInit hfn witness ?_;intro W base args ds gs before hval hW _ hkk _;obtain⟨p,q,hA,hV,hpq,hfz,hnd⟩:=id hW;rw [hv] at hV;obtain⟨rfl,rfl⟩:=trodVars_none hV;rw [B0] at hkk;have hlen:∀ (ts:List TypeId) (vs:List Value) (ds:List (DataW H)) (ps:List MemPlace),DataW.TrodAll enc C.prog W 0 (λ_=>true) true ts vs ds ps->ds.length=ts.length:=by
  intro ts;induction ts with
  | nil=>intro vs ds ps h;obtain⟨rfl,rfl,rfl⟩:=trodAll_nil h;rfl
  | cons t ts ih =>
   intro vs ds ps h;obtain⟨v,vs',d,ds',p,q,rfl,rfl,rfl,h1,h2⟩:=trodAll_cons h;simp [ih _ _ _ h2]
 letI:Bnds:=⟨0,W.heap.size⟩
 refine (law_calls (λaz h=>hc az h) hb hA (λj t v ht hv=>hval j t v (by simpa using ht) (by simpa using hv)) (hkR ds hkk) rfl rfl).mono ?_;rintro en W' ⟨rfl,hbl⟩;rw [hv] at hW;exact⟨_,rfl,law_post hva (by rw [hva];exact hW) (λ_=>by rw [B0];exact hs ds (hlen _ _ _ _ hA)) hres htb hl hr hbl⟩
end
end
section
open Go Go.RowKit Go.Sort Go.Shelf
variable [Bnds]
section
variable {β : Type}
structure Held (X:Nat->Prop) (w:World) (es:Nat) (enc:β->List D) where
 x:β
 vs:List Value
 len:vs.length=es
 one:∀ v∈vs,v.oneCell'=true
 rep:∀ j (hj:j<(enc x).length),∃ v,vs[j]?=some v/\RepC X w v (enc x)[j]
theorem flatK_toList {α:Type} [Inhabited α] (enc:α->List Value) (k:Nat) (hk:∀ x,(enc x).length=k) (d:Array α) (t:Nat) (ht:t<d.size*k) :
  (flatK enc k d).toList[t]?=(enc (d[t / k]'(Ey (by rw [G3];exact ht))))[t % k]?:=by
 have h0:0<k:=Gy λh=>by subst h;simp at ht
 have h1:t / k<d.size:=Ey (by rw [G3];exact ht);have h2:t % k<(enc d[t / k]).length:=by rw [hk];exact E8 _ h0
 rw [Ce,Dy (by simpa using ht),Ab h2];simp only [flatK,Array.getElem_map,Array.getElem_range];rw [getElem!_pos d _ h1,getElem!_pos (enc d[t / k]) _ h2]
theorem sortK_heap {α:Type} [Inhabited α] {w:World} {g n:Nat} {os:Array Obj} {cur:Array Value} {e:TypeId} {fr:Nat×Nat} (enc:α->List Value) (k:Nat) (d:Array α) (hb:w.heap[g]?=some (.cells cur e fr)) :
  (sortWorldK enc k w g 0 n d os).heap[g]?=some (.cells (putCells id 0 (flatK enc k d) cur) e fr):=by
 have hg:g<w.heap.size:=(Array.getElem?_eq_some_iff.1 hb).1;unfold sortWorldK putRowK;rw [heap_grow_old _ _ (by simpa using hg)];simp [putRow,mapBlock,Sort.ahead,Ea,hb,onCells]
theorem v7 {α:Type} [Inhabited α] {w:World} {g n:Nat} {os:Array Obj} (enc:α->List Value) (k:Nat) (d:Array α) {b:Nat} (hb:b<w.heap.size) (hne:b≠g) :
  (sortWorldK enc k w g 0 n d os).heap[b]?=w.heap[b]?:=by
 unfold sortWorldK putRowK;rw [heap_grow_old _ _ (by simpa using hb)];have:g≠b:=λh=>hne h.symm
 simp [putRow,mapBlock,Sort.ahead,Ea,this]
theorem sortK_size {α:Type} [Inhabited α] {w:World} {g n:Nat} {os:Array Obj} (enc:α->List Value) (k:Nat) (d:Array α):w.heap.size<=(sortWorldK enc k w g 0 n d os).heap.size:=by
 unfold sortWorldK putRowK;simp
theorem take_putCellsK (cur F:Array Value) (h:F.size<=cur.size):(putCells id 0 F cur).toList.take F.size=F.toList:=by
 apply Dz;intro j;by_cases hj:j<F.size
 ·rw [List.getElem?_take_of_lt hj,Ce,Ce];simp [putCells,hj,show j<cur.size by omega]
 ·rw [List.getElem?_take_eq_none (by omega),Ba (by simp;omega)]
theorem grown_eq {W w':World} (hos:w'.os=W.os) (ht:w'.tape=W.tape) (ho:w'.output=W.output) (hd:W.drawn<=w'.drawn) (hs:W.heap.size<=w'.heap.size) (hb:∀ b,b<W.heap.size->w'.heap[b]?=W.heap[b]?) :
  ∃ q os',w'=grow (W.drewN q) os':=by
 refine⟨w'.drawn-W.drawn,w'.heap.extract W.heap.size,?_⟩
 obtain⟨heap,tape,drawn,os,output⟩:=w';simp only at hos ht ho hd hs hb;subst hos;subst ht;subst ho;unfold grow World.drewN;simp only [World.mk.injEq,true_and,and_true];refine⟨?_,by omega⟩
 apply Array.ext_getElem?;intro i;rw [Array.getElem?_append];split
 ·rename_i h;exact hb i h
 ·rename_i h;rw [Array.getElem?_extract];split
  ·congr 1;omega
  ·rw [Array.getElem?_eq_none (by omega)]
theorem xv {α γ:Type} {f:α->List γ} {k:Nat} (hk:∀ x,(f x).length=k):∀ (d:List α) (i j:Nat) (hi:i<d.length),j<k->(d.map f).flatten[i*k+j]?=(f (d[i]'hi))[j]?
 | [],_,_,hi,_=>by simp at hi
 | x::d,0,j,_,hj=>by
  rw [A7,C7,F3,Da,Bi (by rw [hk];exact hj)];rfl
 | x::d,i+1,j,hi,hj=>by
  have h1:(i+1)*k+j=k+(i*k+j):=by rw [B4];omega
  rw [A7,C7,h1,A8 (by rw [hk];omega),hk,Nat.add_sub_cancel_left,xv hk d i j (by simpa using hi) hj];rfl
theorem xu {α γ:Type} {f:α->List γ} {k:Nat} (hk:∀ x,(f x).length=k):∀ (d:List α),(d.map f).flatten.length=d.length*k
 | []=>by simp
 | x::d=>by rw [A7,C7,List.length_append,hk,xu hk d,Bn,B4];omega
theorem flatK_list {α:Type} [Inhabited α] (enc:α->List Value) (k:Nat) (hk:∀ x,(enc x).length=k) (d:Array α):(flatK enc k d).toList=(d.toList.map enc).flatten:=by
 apply Dz;intro t;by_cases ht:t<d.size*k
 ·have h0:0<k:=Gy λh=>by subst h;simp at ht
  have h1:t / k<d.size:=Ey (by rw [G3];exact ht);rw [flatK_toList enc k hk d t ht];have h2:=xv hk d.toList (t / k) (t % k) (by simpa using h1) (E8 _ h0);rw [Nat.div_add_mod'] at h2;rw [h2];simp
 ·rw [Ba (by simp;omega),Ba (by rw [xu hk];simp;omega)]
theorem held_of {X:Nat->Prop} {w:World} {es:Nat} {enc:β->List D} (hes:∀ x,(enc x).length=es):∀ (l:List β) (us:List Value),us.length=l.length*es->(∀ v∈us,v.oneCell'=true) ->
  (∀ i (hi:i<l.length) j (hj:j<(enc l[i]).length),∃ v,us[i*es+j]?=some v/\RepC X w v ((enc l[i])[j]'hj))->∃ d:List (Held X w es enc),d.map Held.x=l/\(d.map Held.vs).flatten=us
 | [],us,h,_,_=>⟨[],rfl,by simp at h;subst h;rfl⟩
 | x::l,us,h,h1,h2=>by
  have hl:us.length=es+l.length*es:=by rw [h,Bn,B4];omega
  obtain⟨d,g1,g2⟩:=held_of (X:=X) (w:=w) hes l (us.drop es) (by rw [B9];omega) (λv hv=>h1 v (Bv hv)) (λi hi j hj=>by
   obtain⟨v,q1,q2⟩:=h2 (i+1) (by simpa using hi) j (by simpa using hj);refine⟨v,?_,q2⟩
   rw [Fb,<- q1];congr 1;rw [B4];omega)
  refine⟨⟨x,us.take es,by rw [Au];omega,λv hv=>h1 v (B1 hv),λj hj=>?_⟩::d,by rw [A7,g1],by rw [A7,C7,g2,Dx]⟩
  obtain⟨v,q1,q2⟩:=h2 0 (by simp) j (by simpa using hj);refine⟨v,?_,q2⟩
  rw [Br,if_pos (by rw [<- hes x];exact hj)];simpa using q1
theorem lowL_d:∀ (ds:List D),SV.lowL 0 (ds.map .d)=true
 | []=>rfl
 | d::ds=>by simp [SV.lowL,SV.low,lowL_d ds]
theorem relL_d {X:Nat->Prop} {e:Env} {w:World}:∀ (ds:List D) (vs:List Value),vs.length=ds.length->(∀ j (hj:j<ds.length),∃ v,vs[j]?=some v/\RepC X w v ds[j])->RelL X e w (ds.map .d) vs
 | [],[],_,_=>trivial
 | [],_::_,h,_=>by simp at h
 | _::_,[],h,_=>by simp at h
 | d::ds,v::vs,h,hr=>⟨by obtain⟨v',h1,h2⟩:=hr 0 (by simp);cases h1;exact h2,relL_d ds vs (by simpa using h) λj hj=>by
   obtain⟨v',h1,h2⟩:=hr (j+1) (by simpa using hj);exact⟨v',by simpa using h1,by simpa using h2⟩⟩
variable {P : Program} {τ : List (Nat×TI)} {τok : dc P τ} {ρ : Ren}
theorem sort_rowK (L:SlLaysF0.n6 P ρ) (es:Nat) (aE:∀ w,(isAgg (ρ.t 24)).run P w = .ok true w) (zE:∀ w,(Go.sizeOf (ρ.t 24)).run P w = .ok es w) (enc:β->List D) (hes:∀ x,(enc x).length=es) (cf:β->β->Int) (hO:SWO (ltOf cf)) (g:Nat)
  (hc:∀ a b,FnP true P τ τok g [.agg ((enc a).map .d),.agg ((enc b).map .d)] (λr=>r = .d (.int .i64 (cf a b)))) (te:TypeId) (l:List β) (hl:l.length<4611686018427387904)
  {X:Nat->Prop} {e:Env} {w:World} {i:Nat} (hXo:∀ c,HB.owned e (i,.row te es (l.map enc))=some c->X c) (hXl:∀ b,X b->b<w.heap.size) (hrow:HRel X e w (i,.row te es (l.map enc))) (hTw:Tabs P (λ_=>False) w) :
  Calls P (ρ.f 6) #[e.η i,.func (.func g) #[] #[]] w λen w'=>en = .returned (.tuple #[])/\w.heap.size<=w'.heap.size/\w'.os=w.os/\w'.tape=w.tape/\w'.output=w.output /\
   (∀ c,c<w.heap.size->HB.owned e (i,.row te es (l.map enc))≠some c->w'.heap[c]?=w.heap[c]?)/\∃ l':List β,l'.Perm l/\l'.Pairwise (λa b=>cf b a ≥ 0)/\HRel X e w' (i,.row te es (l'.map enc)):=by
 obtain⟨us,hown,hlen,hone2,hrep⟩:=hrow;by_cases hne:l=[]
 ·subst hne;obtain⟨p,cap,hv⟩:∃ p cap,e.η i = .slice p 0 cap:=by
   rcases hown.2 with ⟨hv,_⟩|⟨gb,cap,cur,hv,_⟩
   ·exact⟨_,_,hv⟩
   ·exact⟨_,_,hv⟩
  rw [hv];refine (AnyF.slices_SortFunc_none { L with } p cap _ w).mono ?_;rintro en w' ⟨rfl,rfl⟩;exact⟨rfl,Af _,rfl,rfl,rfl,λ_ _ _=>rfl,[],.refl _,.nil,us,hown,hlen,hone2,hrep⟩
 ·have hpos:0<l.length:=List.length_pos_iff.2 hne;have lm:(l.map enc).length=l.length:=Aa _;obtain⟨hul,hcase⟩:=hown;rw [lm] at hul hcase;rcases hcase with ⟨_,h⟩|⟨gb,cap,cur,hv,_,hblk,hnc,hcm,hcs,htk⟩
  ·omega
  have hgb:gb<w.heap.size:=(Array.getElem?_eq_some_iff.1 hblk).1;have howned:∀ (m:List (List D)),HB.owned e (i,.row te es m)=some gb:=λm=>by simp [HB.owned,hv,Value.ownBlock]
  have hXg:X gb:=hXo gb (howned _);obtain⟨d,d1,d2⟩:=held_of (X:=X) (w:=w) (enc:=enc) hes l us hul hone2 (λi hi j hj=>by
   obtain⟨v,q1,q2⟩:=hrep i (by rw [lm];exact hi) j (by simpa using hj);exact⟨v,q1,by simpa using q2⟩)
  have hdl:d.length=l.length:=by rw [<- d1,Aa]
  haveI:Inhabited (Held X w es enc):=⟨d[0]'(by omega)⟩
  have hkv:∀ x:Held X w es enc,x.vs.length=es:=λx=>x.len
  have hF:(flatK Held.vs es d.toArray).toList=us:=by rw [flatK_list _ _ hkv,<- d2]
  have hHold:HoldsK (Held.vs (X:=X) (w:=w) (es:=es) (enc:=enc)) es w gb 0 d.toArray:=by
   intro t ht;have ht':t<l.length*es:=by simpa [hdl] using ht
   have hc1:cur[t]?=us[t]?:=by
    rw [<- htk,Br,if_pos ht',Ce]
   refine⟨?_,by simp [World.frozen?,hblk]⟩
   simp only [World.cell?,hblk,Da];simp only [Option.isSome_none,Bool.false_eq_true,if_false];rw [hc1,<- hF,Ce,Dy ht,getElem!_pos _ t ht];rfl
  have hcmp:CmpLays P g #[] (Held.vs (X:=X) (w:=w) (es:=es) (enc:=enc)) es (λx y=>cf x.x y.x) gb 0 d.toArray.size w:=by
   intro m os dk hdk x y;generalize hW:sortWorldK Held.vs es w gb 0 m dk os=W;have hWs:w.heap.size<=W.heap.size:=hW▸sortK_size _ _ _;have hWb:∀ b,b<w.heap.size->¬ X b->W.heap[b]?=w.heap[b]?:=λb hb hx=>hW▸v7 _ _ _ hb λh=>hx (h▸hXg)
   have hXW:∀ b,X b->b<W.heap.size:=λb hb=>Aq (hXl b hb) hWs
   have hel:∀ z:Held X w es enc,RelL X e W ((enc z.x).map .d) z.vs:=λz=>relL_d _ _ (by rw [z.len,hes]) λj hj=>by
    obtain⟨v,q1,q2⟩:=z.rep j hj;exact⟨v,q1,RepC.keep hWs hWb (λ_ _ h=>h) q2⟩
   have hk:=(hc x.x y.x).2 X (e.ren id 0) W [.agg x.vs.toArray,.agg y.vs.toArray] ⟨λ_=>Iff.rfl,by simp,by simp,by simp [ae],by simp [ae],rfl,rfl,rfl,λ_=>Af _,Af _,λ_ _ _=>rfl,λb hb=>⟨hXW b hb,by simp [ae]⟩,(hTw.grow hWs).sub (by simp [ae]),λj hj=>absurd hj (A6 j),λj hj=>absurd hj (A6 j)⟩ ?_
   ·refine hk.mono ?_;rintro en w' ⟨k',r,H',e',v,⟨rfl,hlr,rfl⟩,rfl,hH2,hrel⟩;refine⟨?_,grown_eq hH2.os hH2.tape hH2.output (hH2.drawn rfl) hH2.size λb hb=>hH2.block b hb (by simp [ae])⟩
    cases hrel;rfl
   ·have hXX:∀ b,Ctx.X ⟨P,τ,τok,X,W,λb=>b∈ae (e.ren id 0) [],0,0,(e.ren id 0).an,none,cy,true,true⟩ (e.ren id 0) [] b↔X b:=λb=>by unfold Ctx.X;simp [ae]
    refine RelL.keep (Af _) (λ_ _ _=>rfl) (λb _ h=>(hXX b).1 h) _ _ (X:=X) (w:=W) ?_;exact⟨⟨x.vs,rfl,RelL.env _ _ (lowL_d _) (hel x)⟩,⟨y.vs,rfl,RelL.env _ _ (lowL_d _) (hel y)⟩,trivial⟩
  have hOα:SWO (ltOf λx y:Held X w es enc=>cf x.x y.x):=⟨λx=>hO.irrefl x.x,λx y z=>hO.trans x.x y.x z.x,λx y z=>hO.ntrans x.x y.x z.x⟩
  have eg:∀ args w,(callFunc g args).run P w = .ok (.enter g args) w:=wx ((if h:l.length=0 then by omega else (hc (l[0]'hpos) (l[0]'hpos)).1));have hs:=AnyQ.slices_SortFunc L es aE zE (Held.vs (X:=X) (w:=w) (es:=es) (enc:=enc)) hkv (λx=>x.one) (λx y=>cf x.x y.x) hOα g #[] gb 0 cap d.toArray w eg hcmp hHold hgb (by simpa [hdl] using hl);have hsz:d.toArray.size=l.length:=by simpa using hdl
  rw [hsz] at hs;rw [hv];refine hs.mono ?_;rintro en w' ⟨rfl,d',m,os,hp,hso,rfl⟩;have hd's:d'.size=l.length:=hp.1.trans hsz;have hperm:d'.toList.Perm d:=by
   have:=hp.2.2
   rwa [show d'.extract 0 l.length=d' by rw [<- hd's];simp,show d.toArray.extract 0 l.length=d.toArray by rw [<- hsz];simp] at this
  refine⟨rfl,sortK_size _ _ _,rfl,rfl,rfl,λc hc hne=>v7 _ _ _ hc λh=>hne (by rw [howned,h]),d'.toList.map Held.x,d1▸hperm.map _,?_,?_⟩
  ·rw [List.pairwise_map,List.pairwise_iff_getElem];intro i j hi hj hij;have h1:=hso i j (Ai _) hij (by simpa [hd's] using hj);rw [getElem!_pos d' i (by simpa using hi),getElem!_pos d' j (by simpa using hj)] at h1;have h2:¬ cf d'[j].x d'[i].x<0:=of_decide_eq_false h1;simp only [Array.getElem_toList];omega
  ·have hl':(d'.toList.map Held.x).length=l.length:=by simp [hd's]
   have hFs:(flatK Held.vs es d').size=l.length*es:=by rw [size_flatK,hd's]
   have hFl:(flatK Held.vs es d').toList=(d'.toList.map Held.vs).flatten:=flatK_list _ _ hkv _;refine⟨(d'.toList.map Held.vs).flatten,⟨?_,.inr ⟨gb,cap,_,hv▸?_,Ai _,sortK_heap _ _ _ hblk,?_,hcm,by simp [putCells,hcs],?_⟩⟩,?_,?_,?_⟩
   ·rw [xu hkv];simp
   ·simp [hd's]
   ·simp [hd's];exact hnc
   ·rw [Aa,hl',<- hFs,take_putCellsK _ _ (by rw [hFs,hcs];exact Bc _ hnc),hFl]
   ·intro i hi;simp [hes]
   ·intro v hvm;obtain⟨u,hu,hvu⟩:=List.mem_flatten.1 hvm;obtain⟨x,_,rfl⟩:=List.mem_map.1 hu;exact x.one v hvu
   ·intro i hi j hj;have hi':i<d'.toList.length:=by simpa using hi
    have hj':j<es:=by simpa [hes] using hj
    obtain⟨v,q1,q2⟩:=(d'.toList[i]).rep j (by rw [hes];exact hj');refine⟨v,by rw [xv hkv d'.toList i j hi' hj'];exact q1,?_⟩
    have q3:RepC X w v (((d'.toList.map Held.x).map enc)[i][j]):=by simpa using q2
    exact RepC.keep (sortK_size _ _ _) (λb hb hx=>v7 _ _ _ hb λh=>hx (h▸hXg)) (λb _ h=>h) q3
def SortC (P:Program) (f g:FuncId) (te es:Nat) (enc:β->List D) (cf:β->β->Int):Prop :=
 ∀ (l:List β),l.length<4611686018427387904->∀ (X:Nat->Prop) (e:Env) (w:World) (i:Nat),(∀ c,HB.owned e (i,.row te es (l.map enc))=some c->X c)->(∀ b,X b->b<w.heap.size)->HRel X e w (i,.row te es (l.map enc))->Tabs P (λ_=>False) w ->
  Calls P f #[e.η i,.func (.func g) #[] #[]] w λen w'=>en = .returned (.tuple #[])/\w.heap.size<=w'.heap.size/\w'.os=w.os/\w'.tape=w.tape/\w'.output=w.output /\
   (∀ c,c<w.heap.size->HB.owned e (i,.row te es (l.map enc))≠some c->w'.heap[c]?=w.heap[c]?)/\∃ l':List β,l'.Perm l/\l'.Pairwise (λa b=>cf b a ≥ 0)/\HRel X e w' (i,.row te es (l'.map enc))
end
section
variable {Γ : Ctx} {k : Nat} {L : Sl} {H : Hp} {K : ca} {ops : List Oper} {rest : List Oper} {β : Type}
theorem ds_sort [NoDr Γ] {f g0:FuncId} {te es:Nat} {enc:β->List D} {cf:β->β->Int} (hS:SortC Γ.P f g0 te es enc cf) (l:List β) {d i:Nat} {x y:Operand} {ts:Array TypeId} {ty:TypeId} {pos:String} {af:Array Edge} {g:Option (Nat×Bool)}
  (hcall:d9 Γ.P f=true) (hx:ai L x = .row i) (hH:Hp.get H i=some (.row te es (l.map enc))) (hy:ai L y = .fn g0 []) (hyo:de y=true) (hw:aq ops L g=some true) (hd:As d Γ.n=true) (hl:l.length<4611686018427387904)
  (hk:∀ l':List β,l'.Perm l->l'.Pairwise (λa b=>cf b a ≥ 0)->DS false Γ ops rest K k ((d,.tup [])::L) (Hp.set H i (.row te es (l'.map enc)))) :
  DS false Γ ops (⟨some d,.call { callee:=.value (.func f),args:=#[x,y],argTypes:=ts },ty,pos,af,g⟩::rest) K k L H:=by
 refine jk hw λe a w m=>?_
 unfold Oper.wp;have hrun:=jc hcall a [x,y] ts (some d) ty pos af g w;rw [show #[x,y]=[x,y].toArray from rfl,hrun,Oper.upon_enter];obtain⟨hdom,hv,_⟩:=evT m hx (pu · _);have hr:=m.op y (b7 hyo);rw [hy] at hr;obtain⟨us,hu,hus⟩:=hr;cases us with
 | cons u us=>exact hus.elim
 | nil =>
  have hmem:=Hp.mem_of hH;have hown:∀ c,HB.owned e (i,.row te es (l.map enc))=some c->Γ.X e H c:=λc hc=>.inr (List.mem_filterMap.2 ⟨_,hmem,hc⟩)
  have hXl:∀ b,Γ.X e H b->b<w.heap.size:=λb hb=>hb.elim (λh=>Aq (m.obound b h).1 m.size) (m.lt b)
  have hs:=hS l hl (Γ.X e H) e w i hown hXl (m.heap _ hmem).2 (m.tabsAt.sub λ_ h=>h.elim);simp only [A7,Dh,hv,hu];refine hs.mono ?_;rintro en w' ⟨rfl,h1,h2,h3,h4,h5,l',h6,h7,h8⟩;exact⟨k,_,_,e,(m.turn (b':=.row te es (l'.map enc)) hH h1 h2 h3 h4 NoDr.any h5 rfl h8).put (s:=.tup []) (Ac hd) ⟨[],rfl,trivial⟩,hk l' h6 h7⟩
end
open Go Go.RowKit
variable [Bnds]
theorem sortFactsO_c:SortC Tryz.prog 133 52 37 2 ip cu:=λl hl _ _ _ _ h1 h2 h3 h4 =>
 sort_rowK (ρ:=Tryz.sortFacts_ren) Tryz.sortFacts 2 Tryz.isAgg37 Tryz.sizeOf37 ip (λ_=>rfl) cu swoF 52 (λa b=>(orderF_fnD true a b).ofWeak _ rfl) 37 l hl h1 h2 h3 h4
end
section
open Go Go.RowKit
variable [Bnds]
def flatD (xs:List (List D)):List SV:=xs.flatten.map .d
theorem flat_rel {X e w es}:∀ (xs:List (List D)) (us:List Value),us.length=xs.length*es->(∀ i (hi:i<xs.length),(xs[i]'hi).length=es) ->
  (∀ i (hi:i<xs.length) j (hj:j<(xs[i]'hi).length),∃ v,us[i*es+j]?=some v/\RepC X w v ((xs[i]'hi)[j]'hj))->RelL X e w (flatD xs) us
 | [],us,hl,_,_=>by
  have:us=[]:=Bm (by simpa using hl)
  subst this;exact trivial
 | x::xs,us,hl,he,hr=>by
  have hx:=he 0 (by simp);simp only [Dl] at hx;have hl':us.length=xs.length*es+es:=by rw [hl,Bn,B4];omega
  rw [show us=us.take es++us.drop es from (Dx es us).symm];unfold flatD;rw [C7,List.map_append];refine RelL.append _ _ _ _ (RelL.mk _ _ (by simp;omega) λj s v hs hv=>?_) (flat_rel (es:=es) xs (us.drop es) (by simp;omega) (λi hi=>he (i+1) (by simpa using hi)) λi hi j hj=>?_)
  ·rw [List.getElem?_map] at hs;cases hxj:x[j]? with
   | none=>rw [hxj] at hs;cases hs
   | some d =>
    rw [hxj] at hs;simp only [Option.map_some,Option.some.injEq] at hs;subst hs;obtain⟨hj,hd⟩:=List.getElem?_eq_some_iff.1 hxj;obtain⟨u,h1,h2⟩:=hr 0 (by simp) j (by simpa using hj);rw [F3,Da] at h1;rw [Br,if_pos (by omega),h1] at hv;cases hv;have:(x::xs)[0]=x:=rfl
    simp only [Dl,hd] at h2;exact h2
  ·obtain⟨u,h1,h2⟩:=hr (i+1) (by simpa using hi) j hj;refine⟨u,?_,h2⟩
   rw [Fb,<- h1];congr 1;rw [B4];omega
mutual
theorem SV.ren_low0 (ρ:Nat->Nat):∀ (s:SV),s.low 0=true->s.ren ρ=s
 | .junk,_=>rfl
 | .d _,_=>rfl
 | .nils,_=>rfl
 | .pd _,_=>rfl
 | .loc _ _,h=>by simp [SV.low,As] at h
 | .row _,h=>by simp [SV.low,As] at h
 | .mp _,h=>by simp [SV.low,As] at h
 | .md _ _,_=>rfl
 | .prow _ _ _ _,h=>by simp [SV.low,As] at h
 | .sl _ _ _ _,h=>by simp [SV.low,As] at h
 | .rsl _ _ _ _,h=>by simp [SV.low,As] at h
 | .rg _ _ _,_=>rfl
 | .fn f caps,h=>by simp only [SV.ren,SV.renL_low0 ρ caps h]
 | .agg ss,h=>by simp only [SV.ren,SV.renL_low0 ρ ss h]
 | .tup ss,h=>by simp only [SV.ren,SV.renL_low0 ρ ss h]
 | .val _,_=>rfl
theorem SV.renL_low0 (ρ:Nat->Nat):∀ (ss:List SV),SV.lowL 0 ss=true->SV.renL ρ ss=ss
 | [],_=>rfl
 | s::ss,h=>by
  simp only [SV.lowL,Ad] at h
  simp only [SV.renL,SV.ren_low0 ρ s h.1,SV.renL_low0 ρ ss h.2]
end
mutual
theorem SV.low_mono (k:Nat):∀ (s:SV),s.low 0=true->s.low k=true
 | .junk,_=>rfl
 | .d _,_=>rfl
 | .nils,_=>rfl
 | .pd _,_=>rfl
 | .loc _ _,h=>by simp [SV.low,As] at h
 | .row _,h=>by simp [SV.low,As] at h
 | .mp _,h=>by simp [SV.low,As] at h
 | .md _ _,_=>rfl
 | .prow _ _ _ _,h=>by simp [SV.low,As] at h
 | .sl _ _ _ _,h=>by simp [SV.low,As] at h
 | .rsl _ _ _ _,h=>by simp [SV.low,As] at h
 | .rg _ _ _,_=>rfl
 | .fn f caps,h=>SV.lowL_mono k caps h
 | .agg ss,h=>SV.lowL_mono k ss h
 | .tup ss,h=>SV.lowL_mono k ss h
 | .val _,_=>rfl
theorem SV.lowL_mono (k:Nat):∀ (ss:List SV),SV.lowL 0 ss=true->SV.lowL k ss=true
 | [],_=>rfl
 | s::ss,h=>by
  simp only [SV.lowL,Ad] at h ⊢
  exact⟨SV.low_mono k s h.1,SV.lowL_mono k ss h.2⟩
end
theorem nt {ρ:Nat->Nat} {ty:TypeId} {cs:List SV} (h:SV.lowL 0 cs=true):some (HB.blk ty cs)=some ((HB.blk ty cs).ren ρ):=by
 simp only [HB.ren,SV.renL_low0 ρ cs h]
theorem f8 {k:Nat}:∀ {a b:List SV},SV.lowL k a=true->SV.lowL k b=true->SV.lowL k (a++b)=true
 | [],_,_,h=>h
 | s::a,b,h,g=>by
  simp only [SV.lowL,List.cons_append,Ad] at h ⊢
  exact⟨h.1,f8 h.2 g⟩
theorem ml {k:Nat}:∀ {a:List SV} (n:Nat),SV.lowL k a=true->SV.lowL k (a.take n)=true
 | _,0,_=>rfl
 | [],_+1,_=>rfl
 | s::a,n+1,h=>by
  simp only [SV.lowL,List.take_succ_cons,Ad] at h ⊢
  exact⟨h.1,ml n h.2⟩
theorem mo {k:Nat}:∀ {a:List SV} (n:Nat),SV.lowL k a=true->SV.lowL k (a.drop n)=true
 | _,0,h=>h
 | [],_+1,_=>rfl
 | s::a,n+1,h=>by
  simp only [SV.lowL,List.drop_succ_cons,Ad] at h ⊢
  exact mo n h.2
theorem kn {k:Nat}:∀ (n:Nat),SV.lowL k (An n .junk)=true
 | 0=>rfl
 | n+1=>by
  rw [List.replicate_succ]
  simp only [SV.lowL,Ad]
  exact⟨rfl,kn n⟩
theorem mn {k:Nat} {a b:List SV} {o:Nat} (h:SV.lowL k a=true) (g:SV.lowL k b=true):SV.lowL k (fm a o b)=true:=f8 (f8 (ml _ h) g) (mo _ h)
section
variable {P : Program} (w : World)
theorem qj (t ty e:TypeId) (i:TypeInfo) (ht:P.underlying t=some (.slice e)) (hi:P.info? e=some i)
  (g o sLen sCap:Nat) (tb:TypeId) (cur:Array Value) (hg:w.heap[g]?=some (.cells cur tb (0,0)))
  (a:Addr) (m c:Nat) (news:List Value) (hl:news.length=m*i.size) (hnews:∀ j u,news[j]?=some u->w.cell? (a.add j)=some u) (h1:∀ u∈news,u.oneCell'=true)
  (hroom:sLen+m<=sCap) (hfit:o+sLen*i.size+news.length<=cur.size) :
  (Builtin.append_ #[t,t] ty #[.slice (some ⟨g,o,none⟩) sLen sCap,.slice (some a) m c]).run P w =
   .ok (.slice (some ⟨g,o,none⟩) (sLen+m) sCap) (w.setRow g (cur.toList.take (o+sLen*i.size)++news++cur.toList.drop (o+sLen*i.size+news.length)).toArray):=by
 have hf:=run_firstCells_some (P:=P) w i.size m a m c news hl hnews;have hst:=run_storeCells_at P g (o+sLen*i.size) tb news 0 cur w hg (by simpa using hfit) h1;simp only [Nat.add_zero] at hst;simp [Builtin.append_,run_underlying ht,sizeOf,typeInfo,hi,Builtin.lenOf,hroom,hf,Addr.add_lit,hst]
end
theorem kx {z:Array Value} {n:Nat} {v:Value} (h:v∈(Builtin.zeroCells z n).toList):v∈z.toList:=by
 unfold Builtin.zeroCells at h;simp only [Array.toList_map,Array.toList_range,List.mem_map,List.mem_range] at h;obtain⟨i,hi,rfl⟩:=h;have hpos:0<z.size:=by
  rcases Gz z.size with h0|h0
  ·rw [h0,Nat.mul_zero] at hi;omega
  ·exact h0
 have:=E8 i hpos
 simp [this]
theorem junk_rel {X e w}:∀ (n:Nat) (vs:List Value),vs.length=n->RelL X e w (An n .junk) vs
 | 0,[],_=>trivial
 | n+1,[],h=>by simp at h
 | 0,_::_,h=>by simp at h
 | n+1,v::vs,h=>⟨trivial,junk_rel n vs (by simpa using h)⟩
section
variable {Γ : Ctx} {k : Nat} {L : Sl} {H : Hp} {K : ca} {ops : List Oper} {rest : List Oper} {t t' ty : TypeId} {x y : Operand}
theorem ds_bs_sl {d te es len:Nat} {pos:String} {af:Array Edge} {g:Option (Nat×Bool)} {ps:List (Nat×Operand)} {cs':List SV} (ht:Γ.sh t = .slice te) (hkn:(Γ.sh te).known=true) (hes:Γ.cells te=es) (hpos:As 0 es=true) (hz:ek (aj Γ.τ te).zero=true) (hzl:Aw (aj Γ.τ te).zero.length (Γ.cells te)=true) (hok:jz ps=true)
  (hlen:Nat.ble (len*es) 16777216=true) (hf:nk (λi=>some (i*es,es)) (qt (ly Γ.τ te) (len*es)) (jy L ps)=some cs') (hw:aq ops L g=some true) (hd:As d Γ.n=true)
  (hk:DS false Γ ops rest K (k+1) ((d,.sl k 0 len len)::L) ((k,.blk te cs')::H))  :DS false Γ ops (⟨some d,.buildSlice t len ps.toArray,ty,pos,af,g⟩::rest) K k L H:=by
 refine jk hw λe a w m=>?_
 obtain⟨vs',f2,f3,hrun⟩:=m9 (ty:=ty) ht hkn hes hpos hz hzl hok hlen hf m;unfold Oper.wp;rw [hrun];have m2:=(m.alloc (jf k) te f2 f3).cast (gv k);rw [Gm] at m2;have hlm:len<=maxLen:=by
  have h1:=Ac hlen;have h2:=Ac hpos;have:len<=len*es:=Nat.le_mul_of_pos_right _ h2
  unfold maxLen;omega
 refine⟨_,_,_,_,m2.put (s:=.sl k 0 len len) (Ac hd) ⟨.inr rfl,Af _,hlm,0,?_,λ_=>rfl⟩,hk⟩
 show _=Value.slice (some ⟨(e.bind k w.heap.size).β k,0,none⟩) len len;rw [show (e.bind k w.heap.size).β k=w.heap.size from if_pos rfl]
theorem ds_append_sl {d te t2 i off n cap es:Nat} {cs:List SV} {ys:List (List D)} {pos:String} {af:Array Edge} {g:Option (Nat×Bool)}
  (ht:Γ.sh t = .slice te) (hkn:(Γ.sh te).known=true) (hes:Γ.cells te=es) (hpos:As 0 es=true) (hz:Aw (aj Γ.τ te).zero.length (Γ.cells te)=true) (hzo:ek (aj Γ.τ te).zero=true)
  (hx:ai L x = .sl i off n cap) (hH:Hp.get H i=some (.blk te cs)) (hfit:off+cap*es<=cs.length) (hy:ai L y = .d (.slice es ys)) (hne:ys≠[]) (hw:aq ops L g=some true) (hd:As d Γ.n=true)
  (hroom:(n+ys.length)*(aj Γ.τ te).bytes<=140737488355328) (h63:n+ys.length<=maxLen)
  (hk1:n+ys.length<=cap->DS false Γ ops rest K k ((d,.sl i off (n+ys.length) cap)::L) (Hp.set H i (.blk te (fm cs (off+n*es) (flatD ys)))))
  (hk2:∀ cap',cap<n+ys.length->n+ys.length<=cap'->cap'<=maxLen->DS false Γ ops rest K (k+1) ((d,.sl k 0 (n+ys.length) cap')::L) ((k,.blk te ((cs.drop off).take (n*es)++flatD ys++An ((cap'-(n+ys.length))*es) .junk))::H)) :
  DS false Γ ops (⟨some d,.call { callee:=.builtin .append,args:=#[x,y],argTypes:=#[t,t] },t2,pos,af,g⟩::rest) K k L H:=by
 refine jk hw λe a w m=>?_
 obtain⟨inf,zv,hi,hzz,hs,hb,hzc⟩:=Ctx.info (Sh.known_ne hkn);have hut:=Ctx.slice ht;obtain⟨hdom,hnc,hcm,o',hvx,ho'⟩:=evT m hx (cSV_sl · _ _ _ _);have hry:=evT m hy (og · _ _);obtain⟨vs,hh,hcs,hone⟩:=(m.heap _ (Hp.mem_of hH)).2;have hvl:=RelL.length _ _ hcs;have hsz:inf.size=es:=by rw [hs,hes]
 have hpos':=Ac hpos;obtain⟨ao,capy,hvy,_,_,hnone⟩:=hry.slice_inv;cases ao with
 | none=>exact absurd (hnone rfl) hne
 | some ad =>
  have hr:=hry;rw [hvy] at hr;obtain⟨_,hye,us,u1,u2,u3,u4⟩:=sliceAddr hr;have hyl:0<ys.length:=List.length_pos_iff.2 hne;have huflat:RelL (Γ.X e H) e w (flatD ys) us:=flat_rel ys us u1 hye u4;have hul:=RelL.length _ _ huflat;by_cases hcap:n+ys.length<=cap
  ·have hoo:o'=off:=ho' (by omega);subst hoo;have hfit2:o'+n*inf.size+us.length<=vs.toArray.size:=by
    rw [u1,hsz,List.size_toArray,<- hvl,Nat.add_assoc,<- B4];exact Ar (Nat.add_le_add_left (Bc _ hcap) _) hfit
   have hrun:=qj (P:=Γ.P) w t t2 te inf hut hi (e.β i) o' n cap te vs.toArray hh ad ys.length capy us (by rw [hsz];exact u1) u2 u3 hcap hfit2;have hop:(execOp a.eval ⟨some d,.call { callee:=.builtin .append,args:=#[x,y],argTypes:=#[t,t] },t2,pos,af,g⟩).run Γ.P w = .ok (.value (.slice (some ⟨e.β i,o',none⟩) (n+ys.length) cap)) (w.setRow (e.β i) (vs.toArray.toList.take (o'+n*inf.size)++us++vs.toArray.toList.drop (o'+n*inf.size+us.length)).toArray):=by
    simp only [execOp,resolve,invoke,builtin,Sem.run_bind,Sem.run_pure,Result.andThen_ok,Ee,A7,Dh,hvx,hvy,hrun]
   unfold Oper.wp;rw [hop];have m2:Models Γ (lo k) L (Hp.set H i (.blk te (fm cs (o'+n*es) (flatD ys)))) e a (w.setRow (e.β i) (vs.toArray.toList.take (o'+n*inf.size)++us++vs.toArray.toList.drop (o'+n*inf.size+us.length)).toArray):=by
    refine m.turn (b':=.blk te (fm cs (o'+n*es) (flatD ys))) hH ?_ rfl rfl rfl (λ_=>Af _) (λc _ hc=>setRow_other w _ c _ (λh=>hc (by simp [HB.owned,h]))) rfl ?_
    ·simp [World.setRow]
    ·refine⟨_,setRow_heap w (e.β i) vs.toArray _ te (0,0) hh,?_,λv hv=>?_⟩
     ·have hkeep:∀ b,b<w.heap.size->¬ Γ.X e H b->(w.setRow (e.β i) (vs.toArray.toList.take (o'+n*inf.size)++us++vs.toArray.toList.drop (o'+n*inf.size+us.length)).toArray).heap[b]?=w.heap[b]?:=λb _ hb=>setRow_other w _ b _ (λh=>hb (.inr (List.mem_filterMap.2 ⟨_,Hp.mem_of hH,by simp [HB.owned,h]⟩)))
      refine RelL.keep (by simp [World.setRow]) hkeep (λ_ _ h=>h) _ _ ?_;unfold fm;rw [hsz,hul];exact RelL.append _ _ _ _ (RelL.append _ _ _ _ (RelL.take _ _ hcs _) huflat) (RelL.drop _ _ hcs _)
     ·simp only [Bq] at hv;rcases hv with (hv|hv)|hv
      ·exact hone v (B1 hv)
      ·exact u3 v hv
      ·exact hone v (Bv hv)
   exact⟨_,_,_,_,m2.put (s:=.sl i o' (n+ys.length) cap) (Ac hd) ⟨hdom,hcap,hcm,o',rfl,λ_=>rfl⟩,hk1 hcap⟩
  ·have hlt:cap<n+ys.length:=by omega
   have hol:((vs.drop off).take (n*es)).length=n*inf.size:=by
    rw [Au,B9,<- hvl,hsz];have:n*es<=cap*es:=Bc _ hnc
    omega
   have holds:∀ j v,((vs.drop off).take (n*es))[j]?=some v->w.cell? ((⟨e.β i,o',none⟩:Addr).add j)=some v:=by
    intro j v hj;have hjl:j<n*es:=by
     rw [Br] at hj;split at hj
     ·assumption
     ·cases hj
    have hn0:0<cap:=by
     rcases Gz n with h|h
     ·rw [h,F3] at hjl;omega
     ·omega
    have hoo:=ho' hn0;subst hoo;rw [Br,if_pos hjl,Fb] at hj;rw [Addr.add_at,cell_of_row w _ _ _ te (0,0) hh];simpa using hj
   have h63':((n+ys.length:Nat):Int)<=9223372036854775807:=by unfold maxLen at h63;omega
   have hrun:=run_append_grow (P:=Γ.P) w t t2 te inf zv hut hi hzz ⟨e.β i,o',none⟩ n cap ((vs.drop off).take (n*es)) hol holds ad ys.length capy us (by rw [hsz];exact u1) u2 hlt h63' (growslice_fits hlt (by rw [hb];exact hroom));have hge:=grownCap_ge w (n+ys.length) cap te;have hcm':grownCap w (n+ys.length) cap te<=maxLen:=grownCap_le_maxLen w (n+ys.length) cap te h63;generalize grownCap w (n+ys.length) cap te=c' at hrun hge hcm';have hop:(execOp a.eval ⟨some d,.call { callee:=.builtin .append,args:=#[x,y],argTypes:=#[t,t] },t2,pos,af,g⟩).run Γ.P w = .ok (.value (.slice (some ⟨w.heap.size,0,none⟩) (n+ys.length) c'))
     (w.drew.alloc (.cells (((vs.drop off).take (n*es)).toArray++us.toArray++Builtin.zeroCells zv.cells (c'-(n+ys.length))) te)):=by
    simp only [execOp,resolve,invoke,builtin,Sem.run_bind,Sem.run_pure,Result.andThen_ok,Ee,A7,Dh,hvx,hvy,hrun]
   unfold Oper.wp;rw [hop];have m1:Models Γ (lo k) L H e a w.drew:=m.below ((Beld.refl _ _ _).drew);have hzsz:zv.cells.size=es:=by rw [<- A4,hzc,Aj hz,hes]
   have m2:=(m1.alloc (jf k) (cs:=(cs.drop off).take (n*es)++flatD ys++An ((c'-(n+ys.length))*es) .junk)
    (vs:=(vs.drop off).take (n*es)++us++(Builtin.zeroCells zv.cells (c'-(n+ys.length))).toList) te
    (RelL.append _ _ _ _ (RelL.append _ _ _ _ (RelL.take _ _ (RelL.drop _ _ (RelL.keep (w:=w) (w':=w.drew) (Af _) (λ_ _ _=>rfl) (λ_ _ h=>h) _ _ hcs) _) _) (RelL.keep (w:=w) (w':=w.drew) (Af _) (λ_ _ _=>rfl) (λ_ _ h=>h) _ _ huflat)) (junk_rel _ _ (by rw [A4,size_zeroCells,hzsz])))
    (λv hv=>by
     simp only [Bq] at hv;rcases hv with (hv|hv)|hv
     ·exact hone v (Bv (B1 hv))
     ·exact u3 v hv
     ·have:=kx hv
      rw [hzc] at this;exact (fg (X:=Γ.X e H) (e:=e) (w:=w) _ hzo).2 v this)).cast (gv k)
   have harr:((vs.drop off).take (n*es)++us++(Builtin.zeroCells zv.cells (c'-(n+ys.length))).toList).toArray=((vs.drop off).take (n*es)).toArray++us.toArray++Builtin.zeroCells zv.cells (c'-(n+ys.length)):=by simp
   rw [harr] at m2;refine⟨_,_,_,_,m2.put (s:=.sl k 0 (n+ys.length) c') (Ac hd) ⟨.inr rfl,hge,hcm',0,?_,λ_=>rfl⟩,hk2 c' hlt hge hcm'⟩
   show _=Value.slice (some ⟨(e.bind k w.heap.size).β k,0,none⟩) (n+ys.length) c';rw [show (e.bind k w.heap.size).β k=w.heap.size from if_pos rfl]
end
end
end Go.Proofs.YtapciiffpnociadGreat
