/- Several texts in one: GxIns GxArg GxNed DagE GxShw DagF DagG DagH DagI. Condition: none. -/
import Derived.Lib.AppendZerosOnto
import Derived.Test.YtapciiffpnociabGreatM15
set_option linter.all false
set_option maxHeartbeats 8000000
open Array renaming getElem?_toList→Bt,length_toList→A5,toList_append→C3
open Bool renaming and_eq_true→Ae,not_eq_true→C5
open Int renaming le_refl→Df
open List renaming append_assoc→Bm,drop_of_length_le→Ar,eq_nil_of_length_eq_zero→Bg,eraseIdx_eq_take_drop_succ→Dy,getElem?_append_left→Bj,getElem?_append_right→A7,getElem?_drop→Eh,getElem?_take→Bf,getElem_append_left→C9,getElem_append_right→C2,getElem_drop→Hy,getElem_mem→Ah,getElem_replicate→Eg,getElem_take→Dt,length_append→Ag,length_drop→A9,length_eraseIdx_of_lt→D4,length_map→Aa,length_replicate→Cb,length_singleton→A0,length_take→Ap,map_append→Au,map_cons→A3,map_drop→Hi,map_nil→Dm,map_take→Hh,map_toArray→D1,mem_append_left→Ax,mem_append_right→Bv,mem_of_mem_drop→B4,mem_of_mem_take→Bz,replicate→Aq,size_toArray→Hz,take_append_of_le_length→Bc,take_of_length_le→Aj,take_succ_eq_append_getElem→Am,take_take→Ir
open Nat renaming add_mul→Bq,blt→Av,le_of_ble_eq_true→Ab,le_refl→Af,le_trans→Aw,lt_of_lt_of_le→As,min→G5,min_eq_left→Ej,min_eq_right→Ib,mul_le_mul_right→A8,not_lt_zero→A2,zero_add→C4,zero_le→Ai,zero_mul→Fe
open Option renaming map_none→E3,map_some→B1
namespace Go.Proofs.YtapciiffpnociabGreat
open Tryz
open Go Go.RowKit
variable {pos:String} {af:Array Edge} {g:Option (Nat×Bool)}
section
open Go Go.RowKit
variable [Y0]
def Pd {P:Program} (w:World) (h n ty i:TypeId) (g o d p:Nat) (a:Addr) (b l:Nat) (c:Array Value) (t:TypeId) (cs:List Value) (f:TypeInfo)
  (q:P.underlying h=some (.slice i)) (hi:P.info? i=some f) (r:w.heap[g]?=some (.cells c t (0,0))) (s:cs.length=G5 b d*f.size)
  (u:∀ j v,cs[j]?=some v->w.cell? (a.add j)=some v) (z:o+cs.length<=c.size) (h1:∀ v∈cs,v.oneCell'=true) :
  (Builtin.copy_ #[h,n] ty #[.slice (some ⟨g,o,none⟩) d p,.slice (some a) b l]).run P w =
   .ok (goInt (G5 b d)) (w.setRow g (c.toList.take o++cs++c.toList.drop (o+cs.length)).toArray):=by
 have A:=run_firstCells_some (P:=P) w f.size (G5 b d) a b l cs s u;have m:=run_storeCells_at P g o t cs 0 c w r (by simpa using z) h1;simp only [Nat.add_zero] at m;simp [Builtin.copy_,run_underlying q,Builtin.lenOf,sizeOf,typeInfo,hi,A,m]
def Ex {w:World} {g:Nat} {b:Array Value} {t:TypeId} (c:w.heap[g]?=some (.cells b t (0,0))) (o:Nat) (s:Option Nat):w.frozen? ⟨g,o,s⟩=false:=by unfold World.frozen?;rw [c];cases s<;>simp
def Wk {P:Program} (w:World) (d tR e:TypeId) (j:P.underlying d=some (.slice e)) (c:Nat) (l:∀ w,(Go.sizeOf e).run P w=.ok c w)
  (a b:Addr) (h p i q:Nat) (m:a.block≠b.block) (r s:TypeId) (f n:Nat) (u:w.shape? a.block=some (r,f)) (v:w.shape? b.block=some (s,n)) (z:f≠0)
  (A:w.frozen? b=false) (B:w.frozen? { block:=b.block,off:=n }=false) :
  (Extern.SlicesOverlaps.overlaps #[d,d] #[tR] #[.slice (some a) h p,.slice (some b) i q]).run P w=.ok (.bool false) w:=by
 have C:(a.block != b.block)=true:=by simpa using m
 have E:(a.block==b.block)=false:=by simpa using m
 change Sem.run P (α:=Value) (do
  let some t:= (#[d, d] : Array TypeId)[0]? | stuck "slices.overlaps: no parameter types"
  let .slice elem <- underlying t | stuck "slices.overlaps: slice type expected"
  let c <- sizeOf elem
  match (some a:Option Addr),(some b:Option Addr) with
  | some a,some b =>
   if h=0∨i=0∨c=0 then pure (Value.bool false)
   else if a.block != b.block&&(<- frozen a)&&(<- frozen b) then unsupported .addressObserved
   else do
    if a.block != b.block then do
     noView a;noView b
     if <- mayBeOne a b then return Value.bool ((<- choose (.extern "sameAddr.stringBytes" 2))==1)
    pure (Value.bool (a.block==b.block&&a.off<b.off+i*c&&b.off<a.off+h*c))
  | _,_=>pure (Value.bool false)) w=_
 by_cases o:h=0∨i=0∨c=0
 ·simp [run_underlying j,l,o]
 ·cases f with
  | zero=>exact absurd rfl z
  | succ f =>
   cases F:w.frozen? a<;>cases G:w.frozen? { block:=a.block,off:=f+1 } <;>
    simp [run_underlying j,l,o,C,E,frozen,noView,viewAt,mayBeOne,stringish,shape,Sem.run,u,v,A,B,F,G]
section
variable {Γ : Ctx} {kk : Nat -> Prop} {L : Sl} {H : Hp} {a : Act} {w : World} {e : Env}
def Zk (m:J0 Γ kk L H e a w) {i es g n c:Nat} {tb:TypeId} {xs:List (List D)} (hH:Hp.get H i=some (.row tb es xs)) (h:e.η i=.slice (some ⟨g,0,none⟩) n c) :
  ∃ (b:Array Value) (vs:List Value),w.heap[g]?=some (.cells b tb (0,0))/\n=xs.length/\xs.length<=c/\c<=maxLen/\b.size=c*es/\b.toList.take (xs.length*es)=vs/\vs.length=xs.length*es /\
   (∀ p (f:p<xs.length),(xs[p]'f).length=es)/\(∀ v∈vs,v.oneCell'=true)/\∀ p (f:p<xs.length) q (l:q<(xs[p]'f).length),∃ v,vs[p*es+q]?=some v/\Q0 (Γ.X e H) w v ((xs[p]'f)[q]'l):=by
 obtain⟨vs,j,o,r,s⟩:=(m.heap _<|Hp.mem_of hH).2;rcases j.2 with ⟨d,_⟩|⟨E,F,b,d,_,u,z,A,B,C⟩
 ·rw [h] at d;cases d
 ·rw [h] at d;cases d;exact⟨b,vs,u,rfl,z,A,B,C,j.1,o,r,s⟩
def Xy {w:World} {g:Nat} {b:Array Value} {t:TypeId} (c:w.heap[g]?=some (.cells b t (0,0))) (j:Nat):w.cell? ⟨g,j,none⟩=b[j]?:=by simp [World.cell?,c]
def Uk {es:Nat} {xs:List (List D)} {vs:List Value} (u:vs.length=xs.length*es) (h:∀ p (b:p<xs.length),(xs[p]'b).length=es) {X:Nat->Prop} {w:World} (l:∀ p (b:p<xs.length) q (c:q<(xs[p]'b).length),∃ v,vs[p*es+q]?=some v/\Q0 X w v ((xs[p]'b)[q]'c))
  {j q:Nat} (m:j+q<=xs.length):((vs.drop (j*es)).take (q*es)).length=((xs.drop j).take q).length*es/\(∀ p (b:p<((xs.drop j).take q).length),(((xs.drop j).take q)[p]'b).length=es) /\
   ∀ p (b:p<((xs.drop j).take q).length) r (d:r<(((xs.drop j).take q)[p]'b).length),∃ v,((vs.drop (j*es)).take (q*es))[p*es+r]?=some v/\Q0 X w v ((((xs.drop j).take q)[p]'b)[r]'d):=by
 have c:((xs.drop j).take q).length=q:=by rw [Ap,A9];omega
 have f:∀ p (b:p<((xs.drop j).take q).length),((xs.drop j).take q)[p]'b=xs[j+p]'(by omega):=λp b=>by rw [Dt,Hy]
 have z:j*es+q*es<=xs.length*es:=by rw [<- Bq];exact A8 _ m
 refine⟨by rw [c,Ap,A9];omega,λp b=>by rw [f p b];exact h _ _,λp b r d=>?_⟩
 have i:r<(xs[j+p]'(by omega)).length:=by rw [<- f p b];exact d
 obtain⟨v,n,o⟩:=l (j+p) (by omega) r i;refine⟨v,?_,by simpa [f p b] using o⟩
 have A:r<es:=by rw [<- h (j+p) (by omega)];exact i
 have s:p*es+r<q*es:=by
  have:(p+1)*es<=q*es:=A8 _<|by omega
  rw [Bq] at this;omega
 rw [Bf,if_pos s,Eh,<- n];congr 1;rw [Bq];omega
end
section
variable {Γ : Ctx} {k : Nat} {L : Sl} {H H' : Hp} {K : cn} {ops : List Oper} {rest : List Oper} {t t' : TypeId} {x y : Operand}
def vC {kk:Nat->Prop} {a:Act} {w:World} {e:Env} (m:J0 Γ kk L H e a w) {i:Nat} {v:Value} (b:Av i Γ.J=true) (c:(Γ.K1 i).2=v):e.η i=v:=by
 have:=m.anchor i<|Ab b
 rw [<- c,<- this];rfl
def IP {d i es:Nat} {tb ty:TypeId} {xs:List (List D)} (q:aj L x=.row i) (hH:Hp.get H i=some (.row tb es xs)) (r:Av i Γ.J=true) (l:(ai Γ.τ t).sh=.slice t') (u:ap ops L g=some true) (o:Av d Γ.n=true)
  (z:xs=[]->DS false Γ ops rest K k ((d,.d (.int .i64 0))::L) H)
  (h1:∀ h c,(Γ.K1 i).2=.slice (some ⟨h,0,none⟩) xs.length c->xs.length<=c->c<=maxLen->DS false Γ ops rest K k ((d,.d (.int .i64 c))::L) H) :
  DS false Γ ops (⟨some d,.call { callee:=.builtin .cap,args:=#[x],argTypes:=#[t] },ty,pos,af,g⟩::rest) K k L H:=by
 refine gj u λe a w m=>?_
 obtain⟨_,b,_⟩:=Q5 m q (nz · _);have A:=m.anchor i<|Ab r;obtain⟨F,B,_⟩:=(m.heap _<|Hp.mem_of hH).2;rcases B.2 with ⟨f,C⟩|⟨h,c,G,f,_,_,E,p,_⟩
 ·rw [f] at b;have j:(execOp a.eval ⟨some d,.call { callee:=.builtin .cap,args:=#[x],argTypes:=#[t] },ty,pos,af,g⟩).run Γ.P w=.ok (.value<|.int .i64 0) w:=by
   simp [execOp,resolve,invoke,builtin,b,Builtin.cap_,goInt,run_underlying<|Ctx.slice l]
  unfold Oper.wp;rw [j];exact⟨k,_,H,e,m.put (s:=.d<|.int .i64 0) (v:=.int .i64 0) (Ab o) (Q0.int<|by decide),z<|Bg C⟩
 ·rw [f] at b;have j:(execOp a.eval ⟨some d,.call { callee:=.builtin .cap,args:=#[x],argTypes:=#[t] },ty,pos,af,g⟩).run Γ.P w=.ok (.value<|.int .i64 c) w:=by
   simp [execOp,resolve,invoke,builtin,b,Builtin.cap_,goInt,run_underlying<|Ctx.slice l]
  unfold Oper.wp;rw [j];exact⟨k,_,H,e,m.put (s:=.d<|.int .i64 c) (v:=.int .i64 c) (Ab o) (Q0.int<|WalkArith.wf_i64<|by unfold maxLen at p;omega),h1 h c (by rw [<- f];exact (congrArg Prod.snd A).symm) E p⟩
def bK (s:SV) (a b:Nat):ks a (some s)=ks b (some s):=by unfold ks;split<;>first|rfl|simp_all
def Qi {kk:Nat->Prop} {i es b f c:Nat} {ty:TypeId} {hi:Option Operand} {m':Int} {len:Nat} (h:(ai Γ.τ t).sh=.slice t') (q:(ai Γ.τ t').sh.known=true) (u:aj L x=.row i) (v:Av i Γ.J=true) (A:(Γ.K1 i).2=.slice (some ⟨b,0,none⟩) f c)
  (j:ks len (hi.map (aj L))=some m') (B:hi=none->len=f) (C:0<=m') (F:m'<=c) (r:c<=maxLen):Ev Γ kk L H (.slice t x none hi none) ty (.R5 i es 0 m'.toNat):=by
 intro e a w m;obtain⟨s,l,_⟩:=Q5 m u (nz · _);have o:=vC m v A;rw [o] at l;cases hi with
 | none =>
  have E:=B rfl;subst E;cases j;have p:=λd=>mj (len:=len) (cap:=c) (lo:=none) (hi:=none) (n:=0) (m':=len) m (some ⟨b,0,none⟩) h q rfl rfl (Df 0) (by omega) (by omega) d
  refine⟨sliced (some ⟨b,0,none⟩) 0 len c (Γ.cells t'),λ_ _ _ _ d _=>?_,s,?_,.inr ⟨b,len,c,0,o,Ai _,r,by omega,?_,λ_=>by simp⟩⟩
  ·have:=p d
   simp only [E3] at this;simp [execOp,Instr.sliceAt,l,run_underlying (Ctx.slice h),this]
  ·unfold sliced;split<;>rfl
  ·unfold sliced;split<;>simp [Addr.Y3]
 | some z =>
  rw [B1,bK _ len f] at j;have p:=λd=>mj (len:=f) (cap:=c) (lo:=none) (hi:=some z) (n:=0) (m':=m') m (some ⟨b,0,none⟩) h q rfl j (Df 0) C (by omega) d
  refine⟨sliced (some ⟨b,0,none⟩) 0 m'.toNat c (Γ.cells t'),λ_ _ _ _ d _=>?_,s,?_,.inr ⟨b,f,c,0,o,Ai _,r,by omega,?_,λ_=>by simp⟩⟩
  ·have:=p d
   simp only [E3,B1] at this;simp [execOp,Instr.sliceAt,l,run_underlying (Ctx.slice h),this]
  ·unfold sliced;split<;>rfl
  ·unfold sliced;split<;>simp [Addr.Y3]
def XD {kk:Nat->Prop} {i es j len:Nat} {tb ty:TypeId} {xs:List (List D)} {lo hi:Operand} {n m':Int} (p:(ai Γ.τ t).sh=.slice t') (hc:(ai Γ.τ t').cells=es) (r:(ai Γ.τ t').sh.known=true) (s:aj L x=.R5 i es j len) (hH:Hp.get H i=some (.row tb es xs))
  (u:aj L lo=.d (.int .i64 n)) (v:aj L hi=.d (.int .i64 m')) (z:0<=n) (h1:n<=m') (P:j+m'.toNat<=xs.length) (Q:0<xs.length):Ev Γ kk L H (.slice t x (some lo) (some hi) none) ty (.R5 i es (j+n.toNat) (m'.toNat-n.toNat)):=by
 intro e a w m;obtain⟨A,_,B⟩:=Q5 m s (m8 · _ _ _ _);rcases B with ⟨c,q,rfl,rfl⟩|⟨g,C,b,o,c,R,E,S,q,F⟩
 ·obtain⟨G,I,_⟩:=(m.heap _<|Hp.mem_of hH).2;rcases I.2 with ⟨_,f⟩|⟨T,U,J,f,_⟩
  ·omega
  ·rw [c] at f;cases f
 ·obtain⟨J,G,_,V,W,_⟩:=Zk m hH c;have M:=λl=>mj (len:=len) (cap:=b-j) (lo:=some lo) (hi:=some hi) (n:=n) (m':=m') m (some ⟨g,o,none⟩) p r (by simp [yb,u]) (by simp [ks,v]) z h1 (by omega) l
  refine⟨sliced (some ⟨g,o,none⟩) n.toNat m'.toNat (b-j) (Γ.cells t'),λ_ _ _ _ l _=>?_,A,?_,.inr ⟨g,C,b,if b-j=n.toNat then o else o+n.toNat*es,c,by omega,E,by omega,?_,?_⟩⟩
  ·have:=M l
   simp only [B1] at this;simp [execOp,Instr.sliceAt,q,run_underlying (Ctx.slice p),this]
  ·unfold sliced;split<;>rfl
  ·unfold sliced;split
   ·rw [Nat.sub_sub]
   ·rw [B1,Addr.Y3,Nat.sub_sub];have N:Γ.cells t'=es:=hc;rw [N]
  ·intro h;have O:j<b∨j=0:=by omega
   have:=F O
   subst this;split
   ·rename_i X;rcases h with h|h
    ·omega
    ·have:n.toNat=0:=by omega
     rw [this,Nat.add_zero]
   ·rw [Bq]
def iP {kk:Nat->Prop} {i es:Nat} {tb ty:TypeId} {xs:List (List D)} {lo hi q:Operand} {n m' p:Int} (j:(ai Γ.τ t).sh=.slice t') (E:(ai Γ.τ t').sh.known=true) (F:aj L x=.row i) (hH:Hp.get H i=some (.row tb es xs))
  (G:aj L lo=.d (.int .i64 n)) (I:aj L hi=.d (.int .i64 m')) (J:aj L q=.d (.int .i64 p)) (M:0<=n) (h1:n<=m') (W:m'<=p) (X:p<=xs.length):Ev Γ kk L H (.slice t x (some lo) (some hi) (some q)) ty .V1:=by
 intro e a w m;obtain⟨Y,f,_⟩:=Q5 m F (nz · _);obtain⟨r,z,N,_,Z,_⟩:=Ctx.info<|Sh.Y1 E;have s:=R8 m G;have u:=R8 m I;have A:=R8 m J;obtain⟨vs,O,_⟩:=(m.heap _<|Hp.mem_of hH).2;have B:∀ (h:Option Addr) (C c:Nat),xs.length<=c->∃ v,∀ b,(Instr.slice t (.slice h C c) (some<|.int .i64 n) (some<|.int .i64 m')<|some<|.int .i64 p).run Γ.P b=.ok v b:=by
  intro h C c hc;have Q:n<=max m' 0:=by omega
  have R:m'<=max p 0:=by omega
  have S:p<=(c:Int):=by omega
  have T:0<=m':=by omega
  have U:0<=p:=by omega
  refine⟨.slice (if p.toNat=n.toNat then h else h.map (·.add (n.toNat*r.size))) (m'.toNat-n.toNat) (p.toNat-n.toNat),λb=>?_⟩
  have V:(sizeOf t').run Γ.P b=.ok r.size b:=c9 N b;simp [Instr.slice,run_underlying (Ctx.slice j),Instr.sliceBounds,Instr.sliceBound,asIntOf,Q,R,S,M,T,U,V,Result.andThen]
 rcases O.2 with ⟨l,h4⟩|⟨g,c,a0,l,_,_,a1,a2,_⟩
 ·rw [l] at f;obtain⟨v,o⟩:=B none 0 0 (by omega);refine⟨v,λ_ _ _ _ b _=>?_,trivial⟩
  simp [execOp,Instr.sliceAt,f,run_underlying (Ctx.slice j),s,u,A,o b]
 ·rw [l] at f;obtain⟨v,o⟩:=B (some ⟨g,0,none⟩) xs.length c (by omega);refine⟨v,λ_ _ _ _ b _=>?_,trivial⟩
  simp [execOp,Instr.sliceAt,f,run_underlying (Ctx.slice j),s,u,A,o b]
def iC {kk:Nat->Prop} {a:Act} {w:World} {e:Env} (m:J0 Γ kk L H e a w) {d i es j n l r:Nat} {tb ty t2:TypeId} {xs ys:List (List D)} {N:List Value} {o:Addr}
  (B:aj L x=.R5 i es j n) (hH:Hp.get H i=some (.row tb es xs)) (C:(ai Γ.τ t).sh=.slice t') (E:(ai Γ.τ t').sh.known=true) (F:(ai Γ.τ t').cells=es) (s:0<ys.length) (b:ys.length=G5 l n) (G:j+ys.length<=xs.length)
  (I:a.eval y=.slice (some o) l r) (u:N.length=ys.length*es) (J:∀ p (f:p<ys.length),(ys[p]'f).length=es) (h1:∀ v∈N,v.oneCell'=true) (M:∀ p (f:p<ys.length) q (b:q<(ys[p]'f).length),∃ v,N[p*es+q]?=some v/\Q0 (Γ.X e H) w v ((ys[p]'f)[q]'b))
  (O:∀ j v,N[j]?=some v->w.cell? (o.add j)=some v) :
  ∃ w',(execOp a.eval ⟨some d,.call { callee:=.builtin .copy,args:=#[x,y],argTypes:=#[t,t2] },ty,pos,af,g⟩).run Γ.P w=.ok (.value (.int .i64 ys.length)) w'/\J0 Γ kk L (Hp.set H i (.row tb es (xs.take j++ys++xs.drop (j+ys.length)))) e a w':=by
 obtain⟨z,a4,Q,_,R,_⟩:=Ctx.info<|Sh.Y1 E;have S:z.size=es:=by rw [R];exact F
 obtain⟨_,_,T⟩:=Q5 m B (m8 · _ _ _ _);obtain⟨vs,U,_⟩:=(m.heap _<|Hp.mem_of hH).2;rcases T with ⟨h,_,rfl,rfl⟩|⟨V,n0,W,a5,h,hk,a9,hn,Y,Z⟩
 ·rw [b] at s;simp at s
 ·rcases U.2 with ⟨c,_⟩|⟨g',b0,a0,c,_,A,b1,_,_⟩
  ·rw [h] at c;cases c
  rw [h] at c;cases c;have a1:=Z (by omega);subst a1;obtain⟨a2,m2⟩:=Yk m hH (j:=j) (ys:=ys) (N:=N) G u J h1 M h A;have a3:=Pd (P:=Γ.P) w t t2 ty t' V (j*es) n (W-j) o l r a0 tb N z (Ctx.slice C) Q A (by rw [u,S,b]) O a2 h1;refine⟨_,?_,m2⟩
  simp only [execOp,resolve,invoke,builtin,Sem.run_bind,Sem.run_pure,Result.andThen_ok,D1,A3,Dm,Y,I,a3,goInt,b]
def NH {d i es j n:Nat} {tb ty t2:TypeId} {xs ys:List (List D)} (p:aj L x=.R5 i es j n) (hH:Hp.get H i=some (.row tb es xs)) (q:aj L y=.d (.slice es ys)) (r:(ai Γ.τ t).sh=.slice t') (u:(ai Γ.τ t').sh.known=true) (z:(ai Γ.τ t').cells=es)
  (b:0<ys.length) (A:ys.length<=n) (B:j+ys.length<=xs.length) (C:ap ops L g=some true) (E:Av d Γ.n=true) (c:zd H i (.row tb es (xs.take j++ys++xs.drop (j+ys.length))) some=some H') (F:DS false Γ ops rest K k ((d,.d (.int .i64 ys.length))::L) H') :
  DS false Γ ops (⟨some d,.call { callee:=.builtin .copy,args:=#[x,y],argTypes:=#[t,t2] },ty,pos,af,g⟩::rest) K k L H:=by
 rw [k9] at c;cases c;refine gj C λe a w m=>?_
 have f:=Q5 m q (ow · _ _);obtain⟨G,T,l,U,I,J⟩:=f.R4;cases G with
 | none=>exact absurd (J rfl)<|λh=>by rw [h] at b;simp at b
 | some V =>
  have o:=f;rw [l] at o;obtain⟨_,M,W,N,O,P,Q⟩:=Qk o;obtain⟨X,R,S⟩:=iC (d:=d) (ty:=ty) (t2:=t2) (pos:=pos) (af:=af) (g:=g) m p hH r u z b (Ej A).symm B l N M P Q O;unfold Oper.wp;rw [R];refine⟨k,_,_,e,S.put (s:=.d<|.int .i64 ys.length) (v:=.int .i64 ys.length) (Ab E) (Q0.int<|WalkArith.wf_i64 ?_),F⟩
  unfold maxLen at I;omega
def Ps {kk:Nat->Prop} {a:Act} {w:World} {e:Env} (m:J0 Γ kk L H e a w) {i es p len q:Nat} {tb:TypeId} {xs:List (List D)} (l:aj L y=.R5 i es p len) (hH:Hp.get H i=some (.row tb es xs)) (n:p+q<=xs.length) (W:0<q) (Y:q<=len) :
  ∃ (d:Addr) (u:Nat) (N:List Value),a.eval y=.slice (some d) len u/\N.length=((xs.drop p).take q).length*es/\(∀ r (c:r<((xs.drop p).take q).length),(((xs.drop p).take q)[r]'c).length=es)/\(∀ v∈N,v.oneCell'=true) /\
   (∀ r (c:r<((xs.drop p).take q).length) s (z:s<(((xs.drop p).take q)[r]'c).length),∃ v,N[r*es+s]?=some v/\Q0 (Γ.X e H) w v ((((xs.drop p).take q)[r]'c)[s]'z))/\∀ j v,N[j]?=some v->w.cell? (d.add j)=some v:=by
 obtain⟨_,_,f⟩:=Q5 m l (m8 · _ _ _ _);rcases f with ⟨h,_,rfl,rfl⟩|⟨A,Z,B,o,h,hk,a0,hn,C,E⟩
 ·omega
 ·obtain⟨a1,F,G,rfl,a2,a3,f,I,J,M,O,P⟩:=Zk m hH h;have Q:=E (by omega);subst Q;obtain⟨R,S,T⟩:=Uk J M P (j:=p) (q:=q) n;refine⟨⟨A,p*es,none⟩,B-p,(F.drop<|p*es).take (q*es),C,R,S,λv U=>O v (B4<|Bz U),T,λj v b=>?_⟩
  have V:j<q*es:=by
   rw [Bf] at b;split at b
   ·assumption
   ·cases b
  rw [Bf,if_pos V,Eh,<- I,Bf] at b;split at b
  ·rw [Addr.add_lit,Xy G,<- b,Bt]
  ·cases b
def HP (q:Nat) {d i es j n i2 p len:Nat} {tb u ty t2:TypeId} {xs zs:List (List D)} (z:aj L x=.R5 i es j n) (hH:Hp.get H i=some (.row tb es xs)) (c:aj L y=.R5 i2 es p len) (A:Hp.get H i2=some (.row u es zs))
  (B:(ai Γ.τ t).sh=.slice t') (C:(ai Γ.τ t').sh.known=true) (E:(ai Γ.τ t').cells=es) (f:0<q) (h:q=G5 len n) (F:p+q<=zs.length) (G:j+q<=xs.length) (I:ap ops L g=some true) (J:Av d Γ.n=true)
  (l:zd H i (.row tb es (xs.take j++(zs.drop p).take q++xs.drop (j+q))) some=some H') (M:DS false Γ ops rest K k ((d,.d (.int .i64 q))::L) H') :
  DS false Γ ops (⟨some d,.call { callee:=.builtin .copy,args:=#[x,y],argTypes:=#[t,t2] },ty,pos,af,g⟩::rest) K k L H:=by
 rw [k9] at l;cases l;refine gj I λe a w m=>?_
 have O:q<=len:=by rw [h];exact Nat.min_le_left _ _
 have b:((zs.drop p).take q).length=q:=by rw [Ap,A9];omega
 obtain⟨X,Y,N,P,Q,R,S,T,U⟩:=Ps m c A F f O;obtain⟨Z,o,r⟩:=iC (d:=d) (ty:=ty) (t2:=t2) (pos:=pos) (af:=af) (g:=g) m z hH B C E (by rw [b];exact f) (by rw [b];exact h) (by rw [b];exact G) P Q R S T U;rw [b] at o r;unfold Oper.wp;rw [o];refine⟨k,_,_,e,r.put (s:=.d<|.int .i64 q) (v:=.int .i64 q) (Ab J) (Q0.int<|WalkArith.wf_i64 ?_),M⟩
 obtain⟨_,_,V⟩:=Q5 m c (m8 · _ _ _ _);rcases V with ⟨_,_,_,rfl⟩|⟨g0,n0,a0,a1,_,_,W,hn,_⟩
 ·omega
 ·unfold maxLen at W;omega
def MH (s:Nat) {d i es p n len:Nat} {tb ty t2:TypeId} {xs:List (List D)} {U V W Y:Nat} (hx:aj L x=.R5 i es U W) (hH:Hp.get H i=some (.row tb es xs)) (hy:aj L y=.R5 i es V len) (hs:L.get s=.R5 i es 0 Y) (b2:p+1=U) (b3:n=W) (b4:p=V) (b5:xs.length+1=Y)
  (G:(ai Γ.τ t).sh=.slice t') (b6:(ai Γ.τ t').sh.known=true) (b7:(ai Γ.τ t').cells=es) (hp:p+n=xs.length) (I:n<=len) (h0:0<n) (hw:ap ops L g=some true) (hd:Av d Γ.n=true)
  (Z:zh H i some=some H') (hk:DS false Γ ops rest K (k+1) ((d,.d (.int .i64 n))::(s,.row k)::L) ((k,.row tb es (xs.take (p+1)++xs.drop p))::H')) :
  DS false Γ ops (⟨some d,.call { callee:=.builtin .copy,args:=#[x,y],argTypes:=#[t,t2] },ty,pos,af,g⟩::rest) K k L H:=by
 subst b2 b3 b4 b5;rw [ny] at Z;cases Z;refine gj hw λe a w m=>?_
 have J:(xs.drop p).length=n:=by rw [A9];omega
 have a0:(xs.drop p).take n=xs.drop p:=Aj (by omega);obtain⟨ad,c0,N,j,s1,s2,s3,s4,s5⟩:=Ps m hy hH (q:=n) (by omega) h0 I;obtain⟨a1,h3,hi,_,c1,_⟩:=Ctx.info<|Sh.Y1 b6;have c2:a1.size=es:=by rw [c1];exact b7
 obtain⟨_,_,c3⟩:=Q5 m hx (m8 · _ _ _ _);have a2:=m.slot s;rw [hs] at a2;obtain⟨_,c4,c5⟩:=a2;rcases c3 with ⟨_,_,_,rfl⟩|⟨f,n0,l,h4,A,h5,h6,hn,c6,ho⟩
 ·omega
 rcases c5 with ⟨o,_⟩|⟨g1,n1,h7,o1,o,_,_,h8,e1,e2⟩
 ·rw [A] at o;cases o
 rw [A] at o;cases o;have a3:=e2<|.inr rfl;rw [Fe] at a3;subst a3;obtain⟨c,M,hg,rfl,h9,a4,a5,e3,e4,a9,e5,e6⟩:=Zk m hH A;have e7:=ho (by omega);subst e7;rw [a0] at s1;simp only [a0] at s2 s4;have u:N.length=n*es:=by rw [s1,J]
 have e9:(p+1)*es+N.length<=c.size:=by
  rw [u,a5,<- Bq];exact A8 _<|by omega
 have g2:=Pd (P:=Γ.P) w t t2 ty t' f ((p+1)*es) n (l-(p+1)) ad len c0 c tb N a1 (Ctx.slice G) hi hg (by rw [u,c2,show G5 len n=n from Ib I]) s5 e9 s3;have g3:(execOp a.eval ⟨some d,.call { callee:=.builtin .copy,args:=#[x,y],argTypes:=#[t,t2] },ty,pos,af,g⟩).run Γ.P w=.ok (.value<|.int .i64 n) (w.setRow f (c.toList.take ((p+1)*es)++N++c.toList.drop ((p+1)*es+N.length)).toArray):=by
  simp only [execOp,resolve,invoke,builtin,Sem.run_bind,Sem.run_pure,Result.andThen_ok,D1,A3,Dm,c6,j,g2,goInt,show G5 len n=n from Ib I]
 unfold Oper.wp;rw [g3];have g4:=Hp.mem_of hH;have g5:¬ e.U4 k:=λh=>ir k<|(m.top k).1 h
 have O:(e.Q2 k<|.slice (some ⟨f,0,none⟩) (xs.length+1) l).η k=.slice (some ⟨f,0,none⟩) (xs.length+1) l:=if_pos rfl;have Q:HB.owned e (i,.row tb es xs)=some f:=by simp [HB.owned,A,Value.ownBlock]
 have B:(xs.take (p+1)++xs.drop p).length=xs.length+1:=by rw [Ag,Ap,A9];omega
 have g6:=setRow_heap w f c (c.toList.take ((p+1)*es)++N++c.toList.drop ((p+1)*es+N.length)).toArray tb (0,0) hg;have m2:=m.M5 (hb:=.row tb es<|xs.take (p+1)++xs.drop p) hH (ir k) (e':=e.Q2 k<|.slice (some ⟨f,0,none⟩) (xs.length+1) l) (w':=w.setRow f (c.toList.take ((p+1)*es)++N++c.toList.drop ((p+1)*es+N.length)).toArray) (λi=>or_congr (m.top i) Iff.rfl) (e.N3 _ _ g5) (by simp [World.setRow]) rfl rfl rfl (λ_=>Af _)
  (λb0 _ g7=>setRow_other w _ b0 _<|λh=>g7<|by rw [Q,h]) (λb0 hc=>by simp only [HB.owned,O] at hc;exact .inl<|by rw [Q];exact hc) (λhX=>by
   have g8:∀ b,b<w.heap.size->¬ Γ.X e H b->(w.setRow f (c.toList.take ((p+1)*es)++N++c.toList.drop ((p+1)*es+N.length)).toArray).heap[b]?=w.heap[b]?:=λb _ hb=>setRow_other w _ b _<|λh=>hb (.inr (List.mem_filterMap.2 ⟨_,g4,by rw [Q,h]⟩))
   have g9:(p+1)*es<=xs.length*es:=A8 _ (by omega);have C:(M.take<|(p+1)*es).length=(p+1)*es:=by rw [Ap,e4];omega
   refine⟨M.take ((p+1)*es)++N,⟨?_,.inr ⟨f,l,_,by rw [O,B],Ai _,g6,by rw [B];omega,a4,?_,?_⟩⟩,λr hr=>?_,λv j=>?_,λr hr q hq=>?_⟩
   ·rw [Ag,C,u,B,<- Bq];congr 1;omega
   ·rw [<- a5];simp only [Hz,Ag,Ap,A9,A5];omega
   ·have h1:c.toList.take ((p+1)*es)=M.take ((p+1)*es):=by rw [<- e3,Ir,Ej g9]
    rw [B,h1,Bc (by rw [Ag,C,u,<- Bq];exact A8 _<|by omega),Aj<|by rw [Ag,C,u,<- Bq];exact A8 _<|by omega]
   ·by_cases h:r<p+1
    ·rw [C9 (by rw [Ap];omega),Dt];exact a9 _ _
    ·rw [C2<|by rw [Ap];omega];exact s2 _<|by rw [J,Ap];omega
   ·rcases List.mem_append.1 j with j|j
    ·exact e5 v<|Bz j
    ·exact s3 v j
   ·have b1:∀ {v:Value} {x:D},Q0 (Γ.X e H) w v x->Q0 _ (w.setRow f (c.toList.take ((p+1)*es)++N++c.toList.drop ((p+1)*es+N.length)).toArray) v x:=λh=>Q0.N1 (by simp [World.setRow]) g8 hX h
    by_cases h:r<p+1
    ·have z:(xs.take (p+1)++xs.drop p)[r]=xs[r]'(by omega):=by rw [C9 (by rw [Ap];omega),Dt]
     have E:q<(xs[r]'(by omega)).length:=by rw [<- z];exact hq
     obtain⟨v,R,S⟩:=e6 r (by omega) q E;have i0:q<es:=by rw [<- a9 r (by omega)];exact E
     refine⟨v,?_,b1<|by simpa [z] using S⟩
     have:(r+1)*es<=(p+1)*es:=A8 _ h
     rw [Bq,Nat.one_mul] at this;rw [Bj (by omega),Bf,if_pos (by omega),R]
    ·have T:r-(p+1)<(xs.drop p).length:=by rw [J];omega
     have i1:(xs.take<|p+1).length=p+1:=by rw [Ap];omega
     have z:(xs.take (p+1)++xs.drop p)[r]=(xs.drop p)[r-(p+1)]'T:=by
      rw [C2<|by omega];congr 1;omega
     have E:q<((xs.drop p)[r-(p+1)]'T).length:=by rw [<- z];exact hq
     obtain⟨v,R,S⟩:=s4 (r-(p+1)) T q E;refine⟨v,?_,b1<|by simpa [z] using S⟩
     have h2:(p+1)*es<=r*es:=A8 _ (by omega);rw [A7 (by omega),C,<- R];congr 1;rw [Nat.sub_mul];omega)
 have F:=m2.cast<|gv k;have m4:J0 Γ (lo<|k+1) ((s,.row k)::L) ((k,.row tb es<|xs.take (p+1)++xs.drop p)::Hp.del H i) (e.Q2 k<|.slice (some ⟨f,0,none⟩) (xs.length+1) l) a (w.setRow f (c.toList.take ((p+1)*es)++N++c.toList.drop ((p+1)*es+N.length)).toArray):=by
  refine⟨F.toHeap,F.defers,F.len,λt'=>?_⟩
  rw [Sl.C1];split
  ·rename_i G;subst G;exact⟨.inr rfl,by rw [O];exact e1,c4⟩
  ·exact F.slot t'
 refine⟨k+1,_,_,_,m4.put (s:=.d<|.int .i64 n) (v:=.int .i64 n) (Ab hd) (Q0.int<|WalkArith.wf_i64 ?_),hk⟩
 unfold maxLen at a4;omega
def rH {kk : Nat -> Prop} {f : FuncId} {p : Func} {tR ty : TypeId} {U : Array TypeId} {es i j n : Nat} {tb : TypeId} {xs ys : List (List D)} (V : Γ.P.funcs[f]?=some p) (W : (p.name == "runtime.NumGoroutine")=false)
  (hb:p.body.isNone=true) (X:Extern.findNext p=none) (Y:Extern.find p=some (Extern.SlicesOverlaps.overlaps #[t,t] #[tR])) (Z:(ai Γ.τ t).sh=.slice t') (a0:(ai Γ.τ t').sh.known=true) (a1:0<es)
  (hx:aj L x=.d (.slice es ys)) (I:ys≠[]) (hy:aj L y=.R5 i es j n) (hH:Hp.get H i=some (.row tb es xs)) (a2:xs≠[]):Ev Γ kk L H (.call { callee:=.value (.func f),args:=#[x,y],argTypes:=U }) ty (.d (.bool false)):=by
 intro e a w m;have q:=Q5 m hx (ow · _ _);obtain⟨ao,J,M,c1,c2,a3⟩:=q.R4;obtain⟨_,_,a4⟩:=Q5 m hy (m8 · _ _ _ _);have c3:0<xs.length:=List.length_pos_iff.2 a2;have z:0<ys.length:=List.length_pos_iff.2 I;have N:=Hp.mem_of hH;obtain⟨a5,c4,hi,_,c5,_⟩:=Ctx.info (Sh.Y1 a0);cases ao with
 | none=>exact absurd (a3 rfl) I
 | some ad =>
  rw [M] at q;rcases a4 with ⟨s,_,_,_⟩|⟨c,n0,A,o,s,hk,c6,e1,a9,O⟩
  ·obtain⟨vs,O,_⟩:=(m.heap _ N).2;rcases O.2 with ⟨_,h4⟩|⟨g,A,B,Q,_⟩
   ·omega
   ·rw [s] at Q;cases Q
  ·obtain⟨B,vs,R,rfl,e2,e3,e4,_⟩:=Zk m hH s;generalize C:D.slice es ys=dd at q;generalize e5:ys.length=nn at q;cases q with
   | zero=>cases C;omega
   | own _=>cases C
   | @slice _ _ b off _ _ _ e6 b0 e7 hc hm hX E b1 b2 e9 =>
    cases C;refine⟨.bool false,λg1 pos g2 guard u S=>?_,Q0.bool⟩
    have b3:HB.owned e (i,.row tb es xs)=some c:=by simp [HB.owned,s,Value.ownBlock]
    have b4:b≠c:=λh=>hX (.inr (List.mem_filterMap.2 ⟨_,N,by rw [b3,h]⟩))
    have b5:0<(ys[0]'z).length:=by rw [b1 0 z];exact a1
    have r:=b2 0 z 0 b5;obtain⟨l,v,F,T⟩:∃ l v F,w.heap[b]?=some (.cells l v F):=by
     unfold World.cell? at r;split at r
     ·rename_i h;exact⟨_,_,_,h⟩
     ·cases r
    have b6:l.size≠0:=by
     intro h;have b7:l[off+0*es+0]?=some (b0 0 0):=by rw [World.cell?,T] at r;exact r
     have:=(Array.getElem?_eq_some_iff.1 b7).1
     omega
    have c0:=(Array.getElem?_eq_some_iff.1 R).1;have G:u.heap[c]?=some (.cells B tb (0,0)):=by rw [S.block c c0];exact R
    have E:u.heap[b]?=some (.cells l v F):=by rw [S.block b E];exact T
    have h:=run_callFunc_extern (P:=Γ.P) V W hb X Y #[.slice (some ⟨b,off,none⟩) ys.length J,.slice (some ⟨c,o,none⟩) n (A-j)] u;rw [Wk u t tR t' (Ctx.slice Z) a5.size (λw=>c9 hi w) ⟨b,off,none⟩ ⟨c,o,none⟩ ys.length J n (A-j) b4 v tb l.size B.size (by simp [World.shape?,E]) (by simp [World.shape?,G]) b6 (Ex G _ _) (Ex G _ _)] at h;simp [execOp,resolve,Deferred.ofValue,invoke,M,a9];exact h
def JP (zs:List D) {d i es p q:Nat} {tb u ty:TypeId} {m':Int} {xs:List (List D)} (Q:aj L x=.R5 i es 0 p) (hH:Hp.get H i=some (.row tb es xs)) (hJ:Av i Γ.J=true) {I n0 c:Nat} (b3:(Γ.K1 i).2=.slice (some ⟨I,0,none⟩) n0 c)
  (hy:aj L y=.d (.int .i64 m')) (hn:m'=(q:Int)) (hp:p<=xs.length) (g4:c<p+q) (ht:(ai Γ.τ t).sh=.slice t') (b4:(ai Γ.τ u).sh=.int .i64)
  (b5:(ai Γ.τ t').sh.known=true) (b6:(ai Γ.τ t').cells=es) (hz:Hs (ai Γ.τ t').zero zs) (b7:gp (ai Γ.τ t').zero=true) (R:(ai Γ.τ t').zero.length=es) (he:0<es) (h0:0<q) (c0:(p+q)*(ai Γ.τ t').bytes<=140737488355328) (Y:p+q<=maxLen)
  (hw:ap ops L g=some true) (hd:Av d Γ.n=true) (hk:DS false Γ ops rest K (k+1) ((d,.row k)::L) ((k,.row t' es (xs.take p++Aq q zs))::H)) :
  DS false Γ ops (⟨some d,.call { callee:=.builtin .append,args:=#[x,y],argTypes:=#[t,u] },ty,pos,af,g⟩::rest) K k L H:=by
 subst hn;refine gj hw λe a w m=>?_
 obtain⟨B,z,hi,c1,M,f,S⟩:=Ctx.info<|Sh.Y1 b5;have N:z.cells.size=es:=by rw [<- A5,S,R]
 have c3:B.size=es:=by rw [M];exact b6
 have c4:Γ.P.underlying u=some (.int .i64):=by
  have Z:Γ.sh u=.int .i64:=b4;obtain⟨a0,B,z,h1,_,_,h4,_⟩:=jf (Γ.ti (t:=u)<|by rw [Z];intro h;cases h);rw [h1];have h5:o7 Γ.P a0=.int .i64:=h4▸Z;cases a0<;>simp [o7] at h5 ⊢
  exact h5
 have T:=vC m hJ b3;obtain⟨_,_,c5⟩:=Q5 m Q (m8 · _ _ _ _);rcases c5 with ⟨C,_⟩|⟨g1,n1,g5,g6,C,_,g7,g8,c6,ho⟩
 ·rw [T] at C;cases C
 rw [T] at C;cases C;have a1:=ho<|.inr rfl;rw [Fe] at a1;subst a1;obtain⟨g9,o,hg,rfl,h3,h6,h7,e1,e2,a2,e3,e4⟩:=Zk m hH T;obtain⟨l,s2,U⟩:=Uk e2 a2 e4 (j:=0) (q:=p) (by omega);rw [Fe] at l U;simp only [List.drop_zero] at l s2 U;have a4:(xs.take p).length=p:=by rw [Ap];omega
 rw [a4] at l;have h8:w.drew.heap=w.heap:=rfl;have e5:(Builtin.firstCells B.size p<|.slice (some ⟨I,0,none⟩) p<|c-0).run Γ.P w.drew=.ok (o.take<|p*es).toArray w.drew:=by
  refine run_firstCells_some (P:=Γ.P) w.drew B.size p ⟨I,0,none⟩ p (c-0) (o.take<|p*es) (by rw [c3];exact l) λa3 v A=>?_
  rw [Addr.add_lit,C4,Xy (w:=w.drew) hg,<- Bt];have e6:a3<p*es:=by
   rw [Bf] at A;split at A
   ·assumption
   ·cases A
  rw [Bf,if_pos e6,<- e1,Bf] at A;split at A
  ·exact A
  ·cases A
 have h9:q*(ai Γ.τ t').bytes<=(p+q)*(ai Γ.τ t').bytes:=A8 _ (by omega);have a5:=Lib.run_append_grow_zeros (P:=Γ.P) w t u ty t' B z .i64 .i64 (Ctx.slice ht) c4 hi c1 (some ⟨I,0,none⟩) p (c-0) (o.take<|p*es) e5 q h0 (by omega) (by omega) (by unfold maxLen at Y;omega)
  (by rw [f];omega) (growslice_fits (by omega)<|by rw [f];exact c0)
 have a9:=grownCap_ge w (p+q) (c-0) t';have b0:=grownCap_le_maxLen w (p+q) (c-0) t' Y;generalize grownCap w (p+q) (c-0) t'=j at a5 a9 b0;have e7:(execOp a.eval ⟨some d,.call { callee:=.builtin .append,args:=#[x,y],argTypes:=#[t,u] },ty,pos,af,g⟩).run Γ.P w=.ok (.value<|.slice (some ⟨w.heap.size,0,none⟩) (p+q) j) (w.drew.alloc<|.cells ((o.take<|p*es).toArray++Builtin.zeroCells z.cells q++Builtin.zeroCells z.cells (j-(p+q))) t'):=by
  simp only [execOp,resolve,invoke,builtin,Sem.run_bind,Sem.run_pure,Result.andThen_ok,D1,A3,Dm,c6,R8 m hy,a5]
 unfold Oper.wp;rw [e7];have m1:J0 Γ (lo k) L H e a w.drew:=m.below<|(W4.refl _ _ _).drew;have e9:¬ e.U4 k:=λh=>ir k<|(m.top k).1 h
 have V:(e.Q2 k<|.slice (some ⟨w.heap.size,0,none⟩) (p+q) j).η k=.slice (some ⟨w.heap.size,0,none⟩) (p+q) j:=if_pos rfl;have W:(Builtin.zeroCells z.cells q).toList.length=q*es:=by simp [Builtin.zeroCells,N]
 have g2:=sj z.cells q (by omega);have O:(xs.take p++Aq q zs).length=p+q:=by rw [Ag,a4,Cb]
 have m2:=m1.new (ir k) (hb:=.row t' es<|xs.take p++Aq q zs) (e':=e.Q2 k<|.slice (some ⟨w.heap.size,0,none⟩) (p+q) j) (w':=w.drew.alloc<|.cells ((o.take<|p*es).toArray++Builtin.zeroCells z.cells q++Builtin.zeroCells z.cells (j-(p+q))) t') (λi=>or_congr (m.top i) Iff.rfl) (e.N3 _ _ e9) (eh Γ.dr _ _)
  (λb f=>by simp only [HB.owned,V,Value.ownBlock,Option.some.injEq] at f;subst f;exact Af _) (λhX=>by
   have b1:=ij (X:=Γ.X (e.Q2 k<|.slice (some ⟨w.heap.size,0,none⟩) (p+q) j) ((k,.row t' es<|xs.take p++Aq q zs)::H)) (e:=e) (w:=w.drew.alloc<|.cells ((o.take<|p*es).toArray++Builtin.zeroCells z.cells q++Builtin.zeroCells z.cells (j-(p+q))) t') _ b7;obtain⟨zl,zr⟩:=t8 hz b1.1;refine⟨o.take (p*es)++(Builtin.zeroCells z.cells q).toList,⟨by rw [Ag,l,W,O,Bq],.inr ⟨w.heap.size,j,_,by rw [V,O],Ai _,heap_alloc_new w.drew _,by rw [O];exact a9,b0,?_,?_⟩⟩,λr hr=>?_,λv E=>?_,λr hr s M=>?_⟩
   ·have:(o.take<|p*es).toArray.size=p*es:=by rw [Hz];exact l
    simp only [Array.size_append,this,size_zeroCells,N,<- Bq];congr 1;omega
   ·rw [O,C3,C3,List.toList_toArray,Bc (by rw [Ag,W,l,Bq];exact Af _),Aj<|by rw [Ag,W,l,Bq];exact Af _]
   ·by_cases h:r<p
    ·rw [C9 (by omega),Dt];exact a2 _ _
    ·rw [C2 (by omega),Eg,<- zl,R]
   ·rcases List.mem_append.1 E with E|E
    ·exact e3 v<|Bz E
    ·exact b1.2 v<|by rw [<- S];exact nh E
   ·by_cases h:r<p
    ·have F:(xs.take p++Aq q zs)[r]=(xs.take p)[r]'(by omega):=C9 (by omega);have G:s<((xs.take p)[r]'(by omega)).length:=by rw [<- F];exact M
     obtain⟨v,p1,p2⟩:=U r (by omega) s G;have b2:s<es:=by rw [<- s2 r (by omega)];exact G
     have g3:(r+1)*es<=p*es:=A8 _ h;rw [Bq,Nat.one_mul] at g3;refine⟨v,by rw [Bj<|by omega];exact p1,?_⟩
     have p3:Q0 (Γ.X e H) w v ((xs.take p++Aq q zs)[r][s]):=by simpa [F] using p2
     exact Q0.N1 (eh Γ.dr _ _).size (λb f _=>(eh Γ.dr _ _).block b f) (λb f Q=>hX b f Q)<|Q0.N1 (w:=w) (w':=w.drew) (Af _) (λ_ _ _=>rfl) (λ_ _ h=>h) p3
    ·have F:(xs.take p++Aq q zs)[r]=zs:=by rw [C2 (by omega),Eg]
     have G:s<zs.length:=by rw [<- F];exact M
     obtain⟨v,q1,q2⟩:=zr s G;have b2:s<es:=by rw [<- R,zl];exact G
     refine⟨v,?_,by simpa [F] using q2⟩
     have h2:p*es<=r*es:=A8 _ (by omega);rw [A7 (by omega),l,show r*es+s-p*es=(r-p)*es+s by rw [Nat.sub_mul];omega,g2,<- N,<- A5,rb _ _ _ _ (by omega) (by rw [A5,N];exact b2),S];exact q1)
 have m3:=m2.cast<|gv k;exact⟨k+1,_,_,_,m3.put (s:=.row k) (v:=.slice (some ⟨w.heap.size,0,none⟩) (p+q) j) (Ab hd) ⟨.inr rfl,V.symm,rfl⟩,hk⟩
def GW {d i es p j n:Nat} {tb ty:TypeId} {xs:List (List D)} (S:aj L x=.R5 i es 0 p) (T:aj L y=.R5 i es j n) (hH:Hp.get H i=some (.row tb es xs)) (U:(ai Γ.τ t).sh=.slice t')
  (V:(ai Γ.τ t').sh.known=true) (W:(ai Γ.τ t').cells=es) (X:j+n<=xs.length) (Y:p+n<=xs.length) (h0:0<xs.length) (Z:ap ops L g=some true) (hd:Av d Γ.n=true)
  (F:zd H i (.row tb es (xs.take p++(xs.drop j).take n++xs.drop (p+n))) some=some H') (hk:DS false Γ ops rest K k ((d,.R5 i es 0 (p+n))::L) H') :
  DS false Γ ops (⟨some d,.call { callee:=.builtin .append,args:=#[x,y],argTypes:=#[t,t] },ty,pos,af,g⟩::rest) K k L H:=by
 rw [k9] at F;cases F;refine gj Z λe a w m=>?_
 obtain⟨G,c0,hi,_,hs,_⟩:=Ctx.info<|Sh.Y1 V;have z:G.size=es:=by rw [hs];exact W
 obtain⟨a0,_,a1⟩:=Q5 m S (m8 · _ _ _ _);obtain⟨_,_,a2⟩:=Q5 m T (m8 · _ _ _ _);rcases a1 with ⟨c,_⟩|⟨f,n0,cap,c1,c,_,a3,c2,a4,A⟩
 ·obtain⟨l,A,_⟩:=(m.heap _<|Hp.mem_of hH).2;rcases A.2 with ⟨_,h4⟩|⟨g,cap,o,b,_⟩
  ·omega
  ·rw [c] at b;cases b
 have I:=A<|.inr rfl;rw [Fe] at I;subst I;obtain⟨o,l,B,rfl,c3,c4,c5,a5,a9,b0,J,b1⟩:=Zk m hH c;have u:((xs.drop j).take n).length=n:=by rw [Ap,A9];omega
 rcases a2 with ⟨b,_⟩|⟨g1,n1,c6,M,b,e1,_,e2,b2,b3⟩
 ·rw [c] at b;cases b
 rw [c] at b;cases b;obtain⟨C,s2,s3⟩:=Uk a9 b0 b1 (j:=j) (q:=n) X;rw [u] at C;obtain⟨b4,O⟩:=Yk m hH (j:=p) (ys:=(xs.drop j).take n) (N:=(l.drop<|j*es).take<|n*es) (by rw [u];exact Y) (by rw [u];exact C) s2 (λv E=>J v<|B4<|Bz E) s3 c B;rw [u] at O;have b5:∀ r v,((l.drop<|j*es).take<|n*es)[r]?=some v->w.cell? ((⟨f,M,none⟩:Addr).add r)=some v:=λr v h=>by
  have Q:r<n*es:=by
   rw [Bf] at h;split at h
   ·assumption
   ·cases h
  have e3:0<n:=Nat.pos_of_ne_zero λb6=>by rw [b6,Fe] at Q;omega
  have:=b3<|by omega
  subst this;rw [Bf,if_pos Q,Eh,<- a5,Bf] at h;split at h
  ·rw [Addr.add_lit,Xy B,<- h,Bt]
  ·cases h
 have R:=sr (P:=Γ.P) w t ty t' G (Ctx.slice U) hi f 0 p (cap-0) tb o B ⟨f,M,none⟩ n (cap-j) ((l.drop<|j*es).take<|n*es) (by rw [z];exact C) b5 (λv E=>J v<|B4<|Bz E) (by omega) (by rw [z,C4];exact b4);rw [z,C4] at R;have b7:(execOp a.eval ⟨some d,.call { callee:=.builtin .append,args:=#[x,y],argTypes:=#[t,t] },ty,pos,af,g⟩).run Γ.P w=.ok (.value<|.slice (some ⟨f,0,none⟩) (p+n)<|cap-0) (w.setRow f (o.toList.take (p*es)++(l.drop<|j*es).take (n*es)++o.toList.drop (p*es+((l.drop<|j*es).take<|n*es).length)).toArray):=by
  simp only [execOp,resolve,invoke,builtin,Sem.run_bind,Sem.run_pure,Result.andThen_ok,D1,A3,Dm,a4,b2,R]
 unfold Oper.wp;rw [b7];exact⟨k,_,_,e,O.put (s:=.R5 i es 0<|p+n) (v:=.slice (some ⟨f,0,none⟩) (p+n)<|cap-0) (Ab hd) ⟨a0,rfl,.inr ⟨f,xs.length,cap,0,c,Ai _,a3,by omega,rfl,λ_=>by rw [Fe]⟩⟩,hk⟩
end
end
section
open Go Go.RowKit
variable [Y0]
def I3.args {b:Bool} {P:Program} {τ:List (Nat×TI)} {τok:c8 P τ} {f:FuncId} {args c:List SV} {R:SV->Prop} (hc:I3 b P τ τok f args R) (h:∀ X e w vs,O0 X e w c vs->O0 X e w args vs):I3 b P τ τok f c R:=
 ⟨hc.1,λO e w vs d i=>hc.2 O e w vs d<|h _ _ _ _ i⟩
def Er {X e w} {es:Nat} {v:Value} (h:Rel X e w .Q1 v):Rel X e w (.d (.slice es [])) v:=by rw [show v=.slice none 0 0 from h];exact .nil
def Wz {X e w} {p q:Nat} {v:Value} (h:Rel X e w (.agg [.Q1,.Q1]) v):Rel X e w (.agg [.d (.slice p []),.d (.slice q [])]) v:=by
 obtain⟨c,f,i⟩:=h;match c,i with
 | [a,b],⟨j,l,_⟩=>exact⟨[a,b],f,Er j,Er l,trivial⟩
 | [],h=>exact h.elim
 | [_],⟨_,h⟩=>exact h.elim
 | _::_::_::_,⟨_,_,h⟩=>exact h.elim
def I3.agg2 {b:Bool} {P:Program} {τ:List (Nat×TI)} {τok:c8 P τ} {f:FuncId} {p q:Nat} {args:List SV} {R:SV->Prop} (hc:I3 b P τ τok f (.agg [.d (.slice p []),.d (.slice q [])]::args) R):I3 b P τ τok f (.agg [.Q1,.Q1]::args) R:=
 hc.args λ_ _ _ c h=>match c,h with
  | _::_,⟨i,j⟩=>⟨Wz i,j⟩
  | [],h=>h.elim
end
section
open Go Go.RowKit
variable [Y0]
def Q0.deep {X:Nat->Prop} {w:World} {v:Value} {es:Nat} {m xs:List (List D)} (l:tt m xs) (h:Q0 X w v (.slice es m)):Q0 X w v (.slice es xs):=by
 obtain⟨b,l⟩:=l;cases h with
 | nil =>
  have:xs=[]:=Bg b.symm
  subst this;exact .nil
 | zero =>
  have:xs=[]:=Bg b.symm
  subst this;exact .zero
 | slice c n o p q r s u z A =>
  have f:∀ i (h:i<xs.length),(xs[i]'h).length=(m[i]'(b▸h)).length:=λi h=>((l i (b▸h) h).len).symm
  refine .slice c (n.trans b) o p q r (λi h=>(f i h).trans<|s i<|b▸h) (λi h j d=>u i (b▸h) j<|f i h▸d) (λi h j d=>?_)<|λB i h j d=>A B i (b▸h) j<|f i h▸d;exact Q0.Rg (λ_ _ C=>.inl C)<|Q0.XR ((l i (b▸h) h).get j (f i h▸d) d)<|z i (b▸h) j<|f i h▸d
def I3.Xa {c:Bool} {P:Program} {τ:List (Nat×TI)} {τok:c8 P τ} {f:FuncId} {es:Nat} {i xs:List (List D)} {r:List SV} {R:SV->Prop} (h:I3 c P τ τok f (.d (.slice es xs)::r) R) (j:tt i xs):I3 c P τ τok f (.d (.slice es i)::r) R:=
 h.args λ_ _ _ l b=>match l,b with
  | _::_,b=>⟨Q0.deep j b.1,b.2⟩
  | [],b=>b.elim
def au (u:X0):List D:=[.int .i64 u.id.J1,.int .i64 u.id.L1,.own Y0.B (.slice 2<|u.P0.map ay),.own Y0.B (.slice 2<|u.F1.map aa),.own Y0.B<|.slice 2<|u.V0.map ay]
abbrev CT (u:X0):SV:=.agg [.i u.id.J1,.i u.id.L1,.d (.own Y0.B (.slice 2 (u.P0.map ay))),.d (.own Y0.B (.slice 2 (u.F1.map aa))),.d (.own Y0.B (.slice 2 (u.V0.map ay)))]
def dx (u:X0):N7 (au u) (ak u):=⟨.inr ⟨rfl,rfl⟩,.inr ⟨rfl,rfl⟩,.inl rfl,.inl rfl,.inl rfl,trivial⟩
attribute [local irreducible] DW DS DL DQ Ev X1 I3 du bl DT
def dW {α:Type} (X:List α) (z y:α) {p n:Nat} (o:X.length=n) (q:p<=n) {A B:List α} (b:A=X.take p++Aq (n+1-p) z) (f:B=A.take p++[y]++A.drop (p+1)) :
  B.take (p+1)++(X.drop p).take (n-p)++B.drop (p+1+(n-p))=X.take p++y::X.drop p:=by
 have c:(X.take p).length=p:=by rw [Ap];omega
 have h:A.take p=X.take p:=by rw [b,Bc (by omega),Aj<|by omega]
 have d:B=(X.take p++[y])++A.drop (p+1):=by rw [f,h]
 have i:(X.take p++[y]).length=p+1:=by simp [c]
 have r:B.length=n+1:=by rw [d,Ag,i,A9,b,Ag,c,Cb];omega
 have j:B.drop (p+1+(n-p))=[]:=Ar (by omega);have l:(X.drop p).take (n-p)=X.drop p:=Aj (by rw [A9];omega);have m:B.take (p+1)=X.take p++[y]:=by rw [d,Bc (by omega),Aj<|by omega]
 rw [j,l,m,List.append_nil,Bm];rfl
def aY {α:Type} (X:List α) (y:α) {p:Nat} (c:p<X.length) {A:List α} (b:A=X.take (p+1)++X.drop p):A.take p++[y]++A.drop (p+1)=X.take p++y::X.drop p:=by
 have d:(X.take<|p+1).length=p+1:=by rw [Ap];omega
 rw [b,Bc (by omega),Ir,Ej (by omega),List.drop_append_of_le_length (by omega),Ar (by omega),Bm];rfl
def UJ (xs:List X0) (y:X0) (p:Nat) (l:p<=xs.length) (I:xs.length<=1000000) :
  X1 false prog U5 bt 173 [.row 0,.i p,.s 5 [au y]] 1 1 [(0,.row 35 5 (xs.map au))]
   (λk r H=>k=2/\r=.row 1/\H=[(1,.row 35 5 ((xs.take p++y::xs.drop p).map au))]):=by
 refine T8 func173 ?_;intro O J M N;have b:(xs.map au).length=xs.length:=Aa _;by_cases m:p=xs.length
 ·subst m;repeat' (first|refine zs ?_|(refine zm ?_ ?_<;>intro o)|omega)
  refine zR ?_;exact⟨.inl rfl,_,rfl,id,2,.row 1,[(1,.row 35 5<|(xs.take xs.length++y::xs.drop xs.length).map au)],rfl,⟨by rw [List.take_length,List.drop_length,Au];rfl,trivial⟩,rfl,rfl,rfl,rfl,rfl,rfl,rfl,rfl,rfl⟩
 ·have v:xs.map au≠[]:=λh=>by rw [List.map_eq_nil_iff] at h;subst h;simp at l m;exact m l
  repeat' (first|refine zs ?_|(refine zm ?_ ?_<;>intro o)|omega)
  refine IP rfl rfl rfl rfl rfl rfl (λh=>absurd h v)<|λP c C Q F=>?_;by_cases R:c<xs.length+1
  ·repeat' ((fail_if_success (apply jm 10));(first|refine zs ?_|(refine zm ?_ ?_<;>intro o)|fail))
   all_goals try (exfalso;simp only [A0,b] at *;omega)
   obtain⟨z,G⟩:∃ z:List D,z=[.int .i64 0,.int .i64 0,.slice 2 [],.slice 2 [],.slice 2 []]:=⟨_,rfl⟩;refine JP (p:=p) (q:=xs.length+1-p) z rfl rfl rfl C rfl (by simp only [A0,b];omega) (by omega) (by omega) rfl rfl rfl rfl (by subst G;exact⟨.inl rfl,.inl rfl,.inr ⟨rfl,2,rfl⟩,.inr ⟨rfl,2,rfl⟩,.inr ⟨rfl,2,rfl⟩,trivial⟩) rfl rfl (by omega) (by omega) (Aw (Nat.mul_le_mul_left _<|show _<=88 from Af _)<|by omega) (by unfold maxLen;omega) rfl rfl ?_;obtain⟨A,d⟩:∃ A,A=(xs.map au).take p++Aq (xs.length+1-p) z:=⟨_,rfl⟩;have f:A.length=xs.length+1:=by rw [d,Ag,Ap,Cb,b];omega
   rw [<- d];repeat' ((fail_if_success (apply br 11));(first|refine zs ?_|fail))
   all_goals try (exfalso;simp only [A0,b] at *;omega)
   obtain⟨B,u⟩:∃ B,B=A.take p++[au y]++A.drop (p+1):=⟨_,rfl⟩;have E:B.length=xs.length+1:=by rw [u,Ag,Ag,Ap,A9,f,A0];omega
   refine NH (j:=p) (n:=xs.length+1-p) (ys:=[au y]) (H':=[(1,.row 35 5 B),(0,.row 35 5<|xs.map au)]) (by rw [f];rfl) rfl rfl rfl rfl rfl (by simp) (by rw [A0];omega) (by rw [A0];omega) rfl rfl (by rw [u];rfl) ?_;repeat' ((fail_if_success (apply br 11));(first|refine zs ?_|fail))
   all_goals try (exfalso;simp only [A0,b] at *;omega)
   refine lz 8 (by kernel_rfl) (by kernel_rfl) (by kernel_rfl) rfl rfl rfl ?_;refine zS ?_;refine HP (q:=xs.length-p) (j:=p+1) (p:=p) (H':=[(1,.row 35 5<|B.take (p+1)++((xs.map au).drop p).take (xs.length-p)++B.drop (p+1+(xs.length-p))),(0,.row 35 5<|xs.map au)]) rfl rfl rfl rfl rfl rfl rfl (by omega) (by show _=min _ _;simp only [A0,b,E];omega) (by rw [b];omega) (by rw [E];omega) rfl rfl rfl ?_;rw [dW (xs.map au) z (au y) b l d u];refine zR ?_;exact⟨.inl rfl,_,rfl,id,2,.row 1,[(1,.row 35 5<|(xs.take p++y::xs.drop p).map au)],rfl,⟨by rw [Au,A3,Hh,Hi];rfl,trivial⟩,rfl,rfl,rfl,rfl,rfl,rfl,rfl,rfl,rfl⟩
  ·repeat' ((fail_if_success (apply jm 13));(first|refine zs ?_|(refine zm ?_ ?_<;>intro o)|fail))
   all_goals try (exfalso;simp only [A0,b] at *;omega)
   repeat' fail
   refine iv (s:=.R5 0 5 0<|xs.length+1) (by have S:=@Qi;rw [show xs.length+1=(((xs.map au).length:Int)+([au y].length:Int)).toNat by rw [b];rfl];exact Qi (es:=5) (len:=0) rfl rfl rfl rfl C rfl (by intro h;cases h) (by omega) (by rw [A0];omega) F) rfl rfl ?_;refine zS ?_;refine iv (rH (tR:=4) (t:=27) (i:=0) (es:=5) func211 (by kernel_rfl) (by kernel_rfl) (by kernel_rfl) (by kernel_rfl) rfl rfl (by omega) rfl (by simp) rfl rfl v) rfl rfl ?_;repeat' ((fail_if_success (apply br 15));(first|refine zs ?_|fail))
   all_goals try (exfalso;simp only [A0,b] at *;omega)
   refine lz 8 (by kernel_rfl) (by kernel_rfl) (by kernel_rfl) rfl rfl rfl ?_;refine zS ?_;refine MH 0 (p:=p) (n:=xs.length-p) (H':=[]) rfl rfl rfl rfl (by rw [C4];rfl) (by rw [A0];omega) (C4 _).symm (by rw [b]) rfl rfl rfl (by rw [b];omega) (by omega) (by omega) rfl rfl rfl ?_;obtain⟨A,d⟩:∃ A,A=(xs.map au).take (p+1)++(xs.map au).drop p:=⟨_,rfl⟩;have f:A.length=xs.length+1:=by rw [d,Ag,Ap,A9,b];omega
   rw [<- d];refine zS ?_;all_goals try (exfalso;simp only [A0,b] at *;omega)
   refine NH (j:=p) (n:=xs.length+1-p) (ys:=[au y]) (H':=[(1,.row 35 5<|A.take p++[au y]++A.drop (p+1))]) (by rw [f];rfl) rfl rfl rfl rfl rfl (by simp) (by rw [A0];omega) (by rw [A0];omega) rfl rfl rfl ?_;rw [aY (xs.map au) (au y) (by rw [b];omega) d];refine zR ?_;exact⟨.inl rfl,_,rfl,id,2,.row 1,[(1,.row 35 5<|(xs.take p++y::xs.drop p).map au)],rfl,⟨by rw [Au,A3,Hh,Hi];rfl,trivial⟩,rfl,rfl,rfl,rfl,rfl,rfl,rfl,rfl,rfl⟩
def ZT {α:Type} (X:List α) (z:List α) {p n m:Nat} (h:X.length=n) (i:p<n) (j:m=n-(p+1)) {A:List α} (b:A=X.take p++(X.drop (p+1)).take m++X.drop (p+m)) {q:Nat} (l:q=p+m):(A.take q++z).take q=X.eraseIdx p:=by
 have c:(X.take p).length=p:=by rw [Ap];omega
 have d:((X.drop<|p+1).take m)=X.drop (p+1):=Aj (by rw [A9];omega);have o:(X.take p++X.drop (p+1)).length=q:=by rw [Ag,c,A9];omega
 have f:A.take q=X.take p++X.drop (p+1):=by rw [b,d,Bc (by omega),Aj<|by omega]
 rw [f,Bc (by omega),Aj (by omega),Dy]
def Ry (xs:List X0) (p:Nat) (f:p<xs.length) (o:xs.length<=1000000) :
  X1 false prog U5 bt 128 [.row 0,.i p,.i ((p:Int)+1)] 1 1 [(0,.row 35 5 (xs.map au))]
   (λk r H=>k=2/\r=.row 1/\H=[(1,.row 35 5 ((xs.eraseIdx p).map au))]):=by
 refine T8 func128 ?_;intro O q s u;have b:(xs.map au).length=xs.length:=Aa _;refine zS ?_;refine iv (iP (t':=35) (n:=p) (m':=(p:Int)+1) (p:=(xs.map au).length) rfl rfl rfl rfl rfl rfl rfl (by omega) (by omega) (by omega)<|Df _) rfl rfl ?_;repeat' ((fail_if_success (apply br 5));(first|refine zs ?_|(refine zm ?_ ?_<;>intro v)|fail))
 all_goals try omega
 refine lz 6 (by kernel_rfl) (by kernel_rfl) (by kernel_rfl) rfl rfl rfl ?_;refine zS ?_;obtain⟨m,d⟩:∃ m,m=((xs.map au).length:Int).toNat-((p:Int)+1).toNat:=⟨_,rfl⟩;have h:m=xs.length-(p+1):=by rw [d,b];omega
 obtain⟨A,c⟩:∃ A,A=(xs.map au).take p++((xs.map au).drop<|p+1).take m++(xs.map au).drop (p+m):=⟨_,rfl⟩;have B:A.length=xs.length:=by rw [c,Ag,Ag,Ap,Ap,A9,A9,b];omega
 refine GW (p:=p) (j:=p+1) (n:=m) (H':=[(0,.row 35 5 A)]) rfl (by rw [d];rfl) rfl rfl rfl rfl (by omega) (by omega) (by omega) rfl rfl (by rw [c];rfl) ?_;refine zS ?_;all_goals try omega
 refine iv (XD (t':=35) rfl rfl rfl rfl rfl rfl rfl (by omega) (by omega) (by omega)<|by omega) rfl rfl ?_;obtain⟨z,l⟩:∃ z:List D,z=[.int .i64 0,.int .i64 0,.slice 2 [],.slice 2 [],.slice 2 []]:=⟨_,rfl⟩;refine OH (es:=5) (te:=35) (tb:=35) (xs:=A) (j:=0+(((p+m:Nat):Int)).toNat) (n:=(((xs.map au).length:Int)).toNat-(((p+m:Nat):Int)).toNat) z rfl rfl rfl rfl (by subst l;exact⟨.inl rfl,.inl rfl,.inr ⟨rfl,2,rfl⟩,.inr ⟨rfl,2,rfl⟩,.inr ⟨rfl,2,rfl⟩,trivial⟩) rfl rfl (by omega) (by omega) (by omega) rfl rfl ?_;refine zS ?_;refine ag (Qc (n:=p+m) 6 rfl rfl (by simp only [Ag,Ap,A9,Cb];omega) rfl) ?_;rw [Bm,show 0+(((p+m:Nat):Int)).toNat=p+m by omega,ZT (xs.map au) _ b f h c rfl];repeat' (apply cr)
 exact⟨.inl rfl,_,rfl,id,2,.row 1,[(1,.row 35 5<|(xs.eraseIdx p).map au)],rfl,⟨by rw [Dy,Dy,Au,Hh,Hi];rfl,trivial⟩,rfl,rfl,rfl,rfl,rfl,rfl,rfl,rfl,rfl⟩
end
section
open Go Go.RowKit
variable [Y0]
def TZ (H:Hp):SV->Option D
 | .d x=>some x
 | .row j=>match Hp.get H j with|some (.row _ b c)=>some (.slice b c)|_=>none
 | _=>none
def cV (H:Hp):List SV->Option (List D)
 | []=>some []
 | s::l=>match TZ H s,cV H l with|some d,some b=>some (d::b)|_,_=>none
def shQ (H:Hp) (i:Nat):Option D:=match Hp.get H i with|some (.M1 _ b)=>(match cV H b with|some c=>some (.ptr c)|none=>none)|_=>none
def JX (H:Hp):SV->Option D
 | .loc i 0=>shQ H i
 | s=>TZ H s
def qL (H:Hp):List SV->Option (List D)
 | []=>some []
 | s::l=>match JX H s,qL H l with|some d,some b=>some (d::b)|_,_=>none
def shP (H:Hp) (i:Nat):SV:=match Hp.get H i with|some (.M1 _ b)=>(match qL H b with|some c=>.pd c|none=>.loc i 0)|_=>.loc i 0
def shR (H:Hp) (j:Nat):SV:=match Hp.get H j with|some (.row _ b c)=>.d (.slice b c)|_=>.row j
def SZ (H:Hp):SV->SV
 | .row j=>shR H j
 | .loc i 0=>shP H i
 | s=>s
def bV (H:Hp):List SV->List SV
 | []=>[]
 | s::l=>SZ H s::bV H l
def P' (H:Hp):SV->SV
 | .fn f b=>.fn f (bV H b)
 | .agg c=>.agg (bV H c)
 | s=>SZ H s
def aZ (H:Hp):List SV->List SV
 | []=>[]
 | s::l=>P' H s::aZ H l
def fD:List SV->Bool
 | []=>true
 | s::l=>AF s&&fD l
def wL:SV->Bool
 | .M2 l=>fD l
 | s=>AF s
def Wt {X Y:Nat->Prop} {e e':Env} {w w':World}:∀ {l:List SV} {vs:List Value},fD l=true->O0 X e w l vs->O0 Y e' w' l vs
 | [],[],_,_=>trivial
 | [],_::_,_,h=>h
 | _::_,[],_,h=>h
 | s::l,v::vs,h,g=>by
  simp only [fD,Ae] at h
  exact⟨Vt h.1 g.1,Wt h.2 g.2⟩
def dB {X Y:Nat->Prop} {e e':Env} {w w':World} {s:SV} {v:Value} (h:wL s=true) (b:Rel X e w s v):Rel Y e' w' s v:=by
 cases s with
 | M2 l =>
  obtain⟨c,f,i⟩:=b;exact⟨c,f,Wt h i⟩
 | d x=>exact Vt (s:=.d x) h b
 | _=>cases h
section
variable {Γ : Ctx} {k : Nat -> Prop} {L : Sl} {H : Hp} {a : Act} {w : World} {e : Env}
def AL (m:J0 Γ k L H e a w) {i es:Nat} {te:TypeId} {xs:List (List D)} (hH:Hp.get H i=some (.row te es xs)):Q0 Γ.O w (e.η i) (.slice es xs):=
 Q0.N1 (Af _) (λ_ _ _=>rfl) (λ_ _ h=>.inl h) (qz m hH)
def rL (m:J0 Γ k L H e a w) {s:SV} {d:D} {v:Value} (h:TZ H s=some d) (b:Rel (Γ.X e H) e w s v):Q0 Γ.O w v d:=by
 unfold TZ at h;split at h
 ·cases h;exact Q0.N1 (Af _) (λ_ _ _=>rfl) (λ_ _ h=>.inl h) b
 ·split at h
  ·rename_i c;cases h;rw [b.2.1];exact AL m c
  ·cases h
 ·cases h
def Mt (m:J0 Γ k L H e a w):∀ {cs:List SV} {ds:List D} {vs:List Value},cV H cs=some ds->O0 (Γ.X e H) e w cs vs->∀ j (h:j<ds.length),∃ u,vs[j]?=some u/\Q0 Γ.O w u ds[j]
 | [],ds,_,h,_,j,b=>by cases h;exact absurd b (A2 j)
 | _::_,_,[],_,g,_,_=>g.elim
 | s::cs,ds,v::vs,h,g,j,b=>by
  unfold cV at h
  split at h
  ·rename_i d i c f
   cases h
   cases j with
   | zero=>exact⟨v,rfl,rL m c g.1⟩
   | succ j=>exact Mt m f g.2 j (by simpa using b)
  ·cases h
def YQ (m:J0 Γ k L H e a w) {s:SV} {d:D} {v:Value} (h:JX H s=some d) (i:Rel (Γ.X e H) e w s v):Q0 Γ.O w v d:=by
 unfold JX at h;split at h
 ·unfold shQ at h;split at h
  ·rename_i z A l;split at h
   ·rename_i B n;cases h;obtain⟨q,c,o,_⟩:=(m.heap _<|Hp.mem_of l).2;have r:e.β _∈ah e H:=List.mem_filterMap.2 ⟨_,Hp.mem_of l,rfl⟩;rw [i.2];refine .ptr (λj=>q.getD j undef) (m.M3 _ r).2 (Array.getElem?_eq_some_iff.1 c).1 (λj b=>?_) (λj b=>?_)<|λ_ j b=>ky c
    ·obtain⟨u,f,p⟩:=Mt m n o j b;simp [World.cell?,c,f]
    ·obtain⟨u,f,p⟩:=Mt m n o j b;simp only [List.getD,f,Option.getD_some];exact p
   ·cases h
  ·cases h
 ·exact rL m h i
def ZA (m:J0 Γ k L H e a w):∀ {cs:List SV} {ds:List D} {vs:List Value},qL H cs=some ds->O0 (Γ.X e H) e w cs vs->∀ j (h:j<ds.length),∃ u,vs[j]?=some u/\Q0 Γ.O w u ds[j]
 | [],ds,_,h,_,j,b=>by cases h;exact absurd b (A2 j)
 | _::_,_,[],_,g,_,_=>g.elim
 | s::cs,ds,v::vs,h,g,j,b=>by
  unfold qL at h
  split at h
  ·rename_i d i c f
   cases h
   cases j with
   | zero=>exact⟨v,rfl,YQ m c g.1⟩
   | succ j=>exact ZA m f g.2 j (by simpa using b)
  ·cases h
def pL (m:J0 Γ k L H e a w) {s:SV} {v:Value} (d:Rel (Γ.X e H) e w s v):Rel Γ.O e w (SZ H s) v:=by
 have b:Rel Γ.O e w s v:=Rel.N1 (Af _) (λ_ _ _=>rfl) (λ_ _ h=>.inl h) _ _ d;unfold SZ;split
 ·rename_i j;unfold shR;split
  ·rename_i c;rw [d.2.1];exact AL m c
  ·exact b
 ·rename_i i;unfold shP;split
  ·rename_i z A c;split
   ·rename_i B l;obtain⟨C,f,n,_⟩:=(m.heap _<|Hp.mem_of c).2;have o:e.β i∈ah e H:=List.mem_filterMap.2 ⟨_,Hp.mem_of c,rfl⟩;refine⟨e.β i,0,d.2,(Array.getElem?_eq_some_iff.1 f).1,(m.M3 _ o).2,λj p=>?_⟩
    obtain⟨u,q,r⟩:=ZA m l n j p;refine⟨u,?_,r⟩
    simp [World.cell?,f,q]
   ·exact b
  ·exact b
 ·exact b
def Lt (m:J0 Γ k L H e a w):∀ {l:List SV} {vs:List Value},O0 (Γ.X e H) e w l vs->O0 Γ.O e w (bV H l) vs
 | [],[],_=>trivial
 | [],_::_,h=>h
 | _::_,[],h=>h
 | _::_,_::_,h=>⟨pL m h.1,Lt m h.2⟩
def aV (m:J0 Γ k L H e a w) {s:SV} {v:Value} (b:Rel (Γ.X e H) e w s v):Rel Γ.O e w (P' H s) v:=by
 unfold P';split
 ·obtain⟨c,d,f⟩:=b;exact⟨c,d,Lt m f⟩
 ·obtain⟨c,d,f⟩:=b;exact⟨c,d,Lt m f⟩
 ·exact pL m b
def Xq (m:J0 Γ k L H e a w):∀ {l:List SV} {vs:List Value},O0 (Γ.X e H) e w l vs->O0 Γ.O e w (aZ H l) vs
 | [],[],_=>trivial
 | [],_::_,h=>h
 | _::_,[],h=>h
 | _::_,_::_,h=>⟨aV m h.1,Xq m h.2⟩
end
section
variable {Γ : Ctx} {k : Nat} {L : Sl} {H : Hp} {K : cn} {ops : List Oper} {rest : List Oper}
def My {f:FuncId} {xs:List Operand} {i:Array TypeId} {ty:TypeId} {d:Nat} {args:List SV} {R:SV->Prop} (hc:I3 Γ.dr Γ.P Γ.τ Γ.τok f args R)
  (j:aZ H (mt L xs)=args) (l:∀ r,R r->wL r=true) (o:ap ops L g=some true) (p:dz xs=true) (q:SV.U1 0 args=true) (s:Av d Γ.n=true)
  (u:∀ r,R r->DS false Γ ops rest K k ((d,r)::L) H):DS false Γ ops (⟨some d,.call { callee:=.value (.func f),args:=xs.toArray,argTypes:=i },ty,pos,af,g⟩::rest) K k L H:=by
 refine gj o λe a w m=>?_
 unfold Oper.wp;rw [io hc.1];rw [Oper.upon_enter];refine (hc.NC (τ:=Γ.τ) (τok:=Γ.τok) e Γ.O (λb c=>As (m.T1 b c).1 m.size) (m.U6.sub λ_ h=>h.elim) q _<|j▸Xq m (ga m xs p)).mono ?_;rintro en w' ⟨r,v,hR,rfl,c,hlr,hrel⟩;exact⟨k,_,H,e,(m.below c).put (Ab s) (dB (l r hR) hrel),u r hR⟩
end
def I3.shown {c:Bool} {P:Program} {τ:List (Nat×TI)} {τok:c8 P τ} {f:FuncId} {args d:List SV} {J k:Nat} {H:Hp} {R:SV->Prop} (hc:I3 c P τ τok f d R) (j:aZ H args=d) (l:SV.U1 0 d=true) (n:∀ r,R r->wL r=true) :
  X1 c P τ τok f args J k H (λo r p=>o=k/\R r/\p=H):=by
 refine⟨hc.1,λO e w u q s=>?_⟩
 have m:J0 ⟨P,τ,τok,O,w,λb=>b∈ah e H,0,J,e.an,none,da,true,c⟩ (lo k) [] H e { tmps:=#[],defers:=[] } w:=⟨q,.nil,rfl,λ_=>trivial⟩
 refine (hc.NC (τ:=τ) (τok:=τok) e O (λb i=>As (m.T1 b i).1 m.size) (m.U6.sub λ_ h=>h.elim) l _<|j▸Xq m s).mono ?_;rintro en w' ⟨r,v,hR,rfl,i,hlr,hrel⟩;exact⟨k,r,H,e,v,⟨rfl,hR,rfl⟩,rfl,(m.below i).toHeap,dB (n r hR) hrel⟩
def I3.Rk {c:Bool} {P:Program} {τ:List (Nat×TI)} {τok:c8 P τ} {f:FuncId} {args b:List SV} {J k:Nat} {H:Hp} {R:SV->Prop} (hc:I3 c P τ τok f b R) (d:aZ H args=b) (i:SV.U1 0 b=true) (j:∀ r,R r->wL r=true) :
  X1 c P τ τok f args J k H (λ_ r l=>R r/\l=H):=by
 obtain⟨m,n⟩:=I3.shown (J:=J) (k:=k) (H:=H) hc d i j;refine⟨m,λO e w o p q=>(n O e w o p q).mono ?_⟩
 rintro en w' ⟨k',r,H',e',v,⟨_,hR,hH'⟩,h⟩;exact⟨k',r,H',e',v,⟨hR,hH'⟩,h⟩
def QN (x:X0) (l:List X0) (i:Z1):M9 (x::l) i=(if b9 x.id i<0 then 1 else 0)+M9 l i:=by unfold M9;rw [List.countP_cons];split<;>simp_all<;>omega
def PN {l:List X0} {i:Z1} (h:∀ x∈l,¬ b9 x.id i<0):M9 l i=0:=List.countP_eq_zero.2 λu b=>by simpa using h u b
def dG:∀ {l:List X0} {u:X0},W3 l->R1 l u.id=false->l.take (M9 l u.id)++u::l.drop (M9 l u.id)=vt l u
 | [],u,_,_=>rfl
 | x::l,u,f,b=>by
  obtain⟨i,j⟩:=List.pairwise_cons.1 f
  unfold R1 at b
  rw [List.any_cons,Bool.or_eq_false_iff] at b
  have m:=x5 x.id u.id
  unfold vt
  split
  ·rename_i d
   rw [PN<|λz c=>?_]
   ·rfl
   ·rcases List.mem_cons.1 c with rfl|c
    ·omega
    ·have n:=oh d (i z c)
     have o:=x5 z.id u.id
     omega
  ·rename_i d
   have p:b9 x.id u.id≠0:=λh=>by rw [xL,decide_eq_true h] at b;simp at b
   rw [QN,if_pos (by omega),Nat.add_comm,List.take_succ_cons,List.drop_succ_cons,List.cons_append,dG j b.2]
attribute [local irreducible] DW DS DL DQ Ev X1 I3 du bl DT
def Ur (l:List X0) (u:X0) (h:l.length<=100000) (b:W3 l) (d:R1 l u.id=false):X1 false prog U5 bt 124 [.row 0,CT u] 1 1 [(0,.row 35 5 (l.map au))]
  (λk r H=>k=2/\r=.row 1/\H=[(1,.row 35 5 ((vt l u).map au))]):=by
 refine T8 func124 ?_;intro O i m n;have o:(l.map au).length=l.length:=Aa _;have w:=(kU l u.id (by omega) b).Xa<|bm dx l;have f:M9 l u.id<=l.length:=List.countP_le_length;have c:=UJ l u (M9 l u.id) f (by omega);rw [dG b d] at c;refine zS ?_;refine My w rfl (by rintro r rfl;rfl) rfl rfl rfl rfl ?_;rintro r rfl;refine zS ?_;refine tj id c rfl rfl rfl rfl ⟨rfl,trivial⟩ rfl rfl rfl rfl rfl rfl ?_ ?_
 ·rintro k2 r H2 ⟨rfl,rfl,rfl⟩;exact⟨rfl,rfl⟩
 rintro k2 r H2 ⟨rfl,rfl,rfl⟩;change DS _ _ _ _ _ _ _ _;refine zR ?_;exact⟨.inl rfl,_,rfl,kp (λj=>match j with|1=>3|j=>j) 2 (.row 1) ([(1,.row 35 5<|(vt l u).map au)]) ⟨rfl,rfl,rfl⟩⟩
def LL (x:Z1):N7 (ay x) (ay x):=⟨.inr ⟨rfl,rfl⟩,.inr ⟨rfl,rfl⟩,trivial⟩
def Sp (l:List (Z1)) (c:l.length<=8796093022208):Fn 174 [.s 2 (l.map ay)] (λr=>r=.d (.own Y0.B (.slice 2 (l.map ay)))):=by
 refine J2 func174 ?_;intro O f i j;have m:(l.map ay).length=l.length:=Aa _;refine zS ?_;refine Ly rfl rfl rfl rfl rfl (λh=>?_) ?_
 ·have b:l=[]:=List.map_eq_nil_iff.1 h;subst b;refine zS ?_;refine ag (ea 2 2 rfl) ?_;refine zR ?_;exact⟨.inl rfl,_,rfl,rfl,rfl⟩
 ·repeat' (first|(apply Ua;(iterate 8 exact rfl))|(first|refine zs ?_|fail))
  refine ag (ka (xs:=l.map ay) 2 (bm LL _) rfl rfl rfl) ?_;repeat' (apply cr)
  exact⟨.inl rfl,_,rfl,rfl,rfl⟩
def FR (r:X2) (u:X0) (c:r.I0.length<=1000000) (d:W3 r.I0) (h:u.P0.length+u.V0.length<=1000000):Fn 127 ([fg u]++[.pd [.ptr [.slice 5 (r.I0.map au),.slice 5 (r.K0.map au)]]]) (λf=>f=.b (I2 r.I0 u)):=by
 refine J2 func127 ?_;intro O i j l;have w:=(Tc r.I0 u c d h).Xa<|bm dx r.I0;repeat' (first|refine zr ?_|refine z22 ?_ w|fail)
 exact bi rfl rfl
def Ug (u:X0) (h1:u.P0.length<=1000000) (o:u.V0.length<=1000000) (p:u.F1.length<=1000000) (l:∀ f∈u.F1,f.args.length<=1000000):Fn 125 [fg u] (λr=>r=CT u):=by
 refine J2 func125 ?_;intro O q v z;have c:=Sp u.P0 (by omega);have h:=Sp u.V0 (by omega);repeat' (first|refine zs ?_|refine z22 ?_ c|refine z22 ?_ h|fail)
 have A:(u.F1.map aa).length=u.F1.length:=Aa _;refine ag (gh 11 3 95 2 rfl rfl rfl) ?_;refine ae (ι:=Nat) (λi=>⟨3,[(2,.loc 0 0),(3,.loc 1 0),(16,.s 2<|u.F1.map aa),(17,.i (u.F1.map aa).length),(18,.i i)],
   [(0,.M1 35 [.i 0,.i 0,.Q1,.Q1,.Q1]),(1,.M1 35 [.i u.id.J1,.i u.id.L1,.d (.own Y0.B<|.slice 2<|u.P0.map ay),.row 2,.d<|.own Y0.B<|.slice 2<|u.V0.map ay]),(2,.row 95 2<|(u.F1.take i).map iy)]⟩)
  (λi=>i<=u.F1.length) (λi=>u.F1.length-i) 0 (Ai _) (er<|λj=>match j with|0=>1|1=>11|2=>13|j=>j) ?_
 clear c h;intro i C;have E:((u.F1.take i).map iy).length=i:=by rw [Aa,Ap];omega
 by_cases b:i<u.F1.length
 ·have w:=ML u.F1[i] (by have:=l _<|Ah b;omega);repeat' (first|refine zr ?_|refine z22 ?_ w|(refine zm ?_ ?_<;>intro m)|omega)
  exact⟨i+1,b,er (λj=>match j with|2=>9|j=>j) (hH:=⟨rfl,rfl,by rw [Am b,Au];rfl,trivial⟩),by omega⟩
 ·have n:u.F1.take i=u.F1:=Aj (by omega);rw [n];repeat' (first|refine zs ?_|(refine zm ?_ ?_<;>intro m)|omega)
  refine ag (fv 0 3 2 (bm Rh u.F1) rfl rfl rfl rfl rfl) ?_;repeat' (apply cr)
  exact⟨.inl rfl,_,rfl,rfl,rfl⟩
structure I5 (u:X0):Prop where
 P0:u.P0.length<=100000
 V0:u.V0.length<=100000
 F1:u.F1.length<=1000000
 args:∀ f∈u.F1,f.args.length<=1000000
def QH (l:List X0) (m:l.length<=100000) (d:∀ u∈l,I5 u):CC false prog U5 bt 123 [.s 5 (l.map ak)] 35 5 (λys=>ys=l.map au):=by
 refine T8 func123 ?_;intro O n o p;have q:(l.map ak).length=l.length:=Aa _;refine zS ?_;refine ag (ce (t:=3) 35 5 rfl) ?_;refine ae (ι:=Nat) (λi=>⟨1,[(3,.row 0),(6,.s 5<|l.map ak),(7,.i (l.map ak).length),(8,.i i)],[(0,.row 35 5<|(l.take i).map au)]⟩)
  (λi=>i<=l.length) (λi=>l.length-i) 0 (Ai _) (er id) ?_
 intro i r;have v:((l.take i).map au).length=i:=by rw [Aa,Ap];omega
 by_cases c:i<l.length
 ·have b:=d _<|Ah c;have w:=Ug l[i] (Aw b.P0<|by decide) (Aw b.V0<|by decide) b.F1 b.args;repeat' (first|refine zr ?_|refine z21 ?_ w|(refine zm ?_ ?_<;>intro f)|omega)
  exact⟨i+1,c,er (λj=>match j with|0=>2|j=>j) (hH:=⟨by rw [Am c,Au];rfl,trivial⟩),by omega⟩
 ·have h:l.take i=l:=Aj (by omega);rw [h];repeat' (first|refine zr ?_|(refine zm ?_ ?_<;>intro f)|omega)
  exact⟨.inl rfl,_,rfl,kp id 1 (.row 0) ([(0,.row 35 5<|l.map au)]) ⟨_,rfl,rfl,rfl⟩⟩
def uE (r:X2) (h1:r.I0.length<=100000) (b:r.K0.length<=100000) (c:∀ u∈r.I0,I5 u) (d:∀ u∈r.K0,I5 u):X1 false prog U5 bt 56 [df r] 0 0 []
  (λk f H=>k=2/\f=.agg [.row 0,.row 1]/\H=[(0,.row 35 5 (r.I0.map au)),(1,.row 35 5 (r.K0.map au))]):=by
 refine T8 func56 ?_;intro O l m n;have h:=QH r.I0 h1 c;have i:=QH r.K0 b d;refine zS ?_;refine Iy rfl rfl h rfl rfl rfl rfl ⟨_,rfl⟩ ?_;rintro _ rfl;repeat' refine z5 ?_
 refine Iy rfl rfl i rfl rfl rfl rfl ⟨_,rfl⟩ ?_;rintro _ rfl;refine zR ?_;exact⟨.inl rfl,_,rfl,kp (λj=>match j with|0=>4|1=>7|j=>j) 2 (.agg [.row 0,.row 1]) ([(0,.row 35 5<|r.I0.map au),(1,.row 35 5<|r.K0.map au)]) ⟨rfl,rfl,rfl⟩⟩
end
section
open Go Go.RowKit
variable [Y0]
abbrev YF (r:X2):Hp:=[(0,.M1 29 [.row 1,.row 2]),(1,.row 35 5 (r.I0.map au)),(2,.row 35 5 (r.K0.map au))]
def Ln.of {b:Bool} {P:Program} {τ:List (Nat×TI)} {τok:c8 P τ} {f:FuncId} {args:List SV} {c te:TypeId} {d es:Nat} {xs ys:List (List D)} (h:X1 b P τ τok f args 1 1 [(0,.row c d xs)] (λk r H=>k=2/\r=.row 1/\H=[(1,.row te es ys)])) :
  Ln b P τ τok f args c d xs te es (λzs=>zs=ys):=by
 unfold Ln;refine⟨h.1,λO e w i j l=>(h.2 O e w i j l).mono ?_⟩
 rintro en w' ⟨k',r,H',e',v,⟨_,h2,h3⟩,h4⟩;exact⟨k',r,H',e',v,⟨ys,rfl,h2,h3⟩,h4⟩
def mM {α:Type} (p:α->Bool) (l:List α):(mv p l = -1/\∀ x∈l,p x=false)∨∃ (i:Nat) (hi:i<l.length),mv p l=i/\p (l[i]'hi)=true:=by
 cases h:l.findIdx? p with
 | none=>exact .inl ⟨by unfold mv;rw [h],by simpa using List.findIdx?_eq_none_iff.1 h⟩
 | some i =>
  obtain⟨hi,b,_⟩:=List.findIdx?_eq_some_iff_getElem.1 h;exact .inr ⟨i,hi,by unfold mv;rw [h],b⟩
def yn {l:List X0} (d:W3 l) {i:Nat} (hi:i<l.length):l.eraseIdx i=l.filter λv=>!(v.id.same (l[i]'hi).id):=by
 have m:∀ j (b:j<l.length),j≠i->(!((l[j]'b).id.same (l[i]'hi).id))=true:=λj b n=>by
  rw [Bool.not_eq_true',<- C5,X3];intro o;have p:=d.uniq (Ah b) (Ah hi) o;exact n<|(List.getElem_inj d.nodup).1 p
 have e:l=l.take i++l[i]'hi::l.drop (i+1):=by rw [<- List.drop_eq_getElem_cons hi,List.take_append_drop]
 have q:(l.take i).filter (λv=>!(v.id.same (l[i]'hi).id))=l.take i:=List.filter_eq_self.2 λv c=>by
  obtain⟨j,b,rfl⟩:=List.mem_iff_getElem.1 c;rw [Ap] at b;rw [Dt];exact m j (by omega)<|by omega
 have r:(l.drop<|i+1).filter (λv=>!(v.id.same (l[i]'hi).id))=l.drop (i+1):=List.filter_eq_self.2 λv c=>by
  obtain⟨j,b,rfl⟩:=List.mem_iff_getElem.1 c;rw [A9] at b;rw [Hy];exact m _ (by omega)<|by omega
 have s:(!((l[i]'hi).id.same (l[i]'hi).id))=false:=by rw [Bool.not_eq_false',X3]
 have u:∀ f:X0->Bool,(l.take i).filter f=l.take i->(l.drop<|i+1).filter f=l.drop (i+1)->f (l[i]'hi)=false->l.filter f=l.take i++l.drop (i+1):=λf f1 f2 f3=>by
  have h:=congrArg (List.filter f) e;rw [List.filter_append,List.filter_cons,f3,if_neg (by simp),f1,f2] at h;exact h
 rw [Dy];exact (u _ q r s).symm
attribute [local irreducible] DW DS DL DQ Ev X1 I3 du bl DT
def GL (r:X2) (u:X0) (n:R2 r.both r) (h1:r.I0.length<=100000) (G:r.K0.length<=100000) (f:I5 u) (I:∀ u∈r.I0,I5 u) (J:∀ u∈r.K0,I5 u) :
  X1 false prog U5 bt 57 [.loc 0 0,fg u] 1 3 (YF r) (λk d H=>k=3/\(
   ((R1 r.I0 u.id=true∨R1 r.K0 u.id=true)/\d=.b true/\H=YF r) ∨
   (R1 r.I0 u.id=false/\R1 r.K0 u.id=false/\200<=r.I0.length+r.K0.length/\d=.b false/\H=YF r) ∨
   (R1 r.I0 u.id=false/\R1 r.K0 u.id=false/\r.I0.length+r.K0.length<200/\∃ q:X2,R2 (u::r.both) q/\d=.b true/\H=YF q))):=by
 have M:=n.sh;have s:=n.sw;refine T8 func57 ?_;intro O Y Z K1;have z:X1 false prog U5 bt 90 [.row 0,o5 u.id] 1 1 [(0,.row 35 5<|r.I0.map au)] (λ_ d o=>d=.b (R1 r.I0 u.id)/\o=[(0,.row 35 5<|r.I0.map au)]):=
  I3.Rk ((uq r.I0 u.id (by omega) M).Xa<|bm dx r.I0) rfl rfl (by rintro _ rfl;rfl)
 refine zS ?_;refine rh (λj=>match j with|0=>1|j=>j) z (by rintro _ rfl;exact⟨rfl,rfl⟩) ⟨_,rfl⟩ rfl rfl rfl rfl ⟨rfl,trivial⟩ rfl rfl rfl rfl rfl rfl rfl rfl rfl ?_;rintro _ rfl;have A:X1 false prog U5 bt 90 [.row 0,o5 u.id] 1 1 [(0,.row 35 5<|r.K0.map au)] (λ_ d o=>d=.b (R1 r.K0 u.id)/\o=[(0,.row 35 5<|r.K0.map au)]):=
  I3.Rk ((uq r.K0 u.id (by omega) s).Xa<|bm dx r.K0) rfl rfl (by rintro _ rfl;rfl)
 have a0:=vw r.I0 r.K0 u.id;cases N:R1 r.I0 u.id with
 | true =>
  refine zR ?_;exact⟨.inl rfl,_,rfl,kp id 3 (.b true) (YF r) ⟨rfl,.inl ⟨Or.inl rfl,rfl,rfl⟩⟩⟩
 | false =>
  repeat' refine z5 ?_
  refine rh (λj=>match j with|0=>2|j=>j) A (by rintro _ rfl;exact⟨rfl,rfl⟩) ⟨_,rfl⟩ rfl rfl rfl rfl ⟨rfl,trivial⟩ rfl rfl rfl rfl rfl rfl rfl rfl rfl ?_;rintro _ rfl;cases B:R1 r.K0 u.id with
  | true =>
   refine zR ?_;exact⟨.inl rfl,_,rfl,kp id 3 (.b true) (YF r) ⟨rfl,.inl ⟨Or.inr rfl,rfl,rfl⟩⟩⟩
  | false =>
   have lh:(r.I0.map au).length=r.I0.length:=Aa _;have lw:(r.K0.map au).length=r.K0.length:=Aa _;by_cases P:200<=r.I0.length+r.K0.length
   ·repeat' (first|refine zr ?_|(refine zm ?_ ?_<;>intro Q)|omega)
    exact⟨.inl rfl,_,rfl,kp id 3 (.b false) (YF r) ⟨rfl,.inr<|.inl ⟨rfl,rfl,P,rfl,rfl⟩⟩⟩
   ·have C:=Ug u (Aw f.P0<|by decide) (Aw f.V0<|by decide) f.F1 f.args;repeat' (first|refine zs ?_|refine z22 ?_ C|(refine zm ?_ ?_<;>intro Q)|omega)
    have m:=Ln.of<|Ur r.K0 u G s B;refine v7 2 m rfl rfl rfl rfl rfl rfl rfl ⟨_,rfl⟩ rfl rfl ?_;rintro _ rfl;refine zS ?_;refine ae (ι:=X2) (λx=>⟨4,[(2,.loc 3 0)],[(0,.M1 29 [.row 1,.row 2]),(1,.row 35 5<|x.I0.map au),(2,.row 35 5<|x.K0.map au),(3,.M1 110 [.loc 0 0])]⟩)
     (λx=>J6 (u::r.both) x/\x.I0.length+x.K0.length=r.I0.length+r.K0.length+1) (λx=>x.K0.length) ⟨r.I0,vt r.K0 u⟩ ⟨n.more N B,by dsimp only;rw [Ja];omega⟩ (er<|λj=>match j with|2=>12|j=>j) ?_
    clear z A C m;rintro x ⟨hx,hcnt⟩;have R:∀ v,v∈x.I0∨v∈x.K0->I5 v:=λv l=>by
     rcases List.mem_cons.1 ((hx.all v).2 l) with rfl|h
     ·exact f
     ·rcases List.mem_append.1 h with h|h
      ·exact I _ h
      ·exact J _ h
    have a1:(x.I0.map au).length=x.I0.length:=Aa _;have a2:(x.K0.map au).length=x.K0.length:=Aa _;have E:=(Xl (caps:=[.pd [.ptr [.slice 5 (x.I0.map au),.slice 5<|x.K0.map au]]]) (λv=>I2 x.I0 v) x.K0 rfl<|λv l=>FR x v (by omega) hx.sh<|by have h:=R v<|.inr l;have:=h.P0;have:=h.V0;omega).Xa<|bm dx x.K0;refine zS ?_;refine My E rfl (by rintro _ rfl;rfl) rfl rfl rfl rfl ?_;rintro _ rfl;rcases mM (λv=>I2 x.I0 v) x.K0 with ⟨p,S⟩|⟨i,c,p,T⟩
    ·rw [p];refine zR ?_;all_goals try omega
     exact⟨.inl rfl,_,rfl,kp id 3 (.b true) (YF x) ⟨rfl,.inr<|.inr ⟨rfl,rfl,by omega,x,hx.done S,rfl,rfl⟩⟩⟩
    ·rw [p];have U:R1 x.I0 (x.K0[i]'c).id=false:=by
      cases V:R1 x.I0 (x.K0[i]'c).id with
      | false=>rfl
      | true =>
       obtain⟨v,l,W⟩:=Y2.1 V;exact absurd W<|hx.apart v l _<|Ah c
     have X:=Ln.of (Ry x.K0 i c<|by omega);have m:=Ln.of (Ur x.I0 (x.K0[i]'c) (by omega) hx.sh U);clear E;refine zS ?_;all_goals try omega
     refine v7 2 X rfl rfl rfl rfl rfl rfl rfl ⟨_,rfl⟩ rfl rfl ?_;rintro _ rfl;refine zS ?_;all_goals try omega
     refine v7 1 m rfl rfl rfl rfl rfl rfl rfl ⟨_,rfl⟩ rfl rfl ?_;rintro _ rfl;refine zS ?_;all_goals try omega
     have F:=hx.move (Ah c) T;rw [<- yn hx.sw c] at F;exact⟨⟨vt x.I0 (x.K0[i]'c),x.K0.eraseIdx i⟩,⟨F,by dsimp only;rw [Ja,D4 c];omega⟩,er (λj=>match j with|1=>23|2=>13|j=>j),by dsimp only;rw [D4 c];omega⟩
def im {u:X0} (h:cp u=0):I5 u:=by
 have g:=Bb h;refine⟨by have:=g.np;omega,by have:=g.nt;omega,by have:=g.ns;omega,λf c=>?_⟩
 have b:=List.all_eq_true.1 g.F1 f c;unfold J5 at b;simp only [Ae,decide_eq_true_eq] at b;omega
def m7 {r:X2} (h:bq r=0):r.I0.length+r.K0.length<=200/\(∀ u∈r.both,cp u=0)/\R2 r.both r:=by
 unfold bq at h;split at h
 ·cases h
 rename_i z;split at h
 ·rename_i d;exact absurd h d
 rename_i d;split at h
 ·cases h
 rename_i c;split at h
 ·cases h
 rename_i j;split at h
 ·cases h
 rename_i f;simp only [not_or,Bool.not_eq_false,C5] at c j f;have m:=oq<|Decidable.not_not.1 d;have l:=vf c.1;have n:=vf c.2.1;have o:∀ u∈r.I0,I2 r.I0 u=true:=λu b=>by
  have:=List.any_eq_false.1 j u b
  simpa using this
 have p:∀ u∈r.I0,¬ Reach r.I0 (cq u) u.id:=λu b q=>by
  have:=List.any_eq_false.1 f.1 u b
  exact this<|(Pj l (cq u) u.id).2 q
 refine⟨by omega,m,J6.done ⟨l,n,λu=>List.mem_append,λu b v i s=>?_,λu b=>(Uh o p u b).mono λv i=>Ax _ i⟩ λu b=>?_⟩
 ·have:=List.any_eq_false.1 c.2.2 v i
  exact this<|Y2.2 ⟨u,b,s⟩
 ·have:=List.any_eq_false.1 f.2 u b
  simpa using this
def FE (r:X2) (u:X0):Int:=if bq r=0 then cp u else bq r
def FU (r:X2) (u:X0) (o:X2) (e:Int):Prop:=
 (FE r u≠0/\o=⟨[],[]⟩/\e=FE r u) ∨
 (FE r u=0/\R1 r.both u.id=true/\o=r/\e=0) ∨
 (FE r u=0/\R1 r.both u.id=false/\200<=r.both.length/\o=⟨[],[]⟩/\e=2) ∨
 (FE r u=0/\R1 r.both u.id=false/\r.both.length<200/\R2 (u::r.both) o/\e=0)
abbrev qo (r:X2):SV:=.agg [.d (.own Y0.B (.slice 5 (r.I0.map ak))),.d (.own Y0.B (.slice 5 (r.K0.map ak)))]
def WH (r:X2) (u:X0) (h1:r.I0.length<=4398046511104) (q:r.K0.length<=4398046511104):Fn 14 [df r,fg u] (λf=>∃ o e,FU r u o e/\f=.M2 [qo o,.i e]):=by
 refine J2 func14 ?_;intro O C E F;have h:=qr r h1 q;have l:=si u;have b:FE r u=if bq r=0 then cp u else bq r:=rfl
 by_cases d:bq r=0
 ·rw [d] at h;by_cases m:cp u=0
  ·rw [if_pos d,m] at b;rw [m] at l;obtain⟨G,n,s⟩:=m7 d;have z:=uE r (by omega) (by omega) (λv c=>im<|n v<|Ax _ c)<|λv c=>im<|n v<|Bv _ c;have A:=GL r u s (by omega) (by omega) (im m) (λv c=>im<|n v<|Ax _ c)<|λv c=>im<|n v<|Bv _ c;repeat' (first|refine zs ?_|refine z21 ?_ h|refine z21 ?_ l|omega)
   refine tj id z rfl rfl rfl rfl trivial rfl rfl rfl rfl rfl rfl ?_ ?_
   ·rintro k2 f H2 ⟨rfl,rfl,rfl⟩;exact⟨rfl,rfl⟩
   rintro k2 f H2 ⟨rfl,rfl,rfl⟩;change DS _ _ _ _ _ _ _ _;refine zS ?_;refine tj (λj=>match j with|0=>5|1=>3|2=>4|j=>j) A rfl rfl rfl rfl ⟨rfl,rfl,rfl,trivial⟩ rfl rfl rfl rfl rfl rfl ?_ ?_
   ·rintro k2 f H2 ⟨rfl,⟨_,rfl,rfl⟩|⟨_,_,_,rfl,rfl⟩|⟨_,_,_,o,_,rfl,rfl⟩⟩<;>exact⟨rfl,rfl⟩
   have p:=vw r.I0 r.K0 u.id;have I:r.both.length=r.I0.length+r.K0.length:=Ag;rintro k2 f H2 ⟨rfl,⟨g1,rfl,rfl⟩|⟨g1,g2,g3,rfl,rfl⟩|⟨g1,g2,g3,o,g4,rfl,rfl⟩⟩;all_goals change DS _ _ _ _ _ _ _ _
   ·refine zS ?_;refine ag (fv 2 0 7 (bm dx _) rfl rfl rfl rfl rfl) ?_;refine ag (fv 2 1 8 (bm dx _) rfl rfl rfl rfl rfl) ?_;repeat' (apply cr)
    exact⟨.inl rfl,_,rfl,rfl,r,0,.inr (.inl ⟨b,by unfold X2.both;rw [p];simpa using g1,rfl,rfl⟩),rfl⟩
   ·refine zS ?_;refine ag (av 2 0 5 rfl rfl rfl) ?_;refine ag (av 2 1 5 rfl rfl rfl) ?_;refine zR ?_;exact⟨.inl rfl,_,rfl,rfl,⟨[],[]⟩,2,.inr (.inr (.inl ⟨b,by unfold X2.both;rw [p,g1,g2];rfl,by omega,rfl,rfl⟩)),rfl⟩
   ·refine zS ?_;refine ag (fv 2 0 7 (bm dx _) rfl rfl rfl rfl rfl) ?_;refine ag (fv 2 1 8 (bm dx _) rfl rfl rfl rfl rfl) ?_;repeat' (apply cr)
    exact⟨.inl rfl,_,rfl,rfl,o,0,.inr (.inr (.inr ⟨b,by unfold X2.both;rw [p,g1,g2];rfl,by omega,g4,rfl⟩)),rfl⟩
  ·rw [if_pos d] at b;repeat' (first|refine zs ?_|refine z21 ?_ h|refine z21 ?_ l|(refine zm ?_ ?_<;>intro B)|omega)
   refine ag (av 2 0 5 rfl rfl rfl) ?_;refine ag (av 2 1 5 rfl rfl rfl) ?_;refine zR ?_;exact⟨.inl rfl,_,rfl,rfl,⟨[],[]⟩,_,.inl ⟨by rw [b];exact m,rfl,b.symm⟩,rfl⟩
 ·rw [if_neg d] at b;repeat' (first|refine zs ?_|refine z21 ?_ h|refine z21 ?_ l|(refine zm ?_ ?_<;>intro B)|omega)
  refine ag (av 2 0 5 rfl rfl rfl) ?_;refine ag (av 2 1 5 rfl rfl rfl) ?_;refine zR ?_;exact⟨.inl rfl,_,rfl,rfl,⟨[],[]⟩,_,.inl ⟨by rw [b];exact d,rfl,b.symm⟩,rfl⟩
def JM (r:X2) (u:X0) (h1:r.I0.length<=4398046511104) (b:r.K0.length<=4398046511104):Fn 14 [df r,fg u] (λc=>∃ o e,FU r u o e/\c=.M2 [df o,.i e]):=
 (WH r u h1 b).wk.imp λr ⟨d,⟨o,e,h,h0⟩,hr⟩=>⟨o,e,h,by rw [hr,h0];rfl⟩
end
end Go.Proofs.YtapciiffpnociabGreat
