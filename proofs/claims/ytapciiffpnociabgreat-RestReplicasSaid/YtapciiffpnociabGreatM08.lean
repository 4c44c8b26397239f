/- Several texts in one: GxVew RelK RelU MoP ScoA TokT TokU TokV TokW TokX TokY TokZ TokA TokB TokC TokD ScoB ScoC. Condition: none. -/
import Derived.Test.YtapciiffpnociabGreatM07
set_option linter.all false
set_option maxHeartbeats 8000000
open Array renaming length_toList→A5
open Bool renaming false_ne_true→C7,not_eq_true→C5,not_false→Il,not_true→Fg,or_false→Is,or_true→Iu
open List renaming append_assoc→Bm,append_nil→Bn,cons_append→Dh,count_cons→Fo,drop_eq_nil_of_le→Gn,ext_getElem?→Ce,flatten_cons→Ds,getD→A4,getElem?_append_left→Bj,getElem?_append_right→A7,getElem?_eq_getElem→Ad,getElem?_eq_none→Be,getElem?_take→Bf,getElem_mem→Ah,getElem_replicate→Eg,getElem_take→Dt,length_append→Ag,length_cons→Ba,length_drop→A9,length_map→Aa,length_nil→Dv,length_replicate→Cb,length_set→A6,length_take→Ap,mem_append→C0,mem_append_left→Ax,mem_cons→Bl,mem_cons_of_mem→Ak,mem_cons_self→Ac,mem_of_mem_drop→B4,mem_of_mem_take→Bz,replicate→Aq,replicate_succ→G9,take_append_of_le_length→Bc,take_of_length_le→Aj,take_succ_eq_append_getElem→Am
open Nat renaming add_mul→Bq,le_refl→Af,min_eq_left→Ej,mul_le_mul_right→A8,not_lt_zero→A2,zero_le→Ai
namespace Go.Proofs.YtapciiffpnociabGreat
open Tryz
open Go Go.RowKit
variable {pos:String} {af:Array Edge} {g:Option (Nat×Bool)}
open Go Go.RowKit
variable [Y0]
section
variable {Γ : Ctx} {k : Nat} {L : Sl} {H H' : Hp} {Q : ey} {c : Code}
def Qc {i es n:Nat} {te:TypeId} {xs:List (List D)} (t:Nat) (N:L.get t=.R5 i es 0 n) (hH:Hp.get H i=some (.row te es xs)) (p:n<=xs.length) (r:zh H i some=some H') :
  X7 Γ k L H (k+1) ((t,.row k)::L) ((k,.row te es (xs.take n))::H'):=by
 rw [ny] at r;cases r;intro e a w m;have x:=m.slot t;rw [N] at x;obtain⟨hd,y,z⟩:=x;have O:¬ e.U4 k:=λh=>ir k<|(m.top k).1 h
 obtain⟨l,A,B,P,R⟩:=(m.heap _<|Hp.mem_of hH).2;generalize S:a.tmps.getD t undef=v at y z;have o:(e.Q2 k v).η k=v:=if_pos rfl;have T:(xs.take n).length=n:=by rw [Ap];omega
 have C:w.ownsRow 0 te es v n (l.take<|n*es)/\v.ownBlock=(e.η i).ownBlock:=by
  have E:(l.take<|n*es).length=n*es:=by rw [Ap,A.1];exact Ej<|A8 _ p
  rcases z with ⟨b,rfl,_,rfl⟩|⟨g,n0,U,a1,b,_,a2,a3,rfl,W⟩
  ·exact⟨⟨E,.inl ⟨rfl,rfl⟩⟩,by rw [b]⟩
  ·have F:=W<|.inr rfl;rw [Nat.zero_mul] at F;subst F;rcases A.2 with ⟨d,_⟩|⟨g',a4,Y,d,G,Z,h1,h2,h3,h4⟩
   ·rw [b] at d;cases d
   ·rw [b] at d;cases d;refine⟨⟨E,.inr ⟨g,U,Y,by simp,G,Z,by omega,h2,h3,?_⟩⟩,by rw [b];rfl⟩
    rw [<- h4,List.take_take,Ej<|A8 _ p]
 have m2:=m.M5 (hb:=.row te es<|xs.take n) hH (ir k) (e':=e.Q2 k v) (w':=w) (λi=>or_congr (m.top i) Iff.rfl) (e.N3 _ _ O) (Af _) rfl rfl rfl (λ_=>Af _)
  (λ_ _ _=>rfl) (λc I=>by simp only [HB.owned,o] at I;exact .inl<|by simp only [HB.owned];rw [<- C.2];exact I) (λhX=>by
   refine⟨l.take (n*es),by rw [o,T];exact C.1,λj hj=>?_,λu hu=>P u (Bz hu),λj hj q hq=>?_⟩
   ·rw [Dt];exact B j _
   ·have a0:j<n:=by omega
    have J:(xs.take n)[j]=xs[j]'(by omega):=Dt;have M:q<(xs[j]'(by omega)).length:=by rw [<- J];exact hq
    obtain⟨u,p1,p2⟩:=R j (by omega) q M;have a5:q<es:=by rw [<- B j (by omega)];exact M
    refine⟨u,?_,?_⟩
    ·rw [Bf,if_pos,p1];have:(j+1)*es<=n*es:=A8 _ a0
     rw [Bq,Nat.one_mul] at this;omega
    ·have p3:Q0 (Γ.X e H) w u ((xs.take n)[j][q]):=by simpa [J] using p2
     exact Q0.N1 (Af _) (λ_ _ _=>rfl) hX p3)
 have f:=m2.cast<|gv k;refine⟨_,⟨f.toHeap,f.defers,f.len,λt'=>?_⟩⟩
 rw [Sl.C1];split
 ·rename_i ht;subst ht;rw [S];exact⟨.inr rfl,o.symm,y⟩
 ·exact f.slot t'
end
section
variable {Γ : Ctx} {kk : Nat -> Prop} {L : Sl} {H : Hp} {a : Act} {w : World} {e : Env}
def x7 {α:Type} (xs ys:List α) (j p:Nat) (h:j+ys.length<=xs.length):(xs.take j++ys++xs.drop (j+ys.length))[p]?=if p<j then xs[p]? else if p<j+ys.length then ys[p-j]? else xs[p]?:=by
 have d:(xs.take j).length=j:=by rw [Ap];omega
 by_cases b:p<j
 ·rw [if_pos b,Bm,Bj (by omega),Bf,if_pos b]
 ·rw [if_neg b];by_cases f:p<j+ys.length
  ·rw [if_pos f,Bm,A7 (by omega),d,Bj<|by omega]
  ·rw [if_neg f,A7 (by rw [Ag];omega),Ag,d,List.getElem?_drop];congr 1;omega
def Yk (m:J0 Γ kk L H e a w) {i es j o n0 cap:Nat} {tb:TypeId} {xs ys:List (List D)} {N:List Value} {d:Array Value} (hH:Hp.get H i=some (.row tb es xs)) (G:j+ys.length<=xs.length)
  (R:N.length=ys.length*es) (S:∀ p (r:p<ys.length),(ys[p]'r).length=es) (h1:∀ v∈N,v.oneCell'=true) (hr:∀ p (r:p<ys.length) q (u:q<(ys[p]'r).length),∃ v,N[p*es+q]?=some v/\Q0 (Γ.X e H) w v ((ys[p]'r)[q]'u))
  (C:e.η i=.slice (some ⟨o,0,none⟩) n0 cap) (T:w.heap[o]?=some (.cells d tb (0,0))) :
  j*es+N.length<=d.size/\J0 Γ kk L (Hp.set H i (.row tb es (xs.take j++ys++xs.drop (j+ys.length)))) e a (w.setRow o (d.toList.take (j*es)++N++d.toList.drop (j*es+N.length)).toArray):=by
 have U:=Hp.mem_of hH;obtain⟨x,W,I,Y,Z⟩:=(m.heap _ U).2;rcases W.2 with ⟨z,_⟩|⟨g',b6,b7,z,a5,a0,a1,a9,a2,b0⟩
 ·rw [C] at z;cases z
 rw [C] at z;cases z;rw [T] at a0;cases a0;have c0:x.length=xs.length*es:=W.1;have c1:j*es+N.length<=xs.length*es:=by rw [R,<- Bq];exact A8 _ G
 have c2:xs.length*es<=d.size:=by rw [a2];exact A8 _ a1
 have E:∀ zs,HB.owned e (i,.row tb es zs)=some o:=λzs=>by simp [HB.owned,C,Value.ownBlock]
 have F:(xs.take j++ys++xs.drop (j+ys.length)).length=xs.length:=by simp only [Ag,Ap,A9];omega
 refine⟨by omega,m.Ck (b':=.row tb es<|xs.take j++ys++xs.drop (j+ys.length)) hH ?_ rfl rfl rfl (λ_=>Af _) (λc _ J=>setRow_other w _ c _<|λh=>J<|by rw [E,h]) (by rw [E,E]) ?_⟩
 ·simp [World.setRow]
 ·have b1:(w.setRow o (d.toList.take (j*es)++N++d.toList.drop (j*es+N.length)).toArray).heap[o]?=some (.cells (d.toList.take (j*es)++N++d.toList.drop (j*es+N.length)).toArray tb (0,0)):=setRow_heap w o d _ tb (0,0) T;have b2:∀ b,b<w.heap.size->¬ Γ.X e H b->(w.setRow o (d.toList.take (j*es)++N++d.toList.drop (j*es+N.length)).toArray).heap[b]?=w.heap[b]?:=λb _ hb=>setRow_other w _ b _ (λh=>hb (.inr (List.mem_filterMap.2 ⟨_,U,by rw [E,h]⟩)))
  refine⟨x.take (j*es)++N++x.drop (j*es+N.length),⟨?_,.inr ⟨o,cap,_,?_,a5,b1,?_,a9,?_,?_⟩⟩,λp r=>?_,λv y=>?_,λp r q u=>?_⟩
  ·rw [F];simp only [Ag,Ap,A9];omega
  ·rw [F];exact C
  ·rw [F];exact a1
  ·rw [<- a2];simp only [List.size_toArray,Ag,Ap,A9,A5];omega
  ·rw [F];apply Ce;intro p;rw [Bf];by_cases M:p<xs.length*es
   ·have b3:d.toList[p]?=x[p]?:=by rw [<- b0,Bf,if_pos M]
    rw [if_pos M,x7 _ _ _ _ (by have:=A5 (xs:=d);omega),x7 _ _ _ _ (by omega),b3]
   ·rw [if_neg M,Be (by
     have:x.length<=p:=by omega
     have h9:(x.take (j*es)++N++x.drop (j*es+N.length)).length=x.length:=by simp only [Ag,Ap,A9];omega
     omega)]
  ·have f:=x7 xs ys j p G;rw [Ad r] at f;split at f
   ·obtain⟨l,n⟩:=List.getElem?_eq_some_iff.1 f.symm;rw [<- n];exact I p l
   ·split at f
    ·obtain⟨l,n⟩:=List.getElem?_eq_some_iff.1 f.symm;rw [<- n];exact S _ l
    ·obtain⟨l,n⟩:=List.getElem?_eq_some_iff.1 f.symm;rw [<- n];exact I p l
  ·simp only [C0] at y;rcases y with (y|y)|y
   ·exact Y v<|Bz y
   ·exact h1 v y
   ·exact Y v<|B4 y
  ·have f:=x7 xs ys j p G;rw [Ad r] at f;have c3:p<xs.length:=by omega
   generalize hz:(xs.take j++ys++xs.drop (j+ys.length))[p]=c4 at f u;have O:∀ {v:Value} {a3:D},Q0 (Γ.X e H) w v a3->Q0 (Γ.X e H) (w.setRow o (d.toList.take (j*es)++N++d.toList.drop (j*es+N.length)).toArray) v a3:=λh=>Q0.N1 (by simp [World.setRow]) b2 (λ_ _ h=>h) h
   have b4:∀ c,p<c->q<es->p*es+q<c*es:=λc J P=>by
    have:(p+1)*es<=c*es:=A8 _ J
    rw [Bq] at this;omega
   split at f
   ·rename_i a4;obtain⟨l,n⟩:=List.getElem?_eq_some_iff.1 f.symm;subst n;obtain⟨v,A,B⟩:=Z p l q u;have P:q<es:=by rw [<- I p l];exact u
    exact⟨v,by rw [x7 _ _ _ _ (by omega),if_pos<|b4 j a4 P];exact A,O B⟩
   ·rename_i a4;split at f
    ·rename_i b5;obtain⟨l,n⟩:=List.getElem?_eq_some_iff.1 f.symm;subst n;obtain⟨v,A,B⟩:=hr (p-j) l q u;have P:q<es:=by rw [<- S (p-j) l];exact u
     have e1:p*es=j*es+(p-j)*es:=by rw [<- Bq];congr 1;omega
     have e2:(p-j)*es+q<N.length:=by
      rw [R];have:(p-j+1)*es<=ys.length*es:=A8 _<|by omega
      rw [Bq] at this;omega
     exact⟨v,by rw [x7 _ _ _ _ (by omega),if_neg (by omega),if_pos (by omega),show p*es+q-j*es=(p-j)*es+q by omega];exact A,O B⟩
    ·rename_i b5;obtain⟨l,n⟩:=List.getElem?_eq_some_iff.1 f.symm;subst n;obtain⟨v,A,B⟩:=Z p l q u;have e1:(j+ys.length)*es<=p*es:=A8 _ (by omega);rw [Bq] at e1;exact⟨v,by rw [x7 _ _ _ _ (by omega),if_neg (by omega),if_neg<|by omega];exact A,O B⟩
end
def rb {α:Type} (z:List α):∀ (n i j:Nat),i<n->j<z.length->(Aq n z).flatten[i*z.length+j]?=z[j]?
 | 0,_,_,h,_=>by omega
 | n+1,0,j,_,b=>by rw [G9,Ds,Nat.zero_mul,Nat.zero_add,Bj b]
 | n+1,i+1,j,hi,b=>by
  have d:(i+1)*z.length+j=z.length+(i*z.length+j):=by rw [Bq];omega
  rw [G9,Ds,d,A7 (by omega),Nat.add_sub_cancel_left,rb z n i j (by omega) b]
def Hs:List Value->List D->Prop
 | [],[]=>True
 | v::b,d::f=>(S6 v=.d d∨(S6 v=.Q1/\∃ h,d=.slice h []))/\Hs b f
 | _,_=>False
def t8 {X:Nat->Prop} {e:Env} {w:World}:∀ {vs:List Value} {ds:List D},Hs vs ds->O0 X e w (vs.map S6) vs->vs.length=ds.length/\∀ q (j:q<ds.length),∃ v,vs[q]?=some v/\Q0 X w v ds[q]
 | [],[],_,_=>⟨rfl,λq j=>by simp at j⟩
 | [],_::_,h,_=>h.elim
 | _::_,[],h,_=>h.elim
 | v::vs,d::ds,⟨f,l⟩,⟨b,n⟩=>by
  obtain⟨o,p⟩:=t8 l n
  refine⟨by simp [o],λq j=>?_⟩
  cases q with
  | zero =>
   refine⟨v,rfl,?_⟩
   rcases f with f|⟨f,z,r⟩
   ·rw [f] at b;exact b
   ·rw [f] at b
    have b:v=.slice none 0 0:=b
    subst b
    show Q0 X w _ d
    rw [r];exact .nil
  | succ q =>
   obtain⟨u,x,y⟩:=p q<|by simpa using j
   exact⟨u,by simpa using x,by simpa using y⟩
def sj (z:Array Value) (n:Nat) (b:0<z.size):(Builtin.zeroCells z n).toList=(List.replicate n z.toList).flatten:=by
 apply Ce;intro p;have j:((Aq n z.toList)).flatten.length=n*z.size:=by simp
 by_cases d:p<n*z.size
 ·have h:p/z.size<n:=Nat.div_lt_of_lt_mul (by rw [Nat.mul_comm];exact d);have f:=rb z.toList n (p/z.size) (p%z.size) h (by rw [A5];exact Nat.mod_lt _ b);rw [A5,Nat.div_add_mod'] at f;rw [f];simp [Builtin.zeroCells,d,getElem!_pos,Nat.mod_lt _ b]
 ·rw [Be (by simp [Builtin.zeroCells];omega),Be<|by omega]
section
variable {Γ : Ctx} {k : Nat} {L : Sl} {H H' : Hp} {K : cn} {ops : List Oper} {rest : List Oper} {t : TypeId}
def OH (zs:List D) {tb te ty:TypeId} {i es j n:Nat} {xs:List (List D)} {x:Operand} (O:aj L x=.R5 i es j n) (hH:Hp.get H i=some (.row tb es xs)) (R:(ai Γ.τ t).sh=.slice te) (S:(ai Γ.τ te).sh.known=true)
  (T:Hs (ai Γ.τ te).zero zs) (U:gp (ai Γ.τ te).zero=true) (d:(ai Γ.τ te).zero.length=es) (he:0<es) (b2:0<n) (W:j+n<=xs.length) (Y:ap ops L g=some true)
  (u:zd H i (.row tb es (xs.take j++Aq n zs++xs.drop (j+n))) some=some H') (Z:DS false Γ ops rest K k L H') :
  DS false Γ ops (⟨none,.call { callee:=.builtin .clear,args:=#[x],argTypes:=#[t] },ty,pos,af,g⟩::rest) K k L H:=by
 rw [k9] at u;cases u;refine gj Y λe a w m=>?_
 obtain⟨b3,z,hi,a0,hs,_,f⟩:=Ctx.info<|Sh.Y1 S;obtain⟨_,_,a1⟩:=Q5 m O (m8 · _ _ _ _);have h:z.cells.size=es:=by rw [<- A5,f,d]
 rcases a1 with ⟨_,_,_,rfl⟩|⟨y,n0,b4,b5,l,b6,b7,c0,o,ho⟩
 ·omega
 have:=ho<|.inl<|by omega
 subst this;obtain⟨vs,a2,c1,_,_⟩:=(m.heap _<|Hp.mem_of hH).2;rcases a2.2 with ⟨b,_⟩|⟨g',c2,p,b,_,A,_,_,c3,_⟩
 ·rw [l] at b;cases b
 rw [l] at b;cases b;have B:=ij (X:=Γ.X e H) (e:=e) (w:=w) _ U;obtain⟨C,zr⟩:=t8 T B.1;have hN:=sj z.cells n (by omega);have a3:(Builtin.zeroCells z.cells n).toList.length=n*es:=by simp [Builtin.zeroCells,h]
 have r:(Aq n zs).length=n:=Cb;have E:∀ v∈(Builtin.zeroCells z.cells n).toList,v.oneCell'=true:=λv o=>B.2 v<|by rw [<- f];exact nh o
 obtain⟨a4,F⟩:=Yk m hH (j:=j) (ys:=Aq n zs) (N:=(Builtin.zeroCells z.cells n).toList) (by rw [r];exact W) (by rw [a3,r]) (λa5 G=>by rw [Eg,<- C,d]) E (λa5 G q hq=>by
  have I:q<zs.length:=by simpa using hq
  obtain⟨v,q1,q2⟩:=zr q I;refine⟨v,?_,by simpa using q2⟩
  have a9:q<es:=by rw [<- d,C];exact I
  rw [hN,<- h,<- A5,rb _ _ _ _ (by simpa using G) (by rw [A5,h];exact a9),f];exact q1) l A
 rw [r] at F;have J:=run_storeCells_at Γ.P y (j*es) tb (Builtin.zeroCells z.cells n).toList 0 p w A (by simpa using a4) E;have b0:(execOp a.eval ⟨none,.call { callee:=.builtin .clear,args:=#[x],argTypes:=#[t] },ty,pos,af,g⟩).run Γ.P w=.ok (.value<|.tuple #[]) (w.setRow y (p.toList.take (j*es)++(Builtin.zeroCells z.cells n).toList++p.toList.drop (j*es+(Builtin.zeroCells z.cells n).toList.length)).toArray):=by
  have b1:(zeroValue te).run Γ.P w=.ok z w:=by
   simp [zeroValue,typeInfo,hi,a0]
  obtain⟨M,rfl⟩:∃ M,n=M+1:=⟨n-1,by omega⟩;simp only [Nat.add_zero] at J;simp [execOp,resolve,invoke,builtin,o,Builtin.clear_,run_underlying (Ctx.slice R),b1,J]
 unfold Oper.wp;rw [b0];exact⟨k,L,_,e,F,Z⟩
end
def Jq {P:Program} (w:World) (t b ty e:TypeId) (i:TypeInfo) (z:Value) (f:P.underlying t=some (.slice e)) (j:P.underlying b=some (.int .i64)) (hi:P.info? e=some i) (l:i.zero=some z)
  (n:Nat) (o:0<n) (y:(n:Int)<=9223372036854775807) (A:n*i.bytes<=281474976710656) (p:i.size≠0) :
  (Builtin.append_ #[t,b] ty #[.slice none 0 0,.int .i64 n]).run P w =
   .ok (.slice (some ⟨w.heap.size,0,none⟩) n (grownCap w n 0 e)) (w.drew.alloc (.cells (Builtin.zeroCells z.cells n++Builtin.zeroCells z.cells (grownCap w n 0 e-n)) e)):=by
 have d:n≠0:=by omega
 have q:¬ (9223372036854775807<(n:Int)):=by omega
 have r:¬ (281474976710656<Builtin.nextslicecap n 0*i.bytes):=by rw [nextslicecap_zero o];omega
 have u:IntKind.i64.wrap (n:Int)=n:=by simp [IntKind.wrap,IntKind.bits,IntKind.signed];omega
 have v:¬ ((n:Int)<0):=by omega
 have x:¬ (281474976710656<(n:Int)*(i.bytes:Int)):=by
  have:((n*i.bytes:Nat):Int)<=281474976710656:=by omega
  rw [Int.natCast_mul] at this;omega
 simp [Builtin.append_,asInt,asIntOf,run_underlying f,run_underlying j,sizeOf,typeInfo,zeroValue,hi,l,u,v,x,d,q,r,Question.forced,run_firstCells_none,newRow,grownCap];intro h;exact absurd h<|Nat.mul_ne_zero d p
section
variable {Γ : Ctx} {k : Nat} {L : Sl} {H : Hp} {K : cn} {ops : List Oper} {rest : List Oper} {t : TypeId}
def vK {kk:Nat->Prop} {a:Act} {w:World} {e:Env} (m:J0 Γ kk L H e a w) {x:Operand} (b:aj L x=.Q1):a.eval x=.slice none 0 0:=by
 have d:Nq x:=by
  cases x with
  | const v=>simp only [aj] at b;unfold S6 at b;split at b<;>simp_all [Nq,NY]
  | _=>trivial
 have:=m.op x d
 rw [b] at this;exact this
def Tr (zs:List D) {d n es:Nat} {te b ty:TypeId} {x y:Operand} {m':Int} (R:aj L x=.Q1) (S:aj L y=.d (.int .i64 m')) (T:m'=(n:Int)) (U:(ai Γ.τ t).sh=.slice te) (W:(ai Γ.τ b).sh=.int .i64)
  (Y:(ai Γ.τ te).sh.known=true) (Z:(ai Γ.τ te).cells=es) (hz:Hs (ai Γ.τ te).zero zs) (a0:gp (ai Γ.τ te).zero=true) (l:(ai Γ.τ te).zero.length=es) (he:0<es) (h0:0<n) (a1:n*(ai Γ.τ te).bytes<=281474976710656) (A:n<=maxLen)
  (hw:ap ops L g=some true) (hd:Nat.blt d Γ.n=true) (hk:DS false Γ ops rest K (k+1) ((d,.row k)::L) ((k,.row te es (Aq n zs))::H)) :
  DS false Γ ops (⟨some d,.call { callee:=.builtin .append,args:=#[x,y],argTypes:=#[t,b] },ty,pos,af,g⟩::rest) K k L H:=by
 subst T;refine gj hw λe a w m=>?_
 obtain⟨B,z,hi,a2,hs,f,o⟩:=Ctx.info<|Sh.Y1 Y;have j:z.cells.size=es:=by rw [<- A5,o,l]
 have a3:Γ.P.underlying b=some (.int .i64):=by
  have C:Γ.sh b=.int .i64:=W;obtain⟨u,B,z,h1,_,_,h4,_⟩:=jf (Γ.ti (t:=b)<|by rw [C];intro h;cases h);rw [h1];have E:o7 Γ.P u=.int .i64:=h4▸C;cases u<;>simp [o7] at E ⊢
  exact E
 have F:=Jq (P:=Γ.P) w t b ty te B z (Ctx.slice U) a3 hi a2 n h0 (by unfold maxLen at A;omega) (by rw [f];exact a1) (by rw [hs];have:Γ.cells te=es:=Z;omega);have G:=grownCap_ge w n 0 te;have I:=grownCap_le_maxLen w n 0 te A;generalize grownCap w n 0 te=c at F G I;have a4:(execOp a.eval ⟨some d,.call { callee:=.builtin .append,args:=#[x,y],argTypes:=#[t,b] },ty,pos,af,g⟩).run Γ.P w=.ok (.value<|.slice (some ⟨w.heap.size,0,none⟩) n c) (w.drew.alloc<|.cells (Builtin.zeroCells z.cells n++Builtin.zeroCells z.cells (c-n)) te):=by
  simp only [execOp,resolve,invoke,builtin,Sem.run_bind,Sem.run_pure,Result.andThen_ok,List.map_toArray,List.map_cons,List.map_nil,vK m R,R8 m S,F]
 unfold Oper.wp;rw [a4];have m1:J0 Γ (lo k) L H e a w.drew:=m.below<|(W4.refl _ _ _).drew;have a5:¬ e.U4 k:=λh=>ir k<|(m.top k).1 h
 have p:(e.Q2 k<|.slice (some ⟨w.heap.size,0,none⟩) n c).η k=.slice (some ⟨w.heap.size,0,none⟩) n c:=if_pos rfl;have r:(Builtin.zeroCells z.cells n).toList.length=n*es:=by simp [Builtin.zeroCells,j]
 have a9:=sj z.cells n (by omega);have m2:=m1.new (ir k) (hb:=.row te es<|Aq n zs) (e':=e.Q2 k<|.slice (some ⟨w.heap.size,0,none⟩) n c) (w':=w.drew.alloc<|.cells (Builtin.zeroCells z.cells n++Builtin.zeroCells z.cells (c-n)) te) (λi=>or_congr (m.top i) Iff.rfl) (e.N3 _ _ a5) (eh Γ.dr _ _)
  (λb2 f=>by simp only [HB.owned,p,Value.ownBlock,Option.some.injEq] at f;subst f;exact Af _) (λhX=>by
   have J:=ij (X:=Γ.X (e.Q2 k<|.slice (some ⟨w.heap.size,0,none⟩) n c) ((k,.row te es<|Aq n zs)::H)) (e:=e) (w:=w.drew.alloc<|.cells (Builtin.zeroCells z.cells n++Builtin.zeroCells z.cells (c-n)) te) _ a0;obtain⟨M,zr⟩:=t8 hz J.1;refine⟨(Builtin.zeroCells z.cells n).toList,⟨by rw [r,Cb],.inr ⟨w.heap.size,c,_,by rw [p,Cb],Ai _,heap_alloc_new w.drew _,by rw [Cb];exact G,I,?_,?_⟩⟩,λb0 N=>by rw [Eg,<- M,l],λv hv=>J.2 v (by rw [<- o];exact nh hv),λb0 N q hq=>?_⟩
   ·simp [Builtin.zeroCells,j,<- Bq];congr 1;omega
   ·rw [Cb,Array.toList_append,Bc (by rw [r];exact Af _),Aj<|by rw [r];exact Af _]
   ·have O:q<zs.length:=by simpa using hq
    obtain⟨v,q1,q2⟩:=zr q O;refine⟨v,?_,by simpa using q2⟩
    have b1:q<es:=by rw [<- l,M];exact O
    rw [a9,<- j,<- A5,rb _ _ _ _ (by simpa using N) (by rw [A5,j];exact b1),o];exact q1)
 have m3:=m2.cast<|gv k;exact⟨k+1,_,_,_,m3.put (s:=.row k) (v:=.slice (some ⟨w.heap.size,0,none⟩) n c) (Nat.le_of_ble_eq_true hd) ⟨.inr rfl,p.symm,rfl⟩,hk⟩
def fc {kk:Nat->Prop} {te ty:TypeId} {x:Operand} (b:Γ.sh t=.slice te) (f:aj L x=.Q1):Ev Γ kk L H (.call { callee:=.builtin .cap,args:=#[x],argTypes:=#[t] }) ty (.d (.int .i64 0)):=by
 intro e a w m;have h:=vK m f;refine⟨.int .i64 0,λ_ _ _ _ j _=>?_,.int<|by decide⟩
 simp [execOp,resolve,invoke,builtin,h,Builtin.cap_,goInt,run_underlying<|Ctx.slice b]
end
attribute [local irreducible] DW DS DL DQ Ev X1 I3 du bl DT
def Tq (p:U0):List U0->List U0
 | []=>[]
 | y::l=>if dg y p=0 then Tq y l else y::Tq y l
def Kj:List U0->List U0
 | []=>[]
 | x::l=>x::Tq x l
def lC:∀ (l:List U0) (p y:U0),Tq p (l++[y])=Tq p l++(if dg y ((p::l).getLast (by simp))=0 then [] else [y])
 | [],p,y=>by
  show (if dg y p=0 then Tq y [] else y::Tq y [])=[]++_
  rfl
 | x::l,p,y=>by
  rw [Dh]
  simp only [Tq]
  rw [lC l x y,List.getLast_cons (by simp:x::l≠[])]
  split<;>simp
def mC {l:List U0} {n:Nat} (o:0<n) (f:n<l.length):Kj (l.take (n+1))=Kj (l.take n)++(if dg l[n] (l[n-1]'(by omega))=0 then [] else [l[n]]):=by
 rw [Am f];have b:l.take n≠[]:=by
  intro h;have:=congrArg List.length h
  rw [Ap,Dv] at this;omega
 obtain⟨x,r,d⟩:=List.exists_cons_of_ne_nil b;have j:(l.take n).getLast b=l[n-1]'(by omega):=by
  rw [List.getLast_eq_getElem,Dt];have:(l.take n).length-1=n-1:=by rw [Ap,Ej<|by omega]
  simp only [this]
 simp only [d,Dh,Kj];rw [lC];have:(x::r).getLast (by simp)=l[n-1]'(by omega):=by rw [<- j];congr 1;exact d.symm
 rw [this]
def eI {l:List U0} (h:l.length<=1):Kj l=l:=by
 match l,h with
 | [],_=>rfl
 | [x],_=>rfl
def aI (l:List U0) (W:l.length<=4398046511104):X1 false prog U5 bt 194 [.row 0,.fn 195 []] 0 1 [(0,.row 95 2 (l.map iy))] (λ_ r H=>r=.d (.own Y0.B (.slice 2 ((Kj l).map aa)))/\H=[]):=by
 refine pT func194 ?_;intro O X Y Z;have ll:(l.map iy).length=l.length:=Aa _;by_cases h2:l.length<2
 ·rw [eI<|by omega];repeat' (first|refine zs ?_|(refine zm ?_ ?_<;>intro h)|omega)
  refine ag (ka 4 (bm Rh _) rfl rfl rfl) ?_;refine zR ?_;exact⟨.inl rfl,_,rfl,0,[],trivial,rfl,rfl,rfl,rfl,rfl,rfl⟩
 ·repeat' (first|refine zs ?_|(refine zm ?_ ?_<;>intro h)|omega)
  refine ae (ι:=Nat) (λi=>⟨1,[(0,.row 0),(1,.fn 195 []),(5,.i i)],[(0,.row 95 2<|l.map iy)]⟩)
   (λi=>1<=i/\i<=l.length/\Kj (l.take i)=l.take i) (λi=>l.length-i) 1 ⟨by omega,by omega,eI<|by rw [Ap];omega⟩ (er id) ?_
  rintro i ⟨g0,g1,g2⟩;by_cases hi:i<l.length
  ·have f:Fn 195 [Zx l[i],Zx<|l[((i:Int)-1).toNat]'(by omega)] (λr=>r=.b (decide (dg l[i] (l[i-1]'(by omega))=0))):=by
    have e:((i:Int)-1).toNat=i-1:=by omega
    simp only [e];exact (JF _ _).Y6 _ rfl
   have v:=mC (by omega:0<i) hi;cases y:decide (dg l[i] (l[i-1]'(by omega))=0) with
   | false =>
    have E:=of_decide_eq_false y;rw [y] at f;rw [if_neg E,g2,<- Am hi] at v;repeat' (first|refine zs ?_|(apply kb;(iterate 4 exact rfl);apply f;exact rfl;(exact rfl);exact rfl;exact rfl;exact⟨_,rfl⟩;rintro _ rfl)|(refine zm ?_ ?_<;>intro h)|omega)
    exact⟨i+1,⟨by omega,by omega,v⟩,er id,by show l.length-(i+1)<l.length-i;omega⟩
   | true =>
    have E:=of_decide_eq_true y;rw [y] at f;rw [if_pos E,Bn] at v;repeat' (first|refine zs ?_|(apply kb;(iterate 4 exact rfl);apply f;exact rfl;(exact rfl);exact rfl;exact rfl;exact⟨_,rfl⟩;rintro _ rfl)|(refine zm ?_ ?_<;>intro h)|omega)
    refine ae (ι:=Nat×Nat×List U0) (λx=>⟨1,[(0,.row 0),(1,.fn 195 []),(5,.i x.1),(6,.R5 0 2 i<|(l.map iy).length-i),(7,.i x.2.1)],[(0,.row 95 2<|x.2.2.map iy)]⟩)
     (λx=>x.2.2.length=l.length/\1<=x.2.1/\x.2.1<=l.length-i/\i<=x.1/\x.1+1<=i+x.2.1/\x.2.2.take x.1=Kj (l.take<|i+x.2.1)/\∀ p,i+x.2.1<=p+1->x.2.2[p]?=l[p]?) (λx=>l.length-i-x.2.1)
     (i,1,l) ⟨rfl,by dsimp only;omega,by dsimp only;omega,by dsimp only;omega,by dsimp only;omega,by rw [v,g2],λ_ _=>rfl⟩ (er id) ?_
    rintro⟨u,k,o⟩ ⟨F,M,N,P,R,j,q⟩;dsimp only at F M N P R j q ⊢;have lo:(o.map iy).length=o.length:=Aa _;clear f;by_cases hk:k<l.length-i
    ·have J:o[i+k]'(by omega)=l[i+k]'(by omega):=by
      have:=q (i+k)<|by omega
      rw [Ad (by omega),Ad<|by omega] at this;exact Option.some.inj this
     have S:o[i+k-1]'(by omega)=l[i+k-1]'(by omega):=by
      have:=q (i+k-1)<|by omega
      rw [Ad (by omega),Ad<|by omega] at this;exact Option.some.inj this
     have f:Fn 195 [Zx (o[i+k]'(by omega)),Zx<|o[i+((k:Int)-1).toNat]'(by omega)] (λr=>r=.b (decide (dg (l[i+k]'(by omega)) (l[i+k-1]'(by omega))=0))):=by
      have e:i+((k:Int)-1).toNat=i+k-1:=by omega
      simp only [e,J,S];exact (JF _ _).Y6 _ rfl
     have A:=mC (l:=l) (n:=i+k) (by omega) (by omega);cases C:decide (dg (l[i+k]'(by omega)) (l[i+k-1]'(by omega))=0) with
     | true =>
      have G:=of_decide_eq_true C;rw [C] at f;rw [if_pos G,Bn] at A;repeat' (first|refine zs ?_|(apply kb;(iterate 4 exact rfl);apply f;exact rfl;(exact rfl);exact rfl;exact rfl;exact⟨_,rfl⟩;rintro _ rfl)|(refine zm ?_ ?_<;>intro h)|omega)
      exact⟨(u,k+1,o),⟨F,by dsimp only;omega,by dsimp only;omega,by dsimp only;omega,by dsimp only;omega,by dsimp only;rw [j];exact A.symm,λp I=>q p<|by dsimp only at I;omega⟩,er id,by show l.length-i-(k+1)<l.length-i-k;omega⟩
     | false =>
      have G:=of_decide_eq_false C;rw [C] at f;rw [if_neg G] at A;repeat' (first|refine z0 ?_|apply i7|(apply mh;exact rfl;exact rfl;(apply k0;(omega));exact rfl;exact rfl;(exact mc rfl);(iterate 6 exact rfl))|refine zs ?_|(apply kb;(iterate 4 exact rfl);apply f;exact rfl;(exact rfl);exact rfl;exact rfl;exact⟨_,rfl⟩;rintro _ rfl)|(refine zm ?_ ?_<;>intro h)|omega)
      refine⟨(u+1,k+1,o.set u<|o[i+k]'(by omega)),⟨by dsimp only;rw [A6];exact F,by dsimp only;omega,by dsimp only;omega,by dsimp only;omega,by dsimp only;omega,?_,λp I=>?_⟩,er id,by show l.length-i-(k+1)<l.length-i-k;omega⟩
      ·dsimp only;rw [Am (by rw [A6];omega),List.getElem_set_self,List.take_set,List.set_eq_of_length_le (by rw [Ap];omega),j,J];exact A.symm
      ·dsimp only at I ⊢;rw [List.getElem?_set_ne<|by omega];exact q p<|by omega
    ·repeat' (first|refine zs ?_|(refine zm ?_ ?_<;>intro h)|omega)
     have T:i+k=l.length:=by omega
     rw [T,Aj<|Af _] at j;refine OH [.int .i64 0,.slice 1 []] rfl rfl rfl rfl ⟨.inl rfl,.inr ⟨rfl,1,rfl⟩,trivial⟩ rfl rfl (by omega) (by omega) (by omega) rfl rfl ?_;refine zS ?_;all_goals try omega
     refine ag (Qc (n:=u) 4 rfl rfl (by simp only [Ag,Ap,Cb,A9];omega) rfl) ?_;have U:∀ z,z=(Kj l).map iy->tt z ((Kj l).map aa):=by rintro _ rfl;exact bm Rh _
     refine ag (ka (xs:=(Kj l).map aa) 4 (U _ ?_) rfl rfl rfl) ?_;rotate_left
     ·refine zR ?_;exact⟨.inl rfl,_,rfl,0,[],trivial,rfl,rfl,rfl,rfl,rfl,rfl⟩
     have hu:((o.map iy).take u).length=u:=by rw [Ap];omega
     show List.take u ((o.map iy).take u++Aq _ _++List.drop _ (o.map iy))=_;rw [Bm,Bc (by omega),Aj (by omega),<- List.map_take,j]
  ·rw [Aj<|by omega] at g2;rw [g2];repeat' (first|refine zs ?_|(refine zm ?_ ?_<;>intro h)|omega)
   refine ag (ka 4 (bm Rh _) rfl rfl rfl) ?_;repeat' (apply cr)
   exact⟨.inl rfl,_,rfl,0,[],trivial,rfl,rfl,rfl,rfl,rfl,rfl⟩
def N2 (l:List U0):Prop:=l.Pairwise λx y=>dg x y<0
def lt_irrefl {x:U0} (h:dg x x<0):False:=by rw [ol] at h;omega
def lt_asymm {x y:U0} (h:dg x y<0) (g:dg y x<0):False:=lt_irrefl<|n5 h g
def l5:∀ {a b:List U0},N2 a->N2 b->(∀ x,x∈a↔x∈b)->a=b
 | [],[],_,_,_=>rfl
 | [],y::b,_,_,h=>by have:=(h y).2 Ac;simp at this
 | x::a,[],_,_,h=>by have:=(h x).1 Ac;simp at this
 | x::a,y::b,o,p,h=>by
  obtain⟨l,q⟩:=List.pairwise_cons.1 o;obtain⟨n,r⟩:=List.pairwise_cons.1 p;have u:x=y:=by
   rcases List.mem_cons.1 ((h x).1 Ac) with d|d
   ·exact d
   ·rcases List.mem_cons.1 ((h y).2 Ac) with j|j
    ·exact j.symm
    ·exact (lt_asymm (n x d)<|l y j).elim
  subst u;rw [l5 q r λz=>?_];constructor
  ·intro f;rcases List.mem_cons.1 ((h z).1<|Ak _ f) with d|d
   ·subst d;exact (lt_irrefl<|l z f).elim
   ·exact d
  ·intro f;rcases List.mem_cons.1 ((h z).2<|Ak _ f) with d|d
   ·subst d;exact (lt_irrefl<|n z f).elim
   ·exact d
def kC:∀ (l:List U0) (p:U0),(p::l).Pairwise (λa b=>dg b a ≥ 0)->N2 (p::Tq p l)/\∀ x,x∈p::Tq p l↔x∈p::l
 | [],p,_=>⟨List.pairwise_cons.2 ⟨λx d=>by simp [Tq] at d,.nil⟩,λx=>Iff.rfl⟩
 | y::l,p,h=>by
  obtain⟨r,u⟩:=List.pairwise_cons.1 h;obtain⟨f,n⟩:=kC l y u;unfold Tq;split
  ·rename_i o;have:=sx o
   subst this;refine⟨f,λx=>(n x).trans ⟨λd=>Ak _ d,λd=>?_⟩⟩
   rcases List.mem_cons.1 d with rfl|d
   ·exact Ac
   ·exact d
  ·rename_i o;have q:dg p y<0:=by have:=r y Ac;rw [sc];omega
   refine⟨List.pairwise_cons.2 ⟨λz j=>?_,f⟩,λx=>?_⟩
   ·rcases List.mem_cons.1 j with rfl|j
    ·exact q
    ·exact n5 q<|(List.pairwise_cons.1 f).1 z j
   ·rw [Bl,Bl (a:=x) (b:=p),n x]
def nC {s:List U0} (h:s.Pairwise (λa b=>dg b a ≥ 0)):N2 (Kj s)/\∀ x,x∈Kj s↔x∈s:=by
 match s,h with
 | [],_=>exact⟨.nil,λ_=>Iff.rfl⟩
 | p::l,h=>exact kC l p h
def Ow {l:List U0} {f:U0}:∀ (n:Nat),n<=l.length->s7 l f n<=n/\(∀ j (b:j<l.length),s7 l f n<=j->j<n->0<dg l[j] f)/\(∀ j (b:j<l.length),j+1=s7 l f n->¬ 0<dg l[j] f)
 | 0,_=>⟨Af _,λj _ _ h=>by omega,λj _ h=>by simp [s7] at h⟩
 | n+1,u=>by
  obtain⟨v,o,p⟩:=Ow (l:=l) (f:=f) n (by omega);rw [Nw (by omega)];split
  ·rename_i h;refine⟨by omega,λj b d q=>?_,p⟩
   by_cases r:j=n
   ·subst r;exact h
   ·exact o j b d (by omega)
  ·rename_i h;refine⟨Af _,λj b d q=>by omega,λj b d=>?_⟩
   have:j=n:=by omega
   subst this;exact h
def M4 {l:List U0} {f:U0}:Z4 l f=true↔f∈l:=by
 unfold Z4;rw [List.any_eq_true];constructor
 ·rintro⟨x,b,h⟩;rw [<- sx (of_decide_eq_true h)];exact b
 ·intro h;exact⟨f,h,decide_eq_true<|ol f⟩
def yO {l:List U0} {f:U0} (h:N2 l):N2 (ye l f)/\∀ x,x∈ye l f↔x∈l∨x=f:=by
 unfold ye;split
 ·rename_i o;have:=M4.1 o
  exact⟨h,λx=>⟨.inl,λb=>b.elim id λe=>e▸this⟩⟩
 ·rename_i o;have C:f ∉ l:=λE=>o (M4.2 E)
  obtain⟨F,r,u⟩:=Ow (l:=l) (f:=f) l.length<|Af _;generalize s7 l f l.length=k at F r u;have G:=List.pairwise_iff_getElem.1 h;have I:∀ j (d:j<l.length),j<k->dg l[j] f<0:=by
   intro j d v;have p:k-1<l.length:=by omega
   have n:=u (k-1) p (by omega);have N:dg l[k-1] f≠0:=λe=>C<|sx e▸Ah p
   have z:dg l[k-1] f<0:=by omega
   by_cases J:j=k-1
   ·subst J;exact z
   ·exact n5 (G j (k-1) d p<|by omega) z
  have M:∀ j (d:j<l.length),k<=j->dg f l[j]<0:=λj d v=>by have:=r j d v d;rw [sc];omega
  have A:∀ x∈l.take k,dg x f<0:=by
   intro x b;obtain⟨j,d,rfl⟩:=List.mem_iff_getElem.1 b;rw [Ap] at d;rw [Dt];exact I j (by omega)<|by omega
  have B:∀ x∈l.drop k,dg f x<0:=by
   intro x b;obtain⟨j,d,rfl⟩:=List.mem_iff_getElem.1 b;rw [A9] at d;rw [List.getElem_drop];exact M (k+j) (by omega)<|by omega
  refine⟨List.pairwise_append.2 ⟨h.sublist (List.take_sublist _ _),List.pairwise_cons.2 ⟨B,h.sublist<|List.drop_sublist _ _⟩,λx b y q=>?_⟩,λx=>?_⟩
  ·rcases List.mem_cons.1 q with rfl|q
   ·exact A x b
   ·exact n5 (A x b)<|B y q
  ·rw [C0,Bl];constructor
   ·rintro (b|rfl|b)
    ·exact .inl<|Bz b
    ·exact .inr rfl
    ·exact .inl<|B4 b
   ·rintro (b|rfl)
    ·have:=b
     rw [<- List.take_append_drop k l] at this;rcases List.mem_append.1 this with n|n
     ·exact .inl n
     ·exact .inr<|.inr n
    ·exact .inr<|.inl rfl
def Rt:∀ (l o:List U0),N2 o->N2 (l.foldl ye o)/\∀ x,x∈l.foldl ye o↔x∈o∨x∈l
 | [],o,h=>⟨h,λx=>by simp⟩
 | y::l,o,h=>by
  obtain⟨b,d⟩:=yO (f:=y) h
  obtain⟨j,n⟩:=Rt l (ye o y) b
  refine⟨j,λx=>?_⟩
  rw [List.foldl_cons,n,d,Bl,or_assoc]
def bu (l:List U0):N2 (bg l)/\∀ x,x∈bg l↔x∈l:=by obtain⟨b,d⟩:=Rt l [] .nil;exact⟨b,λx=>(d x).trans<|by simp⟩
def QS {s l:List U0} (f:s.Perm l) (d:s.Pairwise (λa b=>dg b a ≥ 0)):Kj s=bg l:=
 l5 (nC d).1 (bu l).1 λx=>by rw [(nC d).2,(bu l).2,f.mem_iff]
structure Lv (ρ:Type) where
 rs:List ρ
 hd:List U0->ρ->List U0
 mw:List U0->ρ->Bool
 A:List U0->Prop
structure BU {ρ:Type} (V:Lv ρ):Prop where
 mono:∀ S T,V.A S->V.A T->N2 S->N2 T->(∀ x∈S,x∈T)->∀ r∈V.rs,V.mw T r=true->V.mw S r=true/\∀ x∈V.hd S r,x∈V.hd T r
 grow:∀ S T,V.A S->(∀ x∈S,x∈T)->(∀ x∈T,x∈S∨∃ r∈V.rs,∃ S',V.A S'/\N2 S'/\x∈V.hd S' r)->V.A T
structure Good {ρ:Type} (V:Lv ρ) (m0 T:List U0):Prop where
 strict:N2 T
 a:V.A T
 sub:∀ x∈m0,x∈T
 eZ:∀ r∈V.rs,V.mw T r=true
 cl:∀ r∈V.rs,∀ x∈V.hd T r,x∈T
structure Fit {ρ:Type} (V:Lv ρ) (m0 M:List U0):Prop where
 M6:Good V m0 M
 len:M.length<=60
 least:∀ T,Good V m0 T->∀ x∈M,x∈T
structure Md {ρ:Type} (V:Lv ρ) (m0 m:List U0):Prop where
 strict:N2 m
 a:V.A m
 sub:∀ x∈m0,x∈m
 len:m.length<=60
 least:∀ T,Good V m0 T->∀ x∈m,x∈T
def N2.nodup {l:List U0} (h:N2 l):l.Nodup:=h.imp λh b=>by subst b;exact lt_irrefl h
def om {α:Type}:∀ {a b:List α},a.Nodup->(∀ x∈a,x∈b)->a.length<=b.length
 | [],_,_,_=>Ai _
 | x::a,b,j,d=>by
  obtain⟨l,n⟩:=List.nodup_cons.1 j
  obtain⟨s,t,rfl⟩:=List.append_of_mem<|d x<|Ac ..
  have:=om (b:=s++t) n λy f=>by
   have o:=d y<|Ak _ f
   rcases List.mem_append.1 o with h|h
   ·exact Ax _ h
   ·rcases List.mem_cons.1 h with rfl|h
    ·exact absurd f l
    ·exact List.mem_append_right _ h
  simp only [Ag,Ba] at this ⊢
  omega
def l6 (l:List U0):(bg l).length<=l.length:=by have h:=U8 l [];rw [Dv,Nat.add_zero] at h;exact h
section
variable {ρ : Type} {V : Lv ρ} {m0 m m' : List U0}
def Fit.unique {M b:List U0} (h:Fit V m0 M) (d:Fit V m0 b):M=b:=
 l5 h.M6.strict d.M6.strict λx=>⟨h.least b d.M6 x,d.least M h.M6 x⟩
def qk (h:N2 m0) (b:V.A m0) (d:m0.length<=60):Md V m0 m0:=⟨h,b,λ_ h=>h,d,λ_ f=>f.sub⟩
def SL (f:BU V) (h:Md V m0 m) {r:ρ} (d:r∈V.rs) (j:V.mw m r=false):¬ ∃ M,Fit V m0 M:=by
 rintro⟨M,b⟩;have:=(f.mono m M h.a b.M6.a h.strict b.M6.strict (h.least M b.M6) r d<|b.M6.eZ r d).1
 rw [j] at this;cases this
def oM (f:BU V) (h:Md V m0 m) {r:ρ} (d:r∈V.rs) {x:U0} (j:x∈V.hd m r) {T:List U0} (b:Good V m0 T):x∈T:=
 b.cl r d x ((f.mono m T h.a b.a h.strict b.strict (h.least T b) r d<|b.eZ r d).2 x j)
def Yh (l:BU V) (h:Md V m0 m) {H:List U0} (hH:∀ x∈H,∃ r∈V.rs,∃ m',Md V m0 m'/\x∈V.hd m' r) (o:(bg (m++H)).length<=60):Md V m0 (bg (m++H)):=by
 obtain⟨p,d⟩:=bu<|m++H;refine⟨p,?_,λx b=>(d x).2 (Ax _<|h.sub x b),o,λT n x b=>?_⟩
 ·refine l.grow m _ h.a (λx b=>(d x).2<|Ax _ b) λx b=>?_
  rcases List.mem_append.1 ((d x).1 b) with b|b
  ·exact .inl b
  ·obtain⟨r,j,m',f,b⟩:=hH x b;exact .inr ⟨r,j,m',f.a,f.strict,b⟩
 ·rcases List.mem_append.1 ((d x).1 b) with b|b
  ·exact h.least T n x b
  ·obtain⟨r,j,m',f,b⟩:=hH x b;exact oM l f j b n
def RL (f:BU V) (h:Md V m0 m) {H:List U0} (hH:∀ x∈H,∃ r∈V.rs,∃ m',Md V m0 m'/\x∈V.hd m' r) (j:H.Nodup) (l:∀ x∈H,x ∉ m) (u:60<m.length+H.length):¬ ∃ M,Fit V m0 M:=by
 rintro⟨M,d⟩;have:(m++H).length<=M.length:=by
  refine om (List.nodup_append.2 ⟨h.strict.nodup,j,λx b y n o=>?_⟩) λx b=>?_
  ·subst o;exact l x n b
  ·rcases List.mem_append.1 b with b|b
   ·exact h.least M d.M6 x b
   ·obtain⟨r,p,m',q,b⟩:=hH x b;exact oM f q p b d.M6
 have v:=d.len;rw [Ag] at this;omega
def vx (h:Md V m0 m) (b:∀ r∈V.rs,V.mw m r=true) (hc:∀ r∈V.rs,∀ x∈V.hd m r,x∈m):Fit V m0 m:=
 ⟨⟨h.strict,h.a,h.sub,b,hc⟩,h.len,h.least⟩
def DF {a b:List U0} (f:N2 a) (hb:N2 b) (h:∀ x∈a,x∈b) (n:b.length<=a.length):a=b:=by
 refine l5 f hb λx=>⟨h x,λj=>?_⟩
 apply Classical.byContradiction;intro l;have:=om (a:=x::a) (b:=b) (List.nodup_cons.2 ⟨l,f.nodup⟩) λy d=>by
  rcases List.mem_cons.1 d with rfl|d
  ·exact j
  ·exact h y d
 rw [Ba] at this;omega
end
def Rj {p:R3} {n:Int} (b:0<=n) (h:n<(p.F0.length:Int)):p.F0.getD n.toNat 0=p.F0[n.toNat]'(by omega):=by rw [A4,Ad<|by omega];rfl
def nl {n a b:Int} (h:L5 n a b=true):a<=n/\n<=b:=by unfold L5 at h;simpa using h
def YX (p:R3) (l:T2) (j:Int) (C:0<=j) (E:j<=8):Fn 207 [gy p,bC l,.i j] (λr=>r=.i (nf p.F0 j l)):=by
 refine J2 func207 ?_;intro O G I J;obtain⟨b,z,v,x⟩:=l;have F:(p.F0.map aq).length=p.F0.length:=Aa _;have M:(x.map a7).length=x.length:=Aa _;refine ig 0 0 rfl rfl<|λN=>?_;refine ig 1 3 rfl rfl<|λP=>?_;have A:=kF x j C E;have f:=gr b 1 4;have o:=rZ b z;unfold nf;dsimp only [bC];by_cases d:L5 b 1 4=true
 ·have R:=nl d;rw [d] at f;rw [d,if_neg<|show ¬ (true=false) by decide];generalize jX b z=S at o ⊢;by_cases q:b=1∨b=2
  ·have u:=gr v 0 (((p.F0.map aq).length:Int)-1);rw [if_pos q,<- F];by_cases h:L5 v 0 (((p.F0.map aq).length:Int)-1)=true
   ·have T:=nl h;have B:=Rj (p:=p) (n:=v) (by omega) (by omega);rw [h] at u ⊢;rw [if_neg (show ¬ (true=false) by decide),B];clear d h B;rcases q with rfl|rfl
    all_goals repeat' (first|refine zr ?_|refine z21 ?_ f|refine z21 ?_ u|refine z21 ?_ o|refine z21 ?_ A|(refine zm ?_ ?_<;>intro y)|fail)
    all_goals first
     | exact bh rfl<|by simp_all<;>omega
     | exact bh rfl rfl
   ·rw [C5] at h;rw [h] at u ⊢;rw [if_pos rfl];clear d h;rcases q with rfl|rfl
    all_goals repeat' (first|refine zr ?_|refine z21 ?_ f|refine z21 ?_ u|refine z21 ?_ o|(refine zm ?_ ?_<;>intro y)|fail)
    all_goals first
     | exact bh rfl<|by simp_all<;>omega
  ·rw [if_neg q];clear d;rcases (show b=3∨b=4 by omega) with rfl|rfl
   all_goals repeat' (first|refine zr ?_|refine z21 ?_ f|refine z21 ?_ o|refine z21 ?_ A|(refine zm ?_ ?_<;>intro y)|fail)
   all_goals first
    | exact bh rfl<|by simp_all<;>omega
 ·rw [C5] at d;rw [d] at f ⊢;rw [if_pos rfl];repeat' (first|refine zr ?_|refine z21 ?_ f|(refine zm ?_ ?_<;>intro y)|fail)
  all_goals exact bh rfl rfl
def To (b:Int) (s:ByteArray):Bool:=
 if h:0<s.size then
  decide (s.size<=5000)&&decide (b≠0)&&decide ((ct s.data.toList).1=b)&&decide ((ct s.data.toList).2=s.size)&&decide (fj b s.size s[0]=0)
 else false
def Fk (b:Int) (n:Nat) (c:UInt8):fj b n c=if b=0 then 1 else if ((b=1∨b=2)/\12<n)∨(b=3/\7<n) then 2 else if b=3/\1<n/\c=48 then 1 else 0:=by unfold fj;rfl
def lN (s:ByteArray) (h:s=⟨#[]⟩):s.size=0:=by rw [h];rfl
def size_pos (s:ByteArray) (h:¬ s=⟨#[]⟩):0<s.size:=by
 rcases Nat.eq_zero_or_pos s.size with b|b
 ·exact absurd (ByteArray.ext<|Array.eq_empty_of_size_eq_zero b) h
 ·exact b
def hZ (c d:UInt8):((c.toNat:Int)=(d.toNat:Int))=(c=d):=by rw [eq_iff_iff];exact⟨λh=>UInt8.toNat_inj.1 (by omega),λh=>by rw [h]⟩
def u48 (c:UInt8):((c.toNat:Int)=48)=(c=48):=hZ c 48
def OV (a b:Nat):((a:Int)=(b:Int))=(a=b):=by rw [eq_iff_iff];omega
def sG (b:Nat):((1:Int)<(b:Int))=(1<b):=by rw [eq_iff_iff];omega
def rG (b:Nat):((7:Int)<(b:Int))=(7<b):=by rw [eq_iff_iff];omega
def AB (b:Nat):((12:Int)<(b:Int))=(12<b):=by rw [eq_iff_iff];omega
def RJ (d:Int) (s:ByteArray):Fn 163 [.i d,.t s] (λr=>r=.b (To d s)):=by
 refine J2 func163 ?_;intro O v x y;repeat' (first|refine zr ?_|(refine zm ?_ ?_<;>intro l)|fail)
 all_goals first
  | exact bi rfl (by
    unfold To;split
    ·first
      | (simp [*];done)
      | (exfalso
         rw [lN s ‹_›] at *;omega)
      | (have n:¬ s.size<=5000:=by omega
         simp [n];done)
    ·rfl)
  | skip
 have f:=size_pos s ‹_›;have h:=zI s 0 f (by omega);rw [List.drop_zero] at h;refine yq rfl rfl h rfl rfl rfl ?_;rintro _ rfl;have z:s.size<=5000:=by omega
 have o:To d s=(decide ((ct s.data.toList).1=d)&&decide ((ct s.data.toList).2=s.size)&&decide (fj d s.size s[0]=0)):=by
  unfold To;rw [dif_pos f];simp [*]
 repeat' (first|refine zr ?_|(refine zm ?_ ?_<;>intro l)|fail)
 all_goals first
  | exact bi rfl (by
    rw [o,Fk];try simp only [OV,sG,rG,AB,u48] at *
    first
     | (simp_all;done)
     | (simp_all;omega)
     | (have:¬ 7<s.size:=by omega
        simp_all;done)
     | (have:¬ 7<s.size:=by omega
        by_cases j:s[0]=48<;>simp_all;done)
     | (have:¬ 7<s.size:=by omega
        have:¬ 1<s.size:=by omega
        simp_all;done)
     | (have p:d=3:=by omega
        have q:¬ 7<s.size:=by omega
        have u:1<s.size:=by omega
        rw [decide_eq_true ‹(ct s.data.toList).fst=d›,decide_eq_true ‹(ct s.data.toList).snd=s.size›,p];by_cases j:s[0]=48<;>simp [j,q,u];done))
def yM (r:List Zz×Int×Int):SV:=.M2 [.d (xM r.1),.i r.2.1,.i r.2.2]
def yN (s:ByteArray) (h:5000<s.size):za s=([],0,2):=by unfold za;rw [if_pos h]
def xF (s:ByteArray) (h:¬ 5000<s.size) (l:List Zz) (e:cy s false 0=.ok l):za s=(l,0,0):=by unfold za;rw [if_neg h,e]
def xN (s:ByteArray) (h:¬ 5000<s.size) (p e:Int) (b:cy s false 0=.error (p,e)):za s=([],p,e):=by unfold za;rw [if_neg h,b]
def i37 (c:UInt8):((c.toNat:Int)=37)=(c=37):=hZ c 37
def i32 (c:UInt8):((c.toNat:Int)=32)=(c=32):=hZ c 32
def i9 (c:UInt8):((c.toNat:Int)=9)=(c=9):=hZ c 9
def i10 (c:UInt8):((c.toNat:Int)=10)=(c=10):=hZ c 10
def Lc (s:ByteArray) (d:Bool) (i:Nat) (h:i<s.size) (b:d=true∨(s[i].toNat:Int)=37):cy s d i=cy s (decide ((s[i].toNat:Int)≠10)) (i+1):=by rw [zF s d i h<|by rw [i37] at b;rcases b with b|b<;>simp [b]];congr 1;rw [Bool.eq_iff_iff];simp only [ne_eq,i10];simp
def Mz (s:ByteArray) (b:Bool) (i:Nat) (h:i<s.size) (f:b=false) (h1:¬ (s[i].toNat:Int)=37) (d:(s[i].toNat:Int)=32∨(s[i].toNat:Int)=9∨(s[i].toNat:Int)=10):cy s b i=cy s b (i+1):=by subst f;rw [i37] at h1;rw [i32,i9,i10] at d;exact eD s i h (by simpa using h1)<|by simpa [or_assoc] using d
def FQ (s:ByteArray) (b:Bool) (i:Nat) (h:i<s.size) (p:b=false) (h1:¬ (s[i].toNat:Int)=37) (f:¬ (s[i].toNat:Int)=32) (j:¬ (s[i].toNat:Int)=9) (l:¬ (s[i].toNat:Int)=10) (q:Int×Nat) (r:ct (s.data.toList.drop i)=q) :
  cy s b i=if fj q.1 q.2 s[i]=0 then (cy s b (i+q.2)).map (Zz.mk q.1 i (s.extract i (i+q.2))::·) else .error (i,fj q.1 q.2 s[i]):=by
 subst p;subst r;rw [i37] at h1;rw [i32] at f;rw [i9] at j;rw [i10] at l;have n:(s[i]==37)=false:=by simpa using h1
 have o:(s[i]==32||s[i]==9||s[i]==10)=false:=by simp [f,j,l]
 split
 ·rename_i d;exact Ut s i h n o d
 ·rename_i d;exact UI s i h n o d
def map_map (x:Except (Int×Int) (List Zz)) (f g:List Zz->List Zz):(x.map f).map g=x.map λl=>g (f l):=by cases x<;>rfl
def AI (b:Int) (n:Nat) (c:UInt8):fj b n c=if b=0 then 1 else if ((b=1∨b=2)/\(12:Int)<n)∨(b=3/\(7:Int)<n) then 2 else if b=3/\(1:Int)<n/\(c.toNat:Int)=48 then 1 else 0:=by simp only [AB,rG,sG,u48];exact Fk b n c
def WQ (c:UInt8):i4 c=(decide ((97:Int)<=c.toNat)&&decide ((c.toNat:Int)<=122)):=by unfold i4;rfl
def gT (c:UInt8):k5 c=(decide ((65:Int)<=c.toNat)&&decide ((c.toNat:Int)<=90)):=by unfold k5;rfl
def YT (c:UInt8):dc c=(decide ((48:Int)<=c.toNat)&&decide ((c.toNat:Int)<=57)):=by unfold dc;rfl
def uF (c:UInt8):Fn 275 [.d (.int .u8 (c.toNat:Int))] (λr=>r=.b (i4 c)):=by
 refine J2 func275 ?_;intro O f h j;repeat' (first|refine zr ?_|(refine zm ?_ ?_<;>intro l)|fail)
 all_goals exact bi rfl<|by rw [WQ];first|(simp_all;done)|(simp_all;omega)
def gH (c:UInt8):Fn 276 [.d (.int .u8 (c.toNat:Int))] (λr=>r=.b (k5 c)):=by
 refine J2 func276 ?_;intro O f h j;repeat' (first|refine zr ?_|(refine zm ?_ ?_<;>intro l)|fail)
 all_goals exact bi rfl<|by rw [gT];first|(simp_all;done)|(simp_all;omega)
def Qy (c:UInt8):Fn 279 [.d (.int .u8 (c.toNat:Int))] (λr=>r=.b (dc c)):=by
 refine J2 func279 ?_;intro O f h j;repeat' (first|refine zr ?_|(refine zm ?_ ?_<;>intro l)|fail)
 all_goals exact bi rfl<|by rw [YT];first|(simp_all;done)|(simp_all;omega)
def qU (c:UInt8):Fn 278 [.d (.int .u8 (c.toNat:Int))] (λr=>r=.b (ew c)):=by
 refine J2 func278 ?_;intro O f h j;repeat' (first|refine zr ?_|refine z31 ?_ (hc:=by apply uF)|refine z31 ?_ (hc:=by apply gH)|refine z31 ?_ (hc:=by apply Qy)|(refine zm ?_ ?_<;>intro l)|fail)
 all_goals exact bi rfl<|by unfold ew gl;simp_all
abbrev WY (f:FuncId) (args:List SV) (J k:Nat) (H:Hp) (R:Nat->SV->Hp->Prop):Prop:=X1 false prog U5 bt f args J k H R
abbrev BF (s:ByteArray) (i:Nat):Hp:=[(0,.M1 303 [.t s,.i i])]
def ZU (s:ByteArray) (i:Nat):WY 274 [.loc 0 0] 1 1 (BF s i) (λb r f=>b=1/\r=.d (.int .u8 (if h:i<s.size then (s[i].toNat:Int) else 0))/\f=BF s i):=by
 refine dZ func274 ?_;intro O j l n;repeat' (first|refine zr ?_|(refine zm ?_ ?_<;>intro o)|fail)
 ·refine⟨.inl rfl,_,rfl,rfl,?_,rfl⟩
  rw [dif_pos<|by omega];rfl
 ·refine⟨.inl rfl,_,rfl,rfl,?_,rfl⟩
  rw [dif_neg<|by omega];rfl
def MV (s:ByteArray) (j:Nat) (h:j<s.size) (h1:(s[j].toNat:Int)=37):cy s false j=cy s true j:=by rw [Lc s false j h (.inr h1),Lc s true j h<|.inl rfl]
def LV (s:ByteArray) (j:Nat) (h:j<s.size) (h1:¬ (s[j].toNat:Int)=10):cy s true j=cy s true (j+1):=by rw [Lc s true j h (.inl rfl),decide_eq_true h1]
def ZR (s:ByteArray) (j:Nat) (h:∀ h:j<s.size,(s[j].toNat:Int)=10):cy s true j=cy s false j:=by
 by_cases b:j<s.size
 ·have d:=h b;rw [Lc s true j b (.inl rfl),decide_eq_false (by rw [d];simp),Mz s false j b rfl (by omega)<|by omega]
 ·rw [xk s true j (by omega),xk s false j<|by omega]
def oL (s:ByteArray) (i:Nat) (hi:i<=s.size) (n:s.size<=5000):WY 269 [.loc 0 0] 1 1 (BF s i)
  (λb r d=>b=1/\r=.M2 []/\∃ j:Nat,i<=j/\j<=s.size/\cy s false i=cy s false j/\(∀ h:j<s.size,¬ (s[j].toNat:Int)=37/\¬ (s[j].toNat:Int)=32/\¬ (s[j].toNat:Int)=9/\¬ (s[j].toNat:Int)=10)/\d=BF s j):=by
 refine dZ func269 ?_;intro O o p q;refine zS ?_;refine ae (ι:=Nat) (λj=>⟨1,[(0,.loc 0 0)],BF s j⟩) (λj=>i<=j/\j<=s.size/\cy s false i=cy s false j) (λj=>s.size-j) i ⟨Af _,hi,rfl⟩
  (er id) ?_
 rintro j ⟨h1,h2,h3⟩;repeat' (first|refine zr ?_|(refine zm ?_ ?_<;>intro f)|fail)
 all_goals first
  | omega
  | (refine⟨j+1,⟨by omega,by omega,h3.trans<|Mz s false j (by omega) rfl (by omega)<|by omega⟩,er id,by omega⟩)
  | (refine⟨.inl rfl,_,rfl,rfl,rfl,j,h1,h2,h3,?_,rfl⟩
     intro l;refine⟨?_,?_,?_,?_⟩<;>omega)
  | (refine⟨.inr rfl,_,rfl,rfl,rfl,j,h1,h2,h3,?_,rfl⟩
     intro l;refine⟨?_,?_,?_,?_⟩<;>omega)
  | skip
 all_goals
  refine ae (ι:=Nat) (λm=>⟨1,[(0,.loc 0 0)],BF s m⟩) (λm=>j<=m/\m<=s.size/\cy s false i=cy s true m) (λm=>s.size-m) j
   ⟨Af _,h2,h3.trans<|MV s j (by omega)<|by omega⟩ (er id) ?_
  rintro m ⟨g1,g2,g3⟩;repeat' (first|refine zs ?_|(refine zm ?_ ?_<;>intro f)|fail)
  all_goals first
   | (refine⟨m+1,⟨by omega,by omega,g3.trans<|LV s m (by omega)<|by omega⟩,er id,by omega⟩)
   | (have u:m≠j:=by
       intro e;subst e;omega
      refine⟨m,⟨by omega,g2,g3.trans<|ZR s m<|by intro h;omega⟩,er id,by omega⟩)
def iR (s:ByteArray) (i:Nat) (hi:i<=s.size) (A:s.size<=5000) (f:FuncId) (p:UInt8->Bool) (q:∀ c:UInt8,Fn f [.d (.int .u8 (c.toNat:Int))] (λr=>r=.b (p c))) :
  WY 277 [.loc 0 0,.fn f []] 1 1 (BF s i)
   (λu r v=>u=1/\r=.t (s.extract i (i+dv p (s.data.toList.drop i)))/\v=BF s (i+dv p (s.data.toList.drop i))):=by
 refine dZ func277 ?_;intro O B C E;refine zS ?_;have F:s.data.toList.length=s.size:=by simp
 refine ae (ι:=Nat) (λj=>⟨1,[(0,.loc 0 0),(1,.fn f []),(5,.i i)],BF s j⟩) (λj=>i<=j/\j<=s.size/\i+dv p (s.data.toList.drop i)=j+dv p (s.data.toList.drop j)) (λj=>s.size-j) i ⟨Af _,hi,rfl⟩
  (er id) ?_
 rintro j ⟨h1,h2,h3⟩;have x:=λh l=>xg p s.data.toList j h l
 have y:=λh l=>Re p s.data.toList j h l
 have z:=Mk p s.data.toList j;repeat' (first|refine zr ?_|(refine zm ?_ ?_<;>intro o)|fail)
 all_goals first
  | (refine kb rfl rfl rfl rfl (q _) rfl rfl rfl rfl ⟨_,rfl⟩ ?_;rintro _ rfl)
  | (exact absurd o<|by decide)
  | skip
 repeat' (first|refine zr ?_|(refine zm ?_ ?_<;>intro o)|fail)
 all_goals first
  | (have n:i+dv p (s.data.toList.drop i)=j:=by have:=z (by omega);omega
     rw [n];exact⟨.inl rfl,_,rfl,rfl,rfl,rfl⟩)
  | (have l:=x (by omega) (by rw [qt _ _<|by omega];first|assumption|simp_all)
     refine⟨j+1,⟨by omega,by omega,by omega⟩,er id,by omega⟩)
  | (have l:=y (by omega) (by rw [qt _ _<|by omega];first|assumption|simp_all)
     have n:i+dv p (s.data.toList.drop i)=j:=by omega
     rw [n];exact⟨.inl rfl,_,rfl,rfl,rfl,rfl⟩)
def oZ:D:=.slice 1 [[.str ⟨#[58,45]⟩],[.str ⟨#[60,61]⟩],[.str ⟨#[33,61]⟩]]
def KR:Fn 281 [] (λr=>r=.d oZ):=by refine J2 func281 ?_;intro O b f h;refine zR ?_;exact⟨.inl rfl,_,rfl,rfl,rfl⟩
def ie (s t:ByteArray):Bool:=decide (t.size<=s.size)&&decide (s.extract 0 t.size=t)
def sA (s t:ByteArray):Fn 289 [.t s,.t t] (λr=>r=.b (ie s t)):=by
 refine J2 func289 ?_;intro O d f j;repeat' (first|refine zr ?_|(refine zm ?_ ?_<;>intro l)|fail)
 all_goals exact bi rfl (by
  unfold ie;first
   | (have h:t.size<=s.size:=by omega
      simp [h];done)
   | (have h:¬ t.size<=s.size:=by omega
      simp [h];done))
def ND (s t:ByteArray):Fn 283 [.t s,.t t] (λr=>r=.b (ie s t)):=by
 refine J2 func283 ?_;intro O d f h;repeat' (first|refine zr ?_|refine z31 ?_ (hc:=by apply sA)|fail)
 all_goals exact bi rfl rfl
abbrev VI (s:ByteArray) (i:Nat):Hp:=[(0,.M1 303 [.t s,.i i]),(1,.M1 301 [.loc 0 0])]
def gQ (s:ByteArray) (i:Nat) (hi:i<=s.size) (t:ByteArray) :
  WY 282 [.t t,.loc 1 0] 2 2 (VI s i) (λd r f=>d=2/\r=.b (ie (s.extract i s.size) t)/\f=VI s i):=by
 refine dZ func282 ?_;intro O h j l;repeat' (first|refine zr ?_|refine z32 ?_ (hc:=by apply ND)|fail)
 exact⟨.inl rfl,_,rfl,rfl,rfl,rfl⟩
def Q7:List ByteArray:=[⟨#[58,45]⟩,⟨#[60,61]⟩,⟨#[33,61]⟩]
def rm (r:ByteArray):Int:=if ie r ⟨#[58,45]⟩ then 0 else if ie r ⟨#[60,61]⟩ then 1 else if ie r ⟨#[33,61]⟩ then 2 else -1
def vJ (r:ByteArray) (j:Nat) (d:j<Q7.length) (b:∀ m (_:m<j) (l:m<Q7.length),ie r Q7[m]=false) (h:ie r Q7[j]=true):rm r=j:=by
 have f:j<3:=d;unfold rm;match j,f with
 | 0,_=>rw [if_pos<|show ie r ⟨#[58,45]⟩=true from h];rfl
 | 1,_=>rw [if_neg (by rw [show ie r ⟨#[58,45]⟩=false from b 0 (by omega) (by decide)];decide),if_pos<|show ie r ⟨#[60,61]⟩=true from h];rfl
 | 2,_=>rw [if_neg (by rw [show ie r ⟨#[58,45]⟩=false from b 0 (by omega) (by decide)];decide),if_neg (by rw [show ie r ⟨#[60,61]⟩=false from b 1 (by omega) (by decide)];decide),if_pos<|show ie r ⟨#[33,61]⟩=true from h];rfl
def gG (r:ByteArray) (b:∀ m (_:m<3) (d:m<Q7.length),ie r Q7[m]=false):rm r = -1:=by unfold rm;rw [if_neg (by rw [show ie r ⟨#[58,45]⟩=false from b 0 (by omega) (by decide)];decide),if_neg (by rw [show ie r ⟨#[60,61]⟩=false from b 1 (by omega) (by decide)];decide),if_neg<|by rw [show ie r ⟨#[33,61]⟩=false from b 2 (by omega) (by decide)];decide]
def GD (s:ByteArray) (i:Nat) (hi:i<=s.size) :
  WY 288 [.s 1 (Q7.map λt=>[.str t]),.fn 282 [.loc 1 0]] 2 2 (VI s i) (λ_ r f=>r=.i (rm (s.extract i s.size))/\f=VI s i):=by
 refine dZ func288 ?_;intro O o p q;refine zS ?_;refine ae (ι:=Nat) (λj=>⟨2,[(0,.s 1<|Q7.map λt=>[.str t]),(1,.fn 282 [.loc 1 0]),(7,.i 3),(8,.i j)],VI s i⟩)
  (λj=>j<=3/\∀ m (b:m<j) (d:m<Q7.length),ie (s.extract i s.size) Q7[m]=false) (λj=>3-j) 0 ⟨by omega,λm b=>absurd b<|by omega⟩
  (er id) ?_
 rintro j ⟨h1,h2⟩;refine zS ?_;have u:Q7.length=3:=rfl;refine a6 rfl (λl=>?_)<|λl=>?_
 ·refine zS ?_;have n:j<Q7.length:=by omega
  refine eC id (gQ s i hi Q7[j]) rfl rfl rfl rfl rfl rfl ⟨rfl,rfl,trivial⟩ rfl rfl rfl rfl rfl rfl ?_ ?_
  ·rintro k2 r f ⟨rfl,rfl,rfl⟩;exact⟨rfl,rfl⟩
  rintro k2 r f ⟨rfl,rfl,rfl⟩;refine zS ?_;refine ee rfl (λh=>?_)<|λh=>?_
  ·refine zR ?_;refine⟨.inl rfl,_,rfl,?_⟩
   rw [vJ _ j n h2 h];exact⟨rfl,rfl⟩
  ·refine zS ?_;refine⟨j+1,⟨by omega,λm b d=>?_⟩,er id,by omega⟩
   by_cases e:m=j
   ·subst e;exact h
   ·exact h2 m (by omega) d
 ·refine zR ?_;refine⟨.inl rfl,_,rfl,?_,rfl⟩
  rw [gG _<|λm b d=>h2 m (by omega) d];rfl
def Sq (s:ByteArray) (i:Nat) (hi:i<=s.size) :
  WY 280 [.s 1 (Q7.map λt=>[.str t]),.fn 282 [.loc 1 0]] 2 2 (VI s i) (λ_ r d=>r=.b (decide (rm (s.extract i s.size) ≥ 0))/\d=VI s i):=by
 refine dZ func280 ?_;intro O f h j;refine zS ?_;refine tj id (GD s i hi) rfl rfl rfl rfl ⟨rfl,rfl,trivial⟩ rfl rfl rfl rfl rfl rfl ?_ ?_
 ·rintro k2 r d ⟨rfl,rfl⟩;exact⟨rfl,rfl⟩
 rintro k2 r d ⟨rfl,rfl⟩;refine zR ?_;exact⟨.inl rfl,_,rfl,rfl,rfl⟩
def qA (s:ByteArray) (c:UInt8):Fn 290 [.t s,.d (.int .u8 (c.toNat:Int))] (λr=>r=.i (firstIdx s ((c.toNat:Int).toNat.toUInt8))):=by refine J2 func290 ?_;intro O b f h;refine zS ?_;refine iv (iE func292 rfl rfl rfl rfl rfl rfl rfl) rfl rfl ?_;refine zR ?_;exact bh rfl rfl
def ID (s:ByteArray) (c:UInt8):Fn 284 [.t s,.d (.int .u8 (c.toNat:Int))] (λr=>r=.i (firstIdx s ((c.toNat:Int).toNat.toUInt8))):=by
 refine J2 func284 ?_;intro O b f h;repeat' (first|refine zr ?_|refine z31 ?_ (hc:=by apply qA)|fail)
 exact bh rfl rfl
section
variable (s : ByteArray) (i : Nat) (hi : i<s.size)
include hi
def drop_cons:s.data.toList.drop i=s[i]::s.data.toList.drop (i+1):=by
 have b:s.data.toList.length=s.size:=by simp
 rw [List.drop_eq_getElem_cons (by omega),qt]
def SA (p:UInt8->Bool) (h:p s[i]=true):dv p (s.data.toList.drop i)=1+dv p (s.data.toList.drop (i+1)):=by
 have:=xg p s.data.toList i (by simpa using hi)<|by rw [qt _ _ hi];exact h
 omega
def Us (h:gl s[i]=true):ct (s.data.toList.drop i)=(if i4 s[i] then 1 else 2,dv ew (s.data.toList.drop i)):=by rw [SA s i hi ew (by unfold ew;rw [h];rfl),drop_cons s i hi,gq,if_pos h]
def ZM (h:gl s[i]=false) (b:dc s[i]=true):ct (s.data.toList.drop i)=(3,dv dc (s.data.toList.drop i)):=by rw [SA s i hi dc b,drop_cons s i hi,gq,if_neg (by rw [h];exact C7),if_pos b]
def GQ (h:gl s[i]=false) (b:dc s[i]=false):ct (s.data.toList.drop i)=if og (s[i]::s.data.toList.drop (i+1)) then (4,2) else if K6.contains s[i] then (4,1) else (0,0):=by rw [drop_cons s i hi,gq,if_neg (by rw [h];exact C7),if_neg<|by rw [b];exact C7]
omit hi in
def vW (k:Nat) (h:i+k<=s.size):(s.extract i s.size).extract 0 k=s.extract i (i+k):=by rw [ByteArray.extract_extract];congr 1;omega
def KL:decide (rm (s.extract i s.size) ≥ 0)=og (s[i]::s.data.toList.drop (i+1)):=by
 have h:(s.extract i s.size).size=s.size-i:=by rw [ByteArray.size_extract];omega
 by_cases j:i+1<s.size
 ·rw [fG s i j];have d:∀ t:ByteArray,t.size=2->ie (s.extract i s.size) t=decide (s.extract i (i+2)=t):=by
   intro t f;unfold ie;rw [f,h,vW s i 2 (by omega),decide_eq_true (by omega),Bool.true_and]
  unfold rm;rw [d _ rfl,d _ rfl,d _ rfl];by_cases a:s.extract i (i+2)=⟨#[58,45]⟩
  ·simp [a]
  ·by_cases b:s.extract i (i+2)=⟨#[60,61]⟩
   ·simp [b]
   ·by_cases c:s.extract i (i+2)=⟨#[33,61]⟩
    ·simp [c]
    ·simp [a,b,c]
 ·have d:∀ t:ByteArray,t.size=2->ie (s.extract i s.size) t=false:=by
   intro t f;unfold ie;rw [f,h,decide_eq_false (by omega),Bool.false_and]
  have l:s.data.toList.drop (i+1)=[]:=Gn (by simp;omega);unfold rm;rw [d _ rfl,d _ rfl,d _ rfl,l];simp [og]
def TN (h:rm (s.extract i s.size) ≥ 0):i+2<=s.size:=by
 have b:=KL s i hi;rw [decide_eq_true h] at b;rcases Nat.lt_or_ge (i+1) s.size with d|d
 ·omega
 ·have f:s.data.toList.drop (i+1)=[]:=Gn (by simp;omega);rw [f] at b;simp [og] at b
end
def DO (c:UInt8):decide ((0:Int)<=firstIdx ⟨#[40,41,44,46,60,61,43,45,42]⟩ c)=K6.contains c:=by
 have b:∀ n:Fin 256,decide ((0:Int)<=firstIdx ⟨#[40,41,44,46,60,61,43,45,42]⟩ (UInt8.ofNat n.1))=K6.contains (UInt8.ofNat n.1):=by decide +kernel
 have:=b ⟨c.toNat,c.toNat_lt⟩
 simpa using this
def mN (c:UInt8) (h:K6.contains c=true):(c.toNat:Int)<128:=by
 have b:∀ n:Fin 256,K6.contains (UInt8.ofNat n.1)=true->(n.1:Int)<128:=by decide +kernel
 exact b ⟨c.toNat,c.toNat_lt⟩<|by simpa using h
def D' {A C G:Prop} (c:A->C) (a:A) (k:C->G):G:=k<|c a
def FX {A B C G:Prop} (c:A->B->C) (a:A) (b:B) (k:C->G):G:=k<|c a b
def C' {A B E C G:Prop} (c:A->B->E->C) (a:A) (b:B) (e:E) (k:C->G):G:=k<|c a b e
def BZ (kd:Int) (n:Nat) (c:UInt8) (h:kd=1∨kd=2):fj kd n c=if 12<n then 2 else 0:=by unfold fj;rcases h with rfl|rfl<;>simp
def errD (n:Nat) (c:UInt8):fj 3 n c=if 7<n then 2 else if 1<n/\(c.toNat:Int)=48 then 1 else 0:=by
 rw [AI];simp only [if_false,true_and,Int.reduceEq,or_self,false_and,false_or];by_cases b:7<n
 ·rw [if_pos b,if_pos<|by omega]
 ·rw [if_neg b,if_neg<|by omega];by_cases d:1<n/\(c.toNat:Int)=48
  ·rw [if_pos d,if_pos<|by omega]
  ·rw [if_neg d,if_neg<|by omega]
def AZ (n:Nat) (c:UInt8):fj 4 n c=0:=by unfold fj;simp
def tF {c:UInt8} (h:i4 c=true):k5 c=false:=by unfold i4 at h;unfold k5;simp at h ⊢;omega
def HX (s:ByteArray) (i:Nat) (hi:i<s.size) (r:SV) (f:Hp):Prop:=
 ∃ (b e:Int) (d:ByteArray) (j:Nat),r=.M2 [.agg [.i b,.i i,.t d],.i e]/\f=BF s j/\e=fj (ct<|s.data.toList.drop i).1 (ct<|s.data.toList.drop i).2 s[i] /\
  (e=0->b=(ct<|s.data.toList.drop i).1/\d=s.extract i (i+(ct<|s.data.toList.drop i).2)/\j=i+(ct<|s.data.toList.drop i).2)
def CQ (s:ByteArray) (i:Nat) (hi:i<s.size) (q:s.size<=5000) :
  WY 270 [.loc 0 0] 1 1 (BF s i) (λ_ r d=>HX s i hi r d):=by
 refine pT func270 ?_;intro O M N P;refine zS ?_;(refine aw id (ZU s i) rfl rfl rfl rfl ⟨rfl,trivial⟩ rfl rfl rfl rfl rfl rfl ?_ ?_)
 ·rintro k2 r d ⟨rfl,rfl,rfl⟩;exact⟨rfl,rfl⟩
 rintro k2 r d ⟨rfl,rfl,rfl⟩;rw [dif_pos hi];change DS _ _ _ _ _ _ _ _;have u:s.data.toList.length=s.size:=by simp
 have x:=zq ew<|s.data.toList.drop i;have y:=zq dc<|s.data.toList.drop i;rw [A9,u] at x y;have R:(s.extract i<|i+dv ew (s.data.toList.drop i)).size=dv ew (s.data.toList.drop i):=by rw [ByteArray.size_extract];omega
 have S:(s.extract i<|i+dv dc (s.data.toList.drop i)).size=dv dc (s.data.toList.drop i):=by rw [ByteArray.size_extract];omega
 have z:i4 s[i]=true->(ct<|s.data.toList.drop i).1=1/\(ct<|s.data.toList.drop i).2=dv ew (s.data.toList.drop i):=by
  intro h;rw [Us s i hi (by unfold gl;simp [h]),if_pos h];exact⟨rfl,rfl⟩
 have A:i4 s[i]=false->k5 s[i]=true->(ct<|s.data.toList.drop i).1=2/\(ct<|s.data.toList.drop i).2=dv ew (s.data.toList.drop i):=by
  intro h b;rw [Us s i hi (by unfold gl;simp [b]),if_neg<|by rw [h];exact C7];exact⟨rfl,rfl⟩
 have B:i4 s[i]=false->k5 s[i]=false->dc s[i]=true->(ct<|s.data.toList.drop i).1=3/\(ct<|s.data.toList.drop i).2=dv dc (s.data.toList.drop i):=by
  intro h b p;rw [ZM s i hi (by unfold gl;simp [h,b]) p];exact⟨rfl,rfl⟩
 have C:i4 s[i]=false->k5 s[i]=false->dc s[i]=false->ct (s.data.toList.drop i)=if rm (s.extract i s.size) ≥ 0 then (4,2) else if K6.contains s[i] then (4,1) else (0,0):=by
  intro h b p;rw [GQ s i hi (by unfold gl;simp [h,b]) p,<- KL s i hi];by_cases f:rm (s.extract i s.size) ≥ 0
  ·rw [if_pos f,if_pos<|by simpa using f]
  ·rw [if_neg f,if_neg<|by simpa using f]
 have E:i4 s[i]=true->k5 s[i]=true->False:=λh b=>by rw [tF h] at b;cases b
 have F:k5 s[i]=true->k5 s[i]=false->False:=λh b=>by rw [h] at b;cases b
 have G:=TN s i hi;clear u;repeat' (first|refine zs ?_|refine z31 ?_ (hc:=by apply uF)|refine z31 ?_ (hc:=by apply gH)|refine z31 ?_ (hc:=by apply Qy)|(refine zm ?_ ?_<;>intro I)|fail)
 all_goals first
  | ((refine aw id (iR s i (by omega) q _ ew qU) rfl rfl rfl rfl ⟨rfl,trivial⟩ rfl rfl rfl rfl rfl rfl ?_ ?_)
     ·rintro k2 r d ⟨rfl,rfl,rfl⟩;exact⟨rfl,rfl⟩
     rintro k2 r d ⟨rfl,rfl,rfl⟩;change DS _ _ _ _ _ _ _ _)
  | ((refine aw id (iR s i (by omega) q _ dc Qy) rfl rfl rfl rfl ⟨rfl,trivial⟩ rfl rfl rfl rfl rfl rfl ?_ ?_)
     ·rintro k2 r d ⟨rfl,rfl,rfl⟩;exact⟨rfl,rfl⟩
     rintro k2 r d ⟨rfl,rfl,rfl⟩;change DS _ _ _ _ _ _ _ _)
  | skip
 repeat' (first|refine zr ?_|refine z21 ?_ KR|(refine zm ?_ ?_<;>intro I)|fail)
 all_goals first
  | (refine FX E ?_ ?_ False.elim;assumption;assumption)
  | (refine FX F ?_ ?_ False.elim;assumption;assumption)
  | (refine D' z ?_ ?_;assumption;rintro⟨t1,t2⟩
     refine⟨.inl rfl,_,rfl,1,BF s _,⟨rfl,trivial⟩,rfl,rfl,rfl,rfl,_,_,_,_,rfl,rfl,?_,?_⟩
     ·rw [t1,t2,BZ _ _ _<|.inl rfl];first|rw [if_pos<|by omega]|rw [if_neg<|by omega]
     ·intro j;first|exact absurd j (by decide)|(rw [t1,t2];exact⟨rfl,rfl,rfl⟩))
  | (refine FX A ?_ ?_ ?_;assumption;assumption;rintro⟨t1,t2⟩
     refine⟨.inl rfl,_,rfl,1,BF s _,⟨rfl,trivial⟩,rfl,rfl,rfl,rfl,_,_,_,_,rfl,rfl,?_,?_⟩
     ·rw [t1,t2,BZ _ _ _<|.inr rfl];first|rw [if_pos<|by omega]|rw [if_neg<|by omega]
     ·intro j;first|exact absurd j (by decide)|(rw [t1,t2];exact⟨rfl,rfl,rfl⟩))
  | (refine C' B ?_ ?_ ?_ ?_;assumption;assumption;assumption;rintro⟨t1,t2⟩
     refine⟨.inl rfl,_,rfl,1,BF s _,⟨rfl,trivial⟩,rfl,rfl,rfl,rfl,_,_,_,_,rfl,rfl,?_,?_⟩
     ·rw [t1,t2,errD];first|rw [if_pos<|by omega]|rw [if_neg (by omega),if_pos<|by omega]|rw [if_neg (by omega),if_neg<|by omega]
     ·intro j;first|exact absurd j (by decide)|(rw [t1,t2];exact⟨rfl,rfl,rfl⟩))
  | skip
 have l:=C ‹_› ‹_› ‹_›;(refine aw id (Sq s i<|by omega) rfl rfl rfl rfl ⟨rfl,rfl,trivial⟩ rfl rfl rfl rfl rfl rfl ?_ ?_)
 ·rintro k2 r d ⟨rfl,rfl⟩;exact⟨rfl,rfl⟩
 rintro k2 r d ⟨rfl,rfl⟩;change DS _ _ _ _ _ _ _ _;refine zS ?_;refine a6 rfl (λf=>?_)<|λf=>?_
 ·have T:=G f;rw [if_pos f] at l;refine zR ?_;refine⟨.inl rfl,_,rfl,1,BF s _,⟨rfl,trivial⟩,rfl,rfl,rfl,rfl,_,_,_,_,rfl,rfl,?_,?_⟩
  ·rw [l,AZ]
  ·intro j;rw [l];exact⟨rfl,rfl,rfl⟩
 ·rw [if_neg f] at l;repeat' (first|refine zs ?_|refine z31 ?_ (hc:=by apply ID)|fail)
  have n:=DO s[i];have v:((s[i].toNat:Int).toNat.toUInt8)=s[i]:=by simp
  refine a6 rfl (λo=>?_)<|λo=>?_
  ·rw [v] at o;rw [decide_eq_true<|by exact o] at n;have U:=mN s[i] n.symm;have W:(0:Int)<=(s[i].toNat:Int):=by omega
   rw [if_pos n.symm] at l;have J:(⟨#[s[i]]⟩:ByteArray)=s.extract i (i+1):=by
    apply ByteArray.ext;simp only [ByteArray.data_extract];apply Array.toList_inj.1;rw [Array.toList_extract,List.extract_eq_take_drop,show i+1-i=1 by omega,drop_cons s i hi];rfl
   refine zR ?_;refine⟨.inl rfl,_,rfl,1,BF s _,⟨rfl,trivial⟩,rfl,rfl,rfl,rfl,_,_,_,_,rfl,rfl,?_,?_⟩
   ·rw [l,AZ]
   ·intro j;rw [l];exact⟨rfl,J,rfl⟩
  ·rw [v] at o;rw [decide_eq_false<|by exact o] at n;rw [if_neg<|by rw [<- n];exact C7] at l;refine zR ?_;refine⟨.inl rfl,_,rfl,1,BF s _,⟨rfl,trivial⟩,rfl,rfl,rfl,rfl,_,_,_,_,rfl,rfl,?_,?_⟩
   ·rw [l];unfold fj;simp
   ·intro j;exact absurd j<|by decide
def lV (s:ByteArray) (x:List Zz×Nat):Prop:=
 x.2<=s.size/\x.1.length<=x.2/\cy s false 0=(cy s false x.2).map (x.1++·) /\
 ∀ h:x.2<s.size,¬ (s[x.2].toNat:Int)=37/\¬ (s[x.2].toNat:Int)=32/\¬ (s[x.2].toNat:Int)=9/\¬ (s[x.2].toNat:Int)=10
def kV (s:ByteArray):Fn 265 [.t s] (λr=>r=yM (za s)):=by
 refine J2 func265 ?_;intro O J M N;refine zS ?_;refine a6 rfl (λz=>?_)<|λz=>?_
 ·refine zS ?_;refine Sr 2 3 rfl ?_;refine zR ?_;exact uR rfl<|by rw [yN s<|by omega];exact⟨rfl,rfl,rfl⟩
 ·refine zS ?_;(refine aw id (oL s 0 (by omega)<|by omega) rfl rfl rfl rfl ⟨rfl,trivial⟩ rfl rfl rfl rfl rfl rfl ?_ ?_)
  ·rintro k2 r H2 ⟨rfl,rfl,j,_,_,_,_,rfl⟩;exact⟨rfl,rfl⟩
  rintro k2 r H2 ⟨rfl,rfl,j0,g1,g2,g3,g4,rfl⟩;change DS _ _ _ _ _ _ _ _;refine zS ?_;refine zP (t:=6) 296 3 rfl ?_;refine ae (ι:=List Zz×Nat) (λx=>⟨2,[(0,.t s),(5,.loc 0 0),(6,.row 1)],[(0,.M1 303 [.t s,.i x.2]),(1,.row 296 3<|x.1.map AT)]⟩)
   (lV s) (λx=>s.size-x.2) ([],j0) ⟨g2,Ai _,by rw [g3];cases cy s false j0<;>rfl,g4⟩
   (er id) ?_
  rintro⟨f,i⟩ ⟨A,B,b,v⟩;dsimp only at A B b v ⊢;refine zS ?_;refine a6 rfl (λC=>?_)<|λC=>?_
  ·have h:i<s.size:=by omega
   have d:=v h;refine zS ?_;(refine aw id (CQ s i h<|by omega) rfl rfl rfl rfl ⟨rfl,trivial⟩ rfl rfl rfl rfl rfl rfl ?_ ?_)
   ·rintro k2 r H2 ⟨kd,e,tx,j,rfl,rfl,_,_⟩;exact⟨rfl,rfl⟩
   rintro k2 r H2 ⟨kd,e,tx,j,rfl,rfl,he,hz⟩;change DS _ _ _ _ _ _ _ _;have l:=FQ s false i h rfl d.1 d.2.1 d.2.2.1 d.2.2.2 _ rfl;have o:=bF<|s.data.toList.drop i;have p:=Jk<|s.data.toList.drop i;rw [A9,show s.data.toList.length=s.size by simp] at o;generalize ct (s.data.toList.drop i)=q at l o p he hz;obtain⟨P,n⟩:=q;dsimp only at l o p he hz;rw [l] at b;refine zS ?_;refine a6 rfl (λu=>?_)<|λu=>?_
   ·refine zS ?_;refine Sr 2 3 rfl ?_;refine zR ?_;refine uR rfl ?_;have:=xN s (by omega) i e (by rw [b,if_neg (by rw [<- he];exact u),<- he];rfl)
    rw [this];exact⟨rfl,rfl,rfl⟩
   ·have y:e=0:=Decidable.not_not.1 u;obtain⟨E,F,G⟩:=hz y;rw [if_pos<|by rw [<- he];exact y] at b;have R:=p (by intro I;rw [I] at he;unfold fj at he;simp at he;omega);subst E;subst F;subst G;refine zS ?_;(refine aw id (oL s (i+n) (by omega)<|by omega) rfl rfl rfl rfl ⟨rfl,trivial⟩ rfl rfl rfl rfl rfl rfl ?_ ?_)
    ·rintro k2 r H2 ⟨rfl,rfl,j,_,_,_,_,rfl⟩;exact⟨rfl,rfl⟩
    rintro k2 r H2 ⟨rfl,rfl,j,q1,q2,q3,q4,rfl⟩;change DS _ _ _ _ _ _ _ _;refine zS ?_;refine⟨(f++[⟨kd,i,s.extract i<|i+n⟩],j),⟨?_,?_,?_,q4⟩,?_,?_⟩
    ·exact q2
    ·show (f++[_]).length<=j;rw [Ag];show _+1<=_;omega
    ·show cy s false 0=_;rw [b,map_map,q3];simp only [Bm,List.singleton_append]
    ·dsimp only;rw [List.map_append];exact er<|λi=>match i with|0=>0|_=>3
    ·show s.size-j<s.size-i;omega
  ·refine zS ?_;refine zW 2 rfl rfl ?_;repeat' (apply cr)
   refine uR rfl ?_;rw [xF s (by omega) f<|by rw [b,xk s false i<|by omega];exact congrArg Except.ok<|Bn _];exact⟨rfl,rfl,rfl⟩
def yJ (b:Int) (s:ByteArray):Bool:=match za s with
 | ([t],_,e)=>decide (e=0)&&(decide (t.R0=b)&&decide (t.text=s))
 | _=>false
def VX (f:Int) (s:ByteArray):Fn 257 [.i f,.t s] (λr=>r=.b (yJ f s)):=by
 refine J2 func257 ?_;intro O n o u;have d:=kV s;unfold yJ;generalize za s=q at d ⊢;obtain⟨l,p,e⟩:=q;unfold yM xM at d;dsimp only at d;rcases l with _|⟨t,_|⟨v,l⟩⟩
 ·repeat' (first|refine zr ?_|refine z21 ?_ d|(refine zm ?_ ?_<;>intro j)|fail)
  all_goals exact bi rfl<|by simp
 ·repeat' (first|refine zr ?_|refine z21 ?_ d|(refine zm ?_ ?_<;>intro j)|fail)
  all_goals exact bi rfl<|by simp_all
 ·repeat' (first|refine zr ?_|refine z21 ?_ d|(refine zm ?_ ?_<;>intro j)|fail)
  all_goals first
   | exact bi rfl<|by simp_all
   | (rename_i h;exfalso;revert h;simp;done)
   | (exfalso;simp at *;done)
   | (exfalso;simp at *;omega)
def JU (x y:ByteArray):Bool:=decide (y=x)
def fZ (x y:Bool):Bool:=y==x
abbrev elS (s:ByteArray):SV:=.t s
abbrev elB (b:Bool):SV:=.b b
def AO (y:ByteArray) (l:List (ByteArray)):Fn 236 [.s 1 (l.map qn),elS y] (λr=>r=.i (mv (λx=>JU x y) l)):=by
 refine J2 func236 ?_;intro O f n o;refine cm (t:=0) rfl λb=>?_
 refine zS ?_;refine ae (ι:=Nat) (λi=>⟨0,[(0,.s 1<|l.map qn),(1,.t y),(7,.i l.length),(8,.i i)],[]⟩)
  (λi=>i<=l.length/\∀ j (d:j<l.length),j<i->JU l[j] y=false) (λi=>l.length-i) 0 ⟨Ai _,λj _ h=>absurd h<|A2 j⟩
  (er id ⟨rfl,rfl,by simp;rfl,rfl,trivial⟩) ?_
 rintro i ⟨h1,h2⟩;refine zS ?_;refine a6 rfl (λh=>?_)<|λh=>?_
 ·have hi:i<l.length:=by omega
  refine zS ?_;refine ee rfl (λb=>?_)<|λb=>?_
  ·refine zR ?_;exact bh rfl (kr (p:=λx=>JU x y) h2 hi<|id b).symm
  ·refine zS ?_;exact⟨i+1,⟨hi,ja (p:=λx=>JU x y) h2 hi<|id b⟩,er id,by omega⟩
 ·refine zR ?_;exact bh rfl (j7 λj d=>h2 j d<|by omega).symm
def BO (y:Bool) (l:List (Bool)):Fn 238 [.s 1 (l.map cu),elB y] (λr=>r=.i (mv (λx=>fZ x y) l)):=by
 refine J2 func238 ?_;intro O n o q;refine cm (t:=0) rfl λd=>?_
 refine zS ?_;refine ae (ι:=Nat) (λi=>⟨0,[(0,.s 1<|l.map cu),(1,.b y),(7,.i l.length),(8,.i i)],[]⟩)
  (λi=>i<=l.length/\∀ j (f:j<l.length),j<i->fZ l[j] y=false) (λi=>l.length-i) 0 ⟨Ai _,λj _ h=>absurd h<|A2 j⟩
  (er id ⟨rfl,rfl,by simp;rfl,rfl,trivial⟩) ?_
 rintro i ⟨h1,h2⟩;refine zS ?_;refine a6 rfl (λh=>?_)<|λh=>?_
 ·have hi:i<l.length:=by omega
  refine zS ?_;refine ee rfl (λd=>?_)<|λd=>?_
  ·refine zR ?_;exact bh rfl (kr (p:=λx=>fZ x y) h2 hi<|id d).symm
  ·refine zS ?_;exact⟨i+1,⟨hi,ja (p:=λx=>fZ x y) h2 hi<|id d⟩,er id,by omega⟩
 ·refine zR ?_;exact bh rfl (j7 λj f=>h2 j f<|by omega).symm
def Jj (y:ByteArray) (l:List ByteArray):Fn 205 [.s 1 (l.map qn),.t y] (λr=>r=.b (l.any λx=>JU x y)):=by
 refine J2 func205 ?_;intro O f h j;have d:=AO y l;repeat' (first|refine zr ?_|refine z21 ?_ d|fail)
 exact bi rfl<|ra _ l
def vE (y:Bool) (l:List Bool):Fn 208 [.s 1 (l.map cu),.b y] (λr=>r=.b (l.any λx=>fZ x y)):=by
 refine J2 func208 ?_;intro O f h j;have d:=BO y l;repeat' (first|refine zr ?_|refine z21 ?_ d|fail)
 exact bi rfl<|ra _ l
def HC:List ByteArray:=[⟨#[110,111,116]⟩,⟨#[99,111,117,110,116]⟩,⟨#[115,117,109]⟩,⟨#[108,101,97,115,116]⟩,⟨#[109,111,115,116]⟩]
def SE (s:ByteArray):Bool:=HC.any λx=>JU x s
def T9 (s:ByteArray):Bool:=yJ 1 s && !SE s
def yQ:Fn 235 [] (λr=>r=.s 1 (HC.map qn)):=by refine J2 func235 ?_;intro O b d f;refine zR ?_;exact⟨.inl rfl,_,rfl,rfl,rfl⟩
def PC (s:ByteArray):Fn 234 [.t s] (λr=>r=.b (yJ 1 s)):=by
 refine J2 func234 ?_;intro O d f h;repeat' (first|refine zr ?_|refine z31 ?_ (hc:=by apply VX)|fail)
 exact bi rfl rfl
def On (s:ByteArray):Fn 204 [.t s] (λr=>r=.b (T9 s)):=by
 refine J2 func204 ?_;intro O h j l;have d:=Jj s HC;have f:=PC s;unfold T9 SE;repeat' (first|refine zr ?_|refine z21 ?_ d|refine z21 ?_ f|refine z21 ?_ yQ|(refine zm ?_ ?_<;>intro n)|fail)
 all_goals exact bi rfl<|by simp_all
def JR (p:R3) (l:p.Z0.length=p.F0.length):Fn 170 [gy p] (λr=>r=.i (k7 (s0 T9 p) 0 p.Z0.length)):=by
 refine J2 func170 ?_;intro O n o q;have u:(p.F0.map aq).length=p.F0.length:=Aa _;have v:(p.Z0.map qn).length=p.Z0.length:=Aa _;refine ig 0 1 rfl rfl<|λy=>?_;refine zS ?_;refine ae (ι:=Nat) (λi=>⟨1,[(1,.loc 0 0),(2,.i 0),(6,.s 1<|p.Z0.map qn),(7,.i (p.Z0.map qn).length),(8,.i i)],[(0,.M1 26 [.s 1 (p.F0.map aq),.s 1 (p.Z0.map qn),.s 5<|p.M0.map dq])]⟩)
  (λi=>i<=p.Z0.length/\k7 (s0 T9 p) 0 p.Z0.length=k7 (s0 T9 p) i (p.Z0.length-i)) (λi=>p.Z0.length-i) 0 ⟨Ai _,rfl⟩ (er id) ?_
 rintro i ⟨g1,g2⟩;by_cases hi:i<p.Z0.length
 ·have f:p.F0.getD i 0=p.F0[i]'(by omega):=by rw [A4,Ad<|by omega];rfl
  have h:p.Z0.getD i ⟨#[]⟩=p.Z0[i]:=by rw [A4,Ad hi];rfl
  rw [Mp hi,show s0 T9 p i=if L5 (p.F0.getD i 0) 0 3=false then 3 else if T9 (p.Z0.getD i ⟨#[]⟩)=false then 1 else if (p.Z0.take i).any (λs=>decide (s=p.Z0.getD i ⟨#[]⟩)) then 6 else 0 from rfl,f,h] at g2;have b:=Jj p.Z0[i]<|p.Z0.take i;have j:(p.Z0.take i).any (λs=>decide (s=p.Z0[i]))=(p.Z0.take i).any (λx=>JU x p.Z0[i]):=by
   congr 1;funext x;unfold JU;exact decide_eq_decide.2 eq_comm
  rw [j] at g2;generalize (p.Z0.take i).any (λx=>JU x p.Z0[i])=z at g2 b;repeat' (first|(apply qp;(iterate 6 exact rfl);(refine⟨?_,?_,?_⟩<;>(omega));((with_reducible apply pm);(exact rfl));exact rfl;exact rfl)|refine zr ?_|refine z31 ?_ (hc:=by apply gr)|refine z31 ?_ (hc:=by apply On)|refine z21 ?_ b|(refine zm ?_ ?_<;>intro d)|fail)
  all_goals first
   | exact absurd d<|by omega
   | exact bh rfl<|by rw [g2];simp_all
   | exact⟨i+1,⟨by omega,by rw [g2];simp_all⟩,er id,by show p.Z0.length-(i+1)<p.Z0.length-i;omega⟩
 ·rw [Qx<|by omega] at g2;repeat' (first|(apply qp;(iterate 6 exact rfl);(refine⟨?_,?_,?_⟩<;>(omega));((with_reducible apply pm);(exact rfl));exact rfl;exact rfl)|refine zr ?_|refine z31 ?_ (hc:=by apply gr)|refine z31 ?_ (hc:=by apply On)|(refine zm ?_ ?_<;>intro d)|fail)
  all_goals first
   | exact absurd d<|by omega
   | exact bh rfl g2.symm
abbrev FnW (f:FuncId) (args:List SV) (J k:Nat) (H:Hp) (R:Nat->SV->Hp->Prop):Prop:=X1 false prog U5 bt f args J k H R
abbrev YZ (bs:List Bool):Hp:=[(0,.M1 150 [.row 1]),(1,.row 4 1 (bs.map cu))]
def AD {bs:List Bool} {t:I6} (h:t.var<0):S5 bs t=true:=by unfold S5;rw [decide_eq_true h];rfl
def BD {bs:List Bool} {t:I6} (h:¬ t.var<0) (b:t.var<(bs.length:Int)):S5 bs t=bs[t.var.toNat]'(by omega):=by unfold S5;rw [decide_eq_false h,Bool.false_or,A4,Ad<|by omega];rfl
def ZX (bs:List Bool) (t:I6) (h:W5 bs.length t):FnW 239 [rX t,.loc 0 0] 1 2 (YZ bs) (λj l n=>j=2/\l=.b (S5 bs t)/\n=YZ bs):=by
 refine T8 func239 ?_;intro O o p q;have r:(bs.map cu).length=bs.length:=Aa _;unfold W5 at h;by_cases d:t.var<0
 ·rw [AD d];repeat' (first|refine zr ?_|(refine zm ?_ ?_<;>intro f)|fail)
  ·exact⟨.inl rfl,_,rfl,kp id 2 (.b true) (YZ bs) ⟨rfl,rfl,rfl⟩⟩
  all_goals exact absurd d f
 ·rw [BD d h];repeat' (first|refine zr ?_|(refine zm ?_ ?_<;>intro f)|fail)
  ·exact absurd f d
  all_goals exact⟨.inl rfl,_,rfl,kp id 2 (.b _) (YZ bs) ⟨rfl,rfl,rfl⟩⟩
def Fl (b bs:List Bool) (ch:Bool):Prop:=bs.length=b.length/\bs.count false<=b.count false/\(ch=false->bs=b)/\(ch=true->bs.count false<b.count false)
def Fl.refl (b:List Bool):Fl b b false:=⟨rfl,Af _,λ_=>rfl,λh=>by cases h⟩
def count_set:∀ {bs:List Bool} {i:Nat} (_:i<bs.length),bs[i]?=some false->(bs.set i true).count false+1=bs.count false
 | [],_,h,_=>by simp at h
 | b::bs,0,_,d=>by simp at d;subst d;simp
 | b::bs,i+1,h,d=>by
  have:=count_set (bs:=bs) (i:=i) (by simpa using h) (by simpa using d)
  rw [List.set_cons_succ,Fo,Fo]
  omega
def Qt {bs:List Bool} {t:I6} (d:W5 bs.length t) (h:S5 bs t=false):(kj bs t).count false+1=bs.count false/\¬ t.var<0:=by
 have b:¬ t.var<0:=λb=>by rw [AD b] at h;cases h
 unfold W5 at d;rw [BD b d] at h;unfold kj;rw [if_neg b];exact⟨count_set (by omega) (by rw [Ad (by omega),h]),b⟩
def Fl.step {b bs:List Bool} {ch:Bool} {t:I6} (h:Fl b bs ch) (j:W5 bs.length t):Fl b (kj bs t) (ch || !S5 bs t):=by
 obtain⟨d,l,n,o⟩:=h;cases f:S5 bs t with
 | true=>rw [r9 f,Fg,Is];exact⟨d,l,n,o⟩
 | false =>
  obtain⟨p,_⟩:=Qt j f;rw [Il,Iu];exact⟨by rw [z8,d],by omega,λh=>by (cases h),λ_=>by omega⟩
abbrev ve (r:O3):HB:=.M1 87 [.i r.N0,.s 2 (r.D0.map a7),.i r.T0,.s 4 (r.body.map bf),.i r.vars]
abbrev OW (r:O3) (bs:List Bool):Hp:=[(0,ve r),(1,.row 4 1 (bs.map cu)),(2,.M1 150 [.row 1])]
abbrev NW (ch:Bool):Sl:=[(1,.loc 0 0),(2,.Q1),(3,.loc 2 0),(4,.fn 239 [.loc 2 0]),(5,.b ch)]
def mT {bs:List Bool} {l:T2} (d:¬ l.R0=1) (f:l.R0=4) (h:l.D0.length=3):co bs l=(S5 bs (l.D0[0]'(by omega))&&S5 bs (l.D0[1]'(by omega))):=by
 unfold co;rw [decide_eq_false d,decide_eq_true f];obtain⟨n,o,p,j⟩:=l;dsimp only at h ⊢;match j,h with
 | [a,b,c],_=>simp
def GB {l:T2} {t:I6} (h:t∈ef l):t∈l.D0:=by
 unfold ef at h;split at h
 ·exact h
 ·exact B4 h
def Dg {α d:Type} (f:d->α->d) (b:d) {l:List α} {i:Nat} (h:i<l.length):(l.take (i+1)).foldl f b=f ((l.take i).foldl f b) l[i]:=by rw [Am h,List.foldl_append];rfl
def sC:∀ (l:List T2) (bs:List Bool),(l.foldl nr bs).length=bs.length:=Qg
def iU (r:O3) (X:0<=r.vars) (h8:r.vars<=8) (J:∀ l∈r.body,∀ t∈l.D0,W5 r.vars.toNat t) (Y:∀ l∈r.body,l.R0=4->l.D0.length=3) :
  Fn 209 [th r] (λq=>q=.s 1 ((yt r).map cu)):=by
 refine J2 func209 ?_;intro b2 w0 E0 K1;have lb:(r.body.map bf).length=r.body.length:=Aa _;refine ig 0 3 rfl rfl<|λhk=>?_;refine zS ?_;refine KH ((Aq r.vars.toNat false).map cu) rfl rfl (Int.toNat_of_nonneg X).symm rfl rfl rfl rfl rfl rfl (by show 1*_<=_;omega) (by unfold maxLen;omega) (by rw [List.map_replicate];rfl) rfl rfl ?_;refine zS ?_;refine ae (ι:=Bool×List Bool×Nat) (λx=>⟨3,NW x.1,OW r x.2.1⟩)
  (λx=>x.2.1=gz r.body x.2.2 (Aq r.vars.toNat false)/\(x.1=false->jq r.body x.2.1=x.2.1)) (λx=>2*x.2.1.count false+(if x.1 then 1 else 0))
  (true,Aq r.vars.toNat false,0) ⟨rfl,λh=>by cases h⟩ (er id) ?_
 rintro⟨u,f,m⟩ ⟨y,M⟩;dsimp only at y M ⊢;have Z:f.length=r.vars.toNat:=by rw [y,wy,Cb]
 cases u with
 | false =>
  refine zS ?_;refine ag (ck 2 rfl rfl rfl) ?_;repeat' (apply cr)
  have o:f=yt r:=by
   rw [y];exact wV (λl hl t v=>J l hl t<|GB v)<|y▸M rfl
  rw [<- o];exact⟨.inl rfl,_,rfl,rfl,rfl⟩
 | true =>
  refine zS ?_;refine ae (ι:=Nat×List Bool×Bool) (λx=>⟨3,(17,.s 4<|r.body.map bf)::(18,.i (r.body.map bf).length)::(19,.i x.1)::NW x.2.2,OW r x.2.1⟩)
   (λx=>x.1<=r.body.length/\x.2.1=(r.body.take x.1).foldl nr f/\Fl f x.2.1 x.2.2) (λx=>r.body.length-x.1)
   (0,f,false) ⟨Ai _,rfl,Fl.refl f⟩ (er id) ?_
  rintro⟨i,d,u⟩ ⟨f1,f2,f3⟩;dsimp only at f1 f2 f3 ⊢;have N:d.length=r.vars.toNat:=by rw [f2,sC,Z]
  by_cases hi:i<r.body.length
  ·have G:=J r.body[i]<|Ah hi;have O:=Y r.body[i]<|Ah hi;have P:nr d r.body[i]=(r.body.take<|i+1).foldl nr f:=by rw [Dg nr f hi,<- f2]
   repeat' ((fail_if_success (apply AM 4));(first|refine zs ?_|(refine zm ?_ ?_<;>intro p)|fail))
   ·generalize r.body[i]=l at G O P ⊢;refine my (ι:=List I6) (λb=>⟨4,(8,.s 2<|b.map a7)::(17,.s 4<|r.body.map bf)::(18,.i (r.body.map bf).length)::(19,.i i)::NW u,OW r d⟩) (λb=>b=if co d l then ef l else []) ?_ ?_
    ·have ll:(l.D0.map a7).length=l.D0.length:=Aa _;by_cases z:l.R0=1
     ·repeat' (first|refine zs ?_|(refine zm ?_ ?_<;>intro p)|fail)
      ·exact⟨l.D0,by unfold co ef;simp [z],er id⟩
      all_goals omega
     ·by_cases B:l.R0=4
      ·have a0:=O B;have R:∀ t∈l.D0,W5 d.length t:=by rw [N];exact G
       have a1:=mT (bs:=d) z B a0;have a2:ef l=l.D0.drop 2:=by unfold ef;rw [if_neg z]
       repeat' (first|refine zs ?_|(refine zm ?_ ?_<;>intro p)|omega)
       refine m5 (λj=>match j with|0=>2|_=>1) (ZX d (l.D0[0]'(by omega))<|R _<|Ah _) rfl rfl rfl rfl rfl rfl ⟨rfl,rfl,trivial⟩ rfl rfl rfl rfl rfl rfl ?_ ?_
       ·rintro k2 q H2 ⟨rfl,rfl,rfl⟩;exact⟨rfl,rfl⟩
       rintro k2 q H2 ⟨rfl,rfl,rfl⟩;change DS _ _ _ _ _ _ _ _;rw [a1];generalize S5 d (l.D0[0]'(by omega))=q0;cases q0 with
       | false =>
        refine zS ?_;all_goals exact⟨[],rfl,ot (ff 8 2 rfl)<|er<|λj=>match j with|0=>0|1=>5|j=>j⟩
       | true =>
        repeat' refine z0 ?_
        refine m5 (λj=>match j with|0=>2|_=>5) (ZX d (l.D0[1]'(by omega))<|R _<|Ah _) rfl rfl rfl rfl rfl rfl ⟨rfl,rfl,trivial⟩ rfl rfl rfl rfl rfl rfl ?_ ?_
        ·rintro k2 q H2 ⟨rfl,rfl,rfl⟩;exact⟨rfl,rfl⟩
        rintro k2 q H2 ⟨rfl,rfl,rfl⟩;change DS _ _ _ _ _ _ _ _;generalize S5 d (l.D0[1]'(by omega))=q1;cases q1 with
        | false =>
         refine zS ?_;all_goals exact⟨[],rfl,ot (ff 8 2 rfl)<|er<|λj=>match j with|0=>0|1=>7|j=>j⟩
        | true =>
         repeat' (first|(apply qp;(iterate 6 exact rfl);(refine⟨?_,?_,?_⟩<;>(omega));((with_reducible apply nM);(exact ez _));exact rfl;exact rfl)|refine zs ?_|fail)
         all_goals exact⟨(l.D0.take (l.D0.map a7).length).drop 2,by rw [Aj (by omega),a2];rfl,er<|λj=>match j with|0=>0|1=>7|j=>j⟩
      ·have a3:co d l=false:=by unfold co;rw [decide_eq_false z,decide_eq_false B];rfl
       repeat' (first|refine zs ?_|(refine zm ?_ ?_<;>intro p)|fail)
       all_goals first
        | exact absurd p z
        | exact absurd p B
        | exact⟨[],by rw [a3];rfl,ot (ff 8 2 rfl)<|er id⟩
    ·rintro b hts;have a4:b.foldl kj d=(r.body.take<|i+1).foldl nr f:=by
      rw [<- P,hts];unfold nr;split<;>rfl
     have a5:∀ t∈b,W5 d.length t:=by
      intro t v;rw [N];rw [hts] at v;split at v
      ·exact G t<|GB v
      ·simp at v
     clear hts;have lt:(b.map a7).length=b.length:=Aa _;refine po (t:=8) rfl<|λb3=>?_;refine zS ?_;refine ae (ι:=Nat×List Bool×Bool) (λx=>⟨4,(52,.s 2<|b.map a7)::(53,.i (b.map a7).length)::(54,.i x.1)::(17,.s 4<|r.body.map bf)::(18,.i (r.body.map bf).length)::(19,.i i)::NW x.2.2,OW r x.2.1⟩)
      (λx=>x.1<=b.length/\x.2.1=(b.take x.1).foldl kj d/\Fl f x.2.1 x.2.2) (λx=>b.length-x.1)
      (0,d,u) ⟨Ai _,rfl,f3⟩ (er id) ?_
     rintro⟨j,n,S⟩ ⟨e1,C,I⟩;dsimp only at e1 C I ⊢;have a9:n.length=d.length:=by rw [C,Tk]
     by_cases T:j<b.length
     ·repeat' (first|refine zs ?_|(refine zm ?_ ?_<;>intro p)|omega)
      have A:=a5 b[j]<|Ah T;rw [<- a9] at A;have E:=I.step A;have F:(b.take<|j+1).foldl kj d=kj n b[j]:=by rw [Dg kj d T,<- C]
      refine m5 (λj=>match j with|0=>2|_=>1) (ZX n b[j] A) rfl rfl rfl rfl rfl rfl ⟨rfl,rfl,trivial⟩ rfl rfl rfl rfl rfl rfl ?_ ?_
      ·rintro k2 q H2 ⟨rfl,rfl,rfl⟩;exact⟨rfl,rfl⟩
      rintro k2 q H2 ⟨rfl,rfl,rfl⟩;change DS _ _ _ _ _ _ _ _;have b4:(n.map cu).length=n.length:=Aa _;cases o:S5 n b[j] with
      | true =>
       rw [o,Fg,Is,r9 o] at E;rw [r9 o] at F;refine zS ?_;exact⟨(j+1,n,S),⟨by omega,F.symm,E⟩,er (λj=>match j with|0=>0|1=>6|j=>j),by show b.length-(j+1)<b.length-j;omega⟩
      | false =>
       obtain⟨_,b1⟩:=Qt A o;have U:kj n b[j]=n.set b[j].var.toNat true:=by unfold kj;rw [if_neg b1]
       rw [o,Il,Iu,U] at E;rw [U] at F;unfold W5 at A;repeat' (first|refine z0 ?_|apply i7|(apply mh;exact rfl;exact rfl;(apply k0;(omega));exact rfl;exact rfl;(exact mc rfl);(iterate 6 exact rfl))|refine zs ?_|fail)
       exact⟨(j+1,n.set b[j].var.toNat true,true),⟨by omega,F.symm,E⟩,er (λj=>match j with|0=>0|1=>6|j=>j),by show b.length-(j+1)<b.length-j;omega⟩
     ·repeat' (first|refine zs ?_|(refine zm ?_ ?_<;>intro p)|omega)
      ·refine⟨(i+1,n,S),⟨by omega,?_,I⟩,er id,by show r.body.length-(i+1)<r.body.length-i;omega⟩
       dsimp only;rw [<- a4,C,Aj<|by omega]
   ·exfalso;omega
  ·repeat' (first|refine zs ?_|(refine zm ?_ ?_<;>intro p)|omega)
   ·refine⟨(u,d,m+1),⟨?_,?_⟩,er id,?_⟩
    ·dsimp only;rw [n9,<- y,f2,Aj<|by omega];rfl
    ·rintro rfl;have o:=f3.2.2.1 rfl;have W:d=jq r.body f:=by rw [f2,Aj<|by omega];rfl
     show jq r.body d=d;rw [o];rw [o] at W;exact W.symm
    ·show 2*d.count false+(if u=true then 1 else 0)<2*f.count false+(if true=true then 1 else 0);have h1:=f3.2.1;have h2:=f3.2.2.2;cases u with
     | false=>simp;omega
     | true=>have:=h2 rfl;simp;omega
end Go.Proofs.YtapciiffpnociabGreat
