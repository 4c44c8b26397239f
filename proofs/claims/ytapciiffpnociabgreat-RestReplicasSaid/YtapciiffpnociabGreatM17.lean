/- Several texts in one: GxInc DagJ DagK DagL WirD WirF WirG WirH WirJ WirI WirK WirL WirM. Condition: none. -/
import Derived.Test.YtapciiffpnociabGreatM16
set_option linter.all false
set_option maxHeartbeats 8000000
open Array renaming getD_eq_getD_getElem?→Da,getElem?_setIfInBounds_ne→Ff
open Bool renaming and_eq_true→Ae,false_eq_true→B3,not_eq_true'→D7,true_and→Do
open Int renaming toNat_of_nonneg→B9
open List renaming append_assoc→Bm,append_nil→Bn,drop_eq_getElem_cons→An,drop_of_length_le→Ar,ext_getElem?→Ce,filter_append→Cf,filter_cons→B7,filter_nil→Ik,flatMap_append→Dj,flatMap_cons→C6,getElem_mem→Ah,length_append→Ag,length_cons→Ba,length_map→Aa,length_singleton→A0,length_take→Ap,map_append→Au,map_set→Db,mem_append_left→Ax,take_append_drop→Dl,take_of_length_le→Aj,take_succ_eq_append_getElem→Am
open Nat renaming blt→Av,le_of_ble_eq_true→Ab,le_refl→Af,lt_succ_self→Gk,pow_le_pow_right→G4,zero_le→Ai
open Option renaming getD_some→Cm
namespace Go.Proofs.YtapciiffpnociabGreat
open Tryz
open Go Go.RowKit
open Go.Maps (Keyed)
variable [Y0]
def Bw (x:MK) (n m:Int):∀ l,bw (bw l x n) x m=bw l x m
 | []=>by simp [bw,MK.Vi]
 | (k,v)::l=>by
  have b:bw ((k,v)::l) x n=if k.BH x then (k,n)::l else (k,v)::bw l x n:=rfl
  have c:bw ((k,v)::l) x m=if k.BH x then (k,m)::l else (k,v)::bw l x m:=rfl
  rw [b,c]
  by_cases a:k.BH x=true
  ·rw [if_pos a,if_pos a]
   show (if k.BH x then (k,m)::l else _)=_
   rw [if_pos a]
  ·rw [if_neg a,if_neg a]
   show (if k.BH x then _ else (k,v)::bw (bw l x n) x m)=_
   rw [if_neg a,Bw x n m l]
def Y9 (a:Array Bool):Nat:=a.toList.countP λb=>!b
def MG {c:Array Bool} {i:Nat} (hi:i<c.size) (h:c.getD i true=false):Y9 (c.setIfInBounds i true)+1=Y9 c:=by
 unfold Y9;have d:i<c.toList.length:=by simpa using hi
 have e:=List.countP_set (p:=λb=>!b) (a:=true) d;rw [Array.toList_setIfInBounds,e];have f:c.toList[i]=false:=by
  simp [hi] at h;simpa using h
 rw [f];clear e;have g:0<c.toList.countP (λb=>!b):=List.countP_pos_iff.2 ⟨false,by rw [<- f];exact Ah d,rfl⟩;simp only [Bool.not_false,Bool.not_true,if_true,B3,if_false,Nat.add_zero];omega
def KB {a:Array Bool} (h:Y9 a=0):∀ i,i<a.size->a.getD i true=true:=by
 intro i b;unfold Y9 at h;rw [List.countP_eq_zero] at h;have:=h a[i]<|by simp
 simp [b] at this ⊢;exact this
def JA {P:Program} {l:List Oper} {Q:Exit->Act->World->Prop} (J:Array Bool->Act->World->Prop)
  (s:∀ (b:Array Bool) a w i,b.size=l.length->J b a w->i∈Region.ready .any l.toArray b->wpOp P l.toArray Q i (J (b.setIfInBounds i true)) a w)
  (q:∀ (b:Array Bool) a w,b.size=l.length->J b a w->Region.ready .any l.toArray b=[]->Q .normal a w) :
  ∀ (fuel:Nat) (b:Array Bool) a w,b.size=l.length->Y9 b=fuel->J b a w->wpAny P .any l.toArray Q fuel b a w
 | 0,b,a,w,d,u,h=>by
  have f:Region.ready .any l.toArray b=[]:=List.eq_nil_iff_forall_not_mem.2 λj e=>by
   obtain⟨g,o,m,_⟩:=mem_ready.1 e;have e:j<b.size:=by rw [d];have:=(Array.getElem?_eq_some_iff.1 m).1;simpa using this
   rw [KB u j e] at g;cases g
  exact⟨f,q b a w d h f⟩
 | fuel+1,b,a,w,d,u,h=>by
  refine⟨λf=>q b a w d h f,λi v=>?_⟩
  obtain⟨g,o,m,_⟩:=mem_ready.1 v;have e:i<b.size:=by rw [d];have:=(Array.getElem?_eq_some_iff.1 m).1;simpa using this
  have z:=MG e g;have key:∀ n p,J (b.setIfInBounds i true) n p->wpAny P .any l.toArray Q fuel (b.setIfInBounds i true) n p:=λn p x =>
   JA J s q fuel _ n p (by simp [d]) (by omega) x
  have c:=s b a w i d h v;unfold wpOp at c ⊢;rw [m] at c ⊢;simp only at c ⊢;split
  ·rename_i r;rw [if_pos r] at c;exact c.imp (λc=>Oper.wp_mono key c) id
  ·rename_i r;rw [if_neg r] at c;exact key _ _ c
def ug (l:List Oper) (i j:Nat):Bool:=match l[i]? with
 | some o=>o.after.toList.any λe=>Region.binds .any e&&Nat.beq e.on j
 | none=>false
def zB {l:List Oper} {i j:Nat} {a:Array Bool} (h:ug l i j=true) (hi:i∈Region.ready .any l.toArray a):a.getD j false=true:=by
 obtain⟨_,o,b,c⟩:=mem_ready.1 hi;have d:l[i]?=some o:=by simpa using b
 unfold ug at h;rw [d] at h;obtain⟨e,f,h⟩:=List.any_eq_true.1 h;rw [Ae] at h;have:=c e (by simpa using f) h.1
 rwa [Nat.eq_of_beq_eq_true h.2] at this
def qB {l:List Oper} {a:Array Bool} (o:a.size=l.length) (d:l8 l=true) (f:Region.ready .any l.toArray a=[]):∀ j,j<l.length->a.getD j false=true:=by
 intro j;induction j using Nat.strongRecOn with
 | ind j ih =>
  intro b;cases g:a.getD j false with
  | true=>rfl
  | false =>
   exfalso;have c:j∈Region.ready .any l.toArray a:=mem_ready.2 ⟨by rw [j9<|by omega];exact g,l[j],by simp [b],λe h m=>by
    have n:=Sm d j l[j] (List.getElem?_eq_getElem b) e h m;exact ih e.on n<|by omega⟩
   rw [f] at c;cases c
def Bx {a:Array Bool} {i j:Nat} (hi:i<a.size):(a.setIfInBounds i true).getD j false=if i=j then true else a.getD j false:=by
 by_cases h:i=j
 ·subst h;simp [hi]
 ·rw [if_neg h,getD_set_ne false h]
def J0.V1 {Γ:Ctx} {k:Nat->Prop} {L:Sl} {H:Hp} {e:Env} {a:Act} {w:World} (m:J0 Γ k L H e a w) {d:Nat} {v:Value} (c:Av d Γ.n=true) (f:L.get d=.V1):J0 Γ k L H e (a.put (some d) v) w:=by
 have b:=m.put (s:=.V1) (v:=v) (Ab c) trivial;refine⟨b.toHeap,b.defers,b.len,λt=>?_⟩
 have:=b.slot t
 rw [Sl.C1] at this;split at this
 ·rename_i h;subst h;rw [f];trivial
 ·exact this
def Bs (w:World) (b:Nat) (key:MK) (s:Int):Prop:=∃ (a:Array MapEntry) (c:Nat) (x:MapEntry),w.heap[b]?=some (.map a c)/\x∈a.toList/\x.key=key.val/\(x.born:Int)=s
structure IncS (Γ:Ctx) (k:Nat) (L:Sl) (H H1 H2:Hp) (e:Env) (i:Nat) (d0 d1 d2 d3 d4 d5:Nat) (key:MK) (n:Int) (c:Nat->Bool) (a:Act) (w:World):Prop where
 m:J0 Γ (lo k) L (if c 6 then H2 else if c 4 then H1 else H) e a w
 v0:c 0=true->a.tmps.getD d0 undef=.map (some (e.β i))
 v1:c 1=true->a.tmps.getD d1 undef=key.val
 v2:c 2=true->a.tmps.getD d2 undef=.int .i64 n
 v3:c 3=true->a.tmps.getD d3 undef=.int .i64 (n+1)
 v4:c 4=true->c 6=false->∃ u s,a.tmps.getD d4 undef=.tuple #[u,.int .i64 s]/\Bs w (e.β i) key s
 v5:c 5=true->c 6=false->∃ s,a.tmps.getD d5 undef=.int .i64 s/\Bs w (e.β i) key s
def kx {a:Act} {d:Nat} {v:Value} (h:d<a.tmps.size):(a.put (some d) v).tmps.getD d undef=v:=by simp [Act.put,h]
def bz {a:Act} {d t:Nat} {v:Value} (h:d≠t):(a.put (some d) v).tmps.getD t undef=a.tmps.getD t undef:=by simp only [Act.put,Da,Ff h]
def J0.YL {Γ:Ctx} {k:Nat->Prop} {L:Sl} {H:Hp} {e:Env} {a:Act} {w:World} {i:Nat} {kd:Bool} {kvs d:List (MK×Int)} (m:J0 Γ k L H e a w) (hH:Hp.get H i=some (.map kd kvs)) {b:Array MapEntry} {f:Nat}
  (g:b.toList.map (λx=>(x.key,x.val))=d.map (λp=>(p.1.val,Value.int .i64 p.2))) (j:yx b f) (l:d.Pairwise λp q=>p.1≠q.1) (n:∀ p∈d,p.1.ok kd/\(Lit.int .i64 p.2).wf=true) :
  J0 Γ k L (Hp.set H i (.map kd d)) e a { w with heap:=w.heap.setIfInBounds (e.β i) (.map b f) }:=by
 have o:=m.toHeap.lt (e.β i)<|List.mem_filterMap.2 ⟨_,Hp.mem_of hH,rfl⟩;refine m.Ck (w':={ w with heap:=w.heap.setIfInBounds (e.β i) (.map b f) }) (b':=.map kd d) hH (by simp) rfl rfl rfl (λ_=>Af _) (λc u r=>?_) rfl ⟨⟨b,f,?_,g,j⟩,l,n⟩
 ·have s:e.β i≠c:=λh=>r (by simp [HB.owned,h])
  exact Ff s
 ·show (w.heap.setIfInBounds (e.β i)<|.map b f)[e.β i]?=_;simp [o]
def FB {kd:Bool} {kvs:List (MK×Int)} {key:MK} {n:Int} (a:∀ p∈kvs,p.1.ok kd/\(Lit.int .i64 p.2).wf=true) (b:key.ok kd) (c:(Lit.int .i64 n).wf=true):∀ p∈bw kvs key n,p.1.ok kd/\(Lit.int .i64 p.2).wf=true:=λp d=>by
 rcases uk key n kvs p d with h|h
 ·rw [h];exact⟨b,c⟩
 ·exact a p h
def sP {P:Program} {t:TypeId} {kd:Bool} {kvs:List (MK×Int)} {key:MK} (T:JE P t kd) {w:World} {b:Nat} (I:W6 w b kd kvs) (r:key.ok kd) :
  ∃ (e:Array MapEntry) (v:Nat) (u:Value) (s:Int),(Instr.mapEntry t (.map (some b)) key.val).run P w=.ok (.tuple #[u,.int .i64 s]) { w with heap:=w.heap.setIfInBounds b (.map e v) } /\
   e.toList.map (λx=>(x.key,x.val))=(bw kvs key ((K2 kvs key).getD 0)).map (λp=>(p.1.val,Value.int .i64 p.2))/\yx e v/\∃ x∈e.toList,x.key=key.val/\(x.born:Int)=s:=by
 obtain⟨X,Y,z,K,A,J⟩:=T.ty;obtain⟨⟨a,c,f,g,B⟩,C,M⟩:=I;obtain⟨l,n⟩:=A key r;rcases Zv K A g C M r w with ⟨o,N,h⟩|⟨j,d,O,o,h,Q,E,R,_⟩
 ·refine⟨a.push ⟨key.val,.int .i64 0,c⟩,c+1,.int .i64 0,c,?_,?_,Rn B,⟨key.val,.int .i64 0,c⟩,by simp,rfl,rfl⟩
  ·simp [Instr.mapEntry,run_underlying z,MapKept.run_getObj_map f,K.check w false n,o,J w,MapKept.run_setObj_map _ f,Result.andThen,goInt]
  ·rw [N,Rf h,Array.toList_push,Au,Au,g];rfl
 ·have m:a[j]?=some d:=by simpa using h
  have S:j<a.size:=(Array.getElem?_eq_some_iff.1 m).1;have U:a[j]=d:=(Array.getElem?_eq_some_iff.1 m).2;have V:(Instr.keyThatStays d.key key.val).run P w=.ok key.val w:=by
   rw [Q];exact K.stays w n
  refine⟨a.modify j λx=>{ x with key:=key.val },c,.int .i64 O,d.born,?_,?_,ur B λ_=>rfl,{ d with key:=key.val },?_,rfl,rfl⟩
  ·simp [Instr.mapEntry,run_underlying z,MapKept.run_getObj_map f,K.check w false n,o,V,m,MapKept.run_setObj_map _ f,Result.andThen,goInt]
  ·obtain⟨p,F,Z,W⟩:=uo g h;rw [E] at F;cases F;rw [R,Cm,x9 C E,Db,<- g];apply Ce;intro q;by_cases G:q=j
   ·subst G;simp [S,U,W]
   ·simp [Ne.symm G]
  ·refine List.mem_iff_getElem?.2 ⟨j,?_⟩;simp [m]
def fN {P:Program} {t:TypeId} {kd:Bool} {kvs:List (MK×Int)} {key:MK} {m:Int} {w:World} {b:Nat} (E:W6 w b kd kvs) {s:Int} (F:Bs w b key s) :
  ∃ (d:Array MapEntry) (l:Nat),(Instr.entryStore t (.map (some b)) (.int .i64 s) (.int .i64 m)).run P w=.ok () { w with heap:=w.heap.setIfInBounds b (.map d l) } /\
   d.toList.map (λx=>(x.key,x.val))=(bw kvs key m).map (λp=>(p.1.val,Value.int .i64 p.2))/\yx d l:=by
 obtain⟨⟨a,G,f,o,r⟩,I,R⟩:=E;obtain⟨S,T,x,u,J,K,M⟩:=F;rw [f] at u;cases u;obtain⟨j,v⟩:=List.mem_iff_getElem?.1 J;have z:a[j]?=some x:=by simpa using v
 have g:j<a.size:=(Array.getElem?_eq_some_iff.1 z).1;have h:a[j]=x:=(Array.getElem?_eq_some_iff.1 z).2;have N:a.findIdx? (λe=>(e.born:Int)==s)=some j:=by
  rw [Array.findIdx?_eq_some_iff_getElem];refine⟨g,by rw [h];simpa using M,λq c=>?_⟩
  have A:=List.pairwise_iff_getElem.1 r.1 q j (by simp;omega) (by simpa using g) c;simp only [Array.getElem_toList] at A;rw [h] at A;intro B;have B:((a[q]).born:Int)=s:=by simpa using B
  omega
 obtain⟨p,O,C,U⟩:=uo o v;have Q:p.1=key:=MK.val_inj (by rw [<- C,K]);obtain⟨V,n⟩:=p;subst Q;refine⟨a.modify j λe=>{ e with val:=.int .i64 m },G,?_,?_,ur r λ_=>rfl⟩
 ·simp [Instr.entryStore,MapKept.run_getObj_map f,asInt,asIntOf,N,MapKept.run_setObj_map _ f,Result.andThen]
 ·rw [x9 I O,Db,<- o];apply Ce;intro q;by_cases c:q=j
  ·subst c;simp [g,h,C]
  ·simp [Ne.symm c]
def Hp.Ki {i:Nat} {b b':HB} {H:Hp} (h:Hp.get H i=some b):Hp.get (Hp.set H i b') i=some b':=by rw [Hp.Mr i b' H b h,if_pos rfl]
def Hp.set_set {i:Nat} {b b':HB}:∀ {H:Hp},Hp.set (Hp.set H i b) i b'=Hp.set H i b'
 | []=>rfl
 | (d,s)::H=>by
  simp only [Hp.set]
  cases a:Nat.beq d i with
  | true=>simp only [Hp.set,a]
  | false=>simp only [Hp.set,a,Hp.set_set]
def pa (n p:Nat):(Array.replicate n false).getD p false=false:=by simp only [Da,Array.getElem?_replicate];split<;>rfl
def uz {P:Program} {l:List Oper} {Q:Exit->Act->World->Prop} {i:Nat} {o:Oper} {a:Act} {w w':World} {K:Act->World->Prop} {v:Value} (b:l[i]?=some o) (c:o.guard=none) (d:(execOp a.eval o).run P w=.ok (.value v) w') (e:K (a.put o.dst v) w') :
  wpOp P l.toArray Q i K a w:=by
 unfold wpOp;have f:l.toArray[i]?=some o:=by simpa using b
 rw [f];have g:Region.wanted o (yielded l.toArray a.tmps)=true:=by unfold Region.wanted;rw [c]
 simp only [g,if_true];refine .inl ?_;unfold Oper.wp;rw [d];exact e
def VM {P:Program} {l:List Oper} {Q:Exit->Act->World->Prop} {i:Nat} {o:Oper} {a:Act} {w w':World} {K:Act->World->Prop} (b:l[i]?=some o) (c:o.guard=none) (d:(execOp a.eval o).run P w=.ok .skip w') (e:K (a.put o.dst undef) w') :
  wpOp P l.toArray Q i K a w:=by
 unfold wpOp;have f:l.toArray[i]?=some o:=by simpa using b
 rw [f];have g:Region.wanted o (yielded l.toArray a.tmps)=true:=by unfold Region.wanted;rw [c]
 simp only [g,if_true];refine .inl ?_;unfold Oper.wp;rw [d];exact e
def J0.know {Γ:Ctx} {k:Nat->Prop} {L:Sl} {H:Hp} {e:Env} {a:Act} {w:World} (m:J0 Γ k L H e a w) {d:Nat} {s:SV} (h:Rel (Γ.X e H) e w s (a.tmps.getD d undef)):J0 Γ k ((d,s)::L) H e a w:=
 ⟨m.toHeap,m.defers,m.len,λt=>by
  rw [Sl.C1]
  split
  ·rename_i b;subst b;exact h
  ·exact m.slot t⟩
def ZQ {a:Array Bool} {i:Nat} (hi:i<a.size):(λj=>(a.setIfInBounds i true).getD j false)=λj=>if i=j then true else a.getD j false:=funext λ_=>Bx hi
def PI {l:List Oper} {a:Array Bool} {i:Nat} (hi:i∈Region.ready .any l.toArray a) (d:i<a.size) (h:∀ p q,ug l p q=true->a.getD p false=true->a.getD q false=true) :
  ∀ p q,ug l p q=true->(a.setIfInBounds i true).getD p false=true->(a.setIfInBounds i true).getD q false=true:=by
 intro p q c b;rw [Bx d] at b ⊢;split
 ·rfl
 ·split at b
  ·rename_i e;subst e;exact zB c hi
  ·exact h p q c b
section
variable {Γ : Ctx} {k i d0 d1 d2 d3 d4 d5 tx : Nat} {L : Sl} {H : Hp} {y : Operand} {t t1 t3 t3' ty0 ty1 ty2 ty3 ty4 ty5 ty6 : TypeId} {p0 p1 p2 p3 p4 p5 p6 : String} {af0 af1 af2 af3 af4 af5 af6 : Array Edge} {kd : Bool} {kvs : List (MK×Int)} {key : MK} {sv : SV}
def HT {id:Nat} {Q:ey} {l:List Oper} (F:l=[⟨some d0,.move (.tmp tx),ty0,p0,af0,none⟩,⟨some d1,.load t1 y,ty1,p1,af1,none⟩,⟨some d2,.lookup t (.tmp d0) (.tmp d1) false,ty2,p2,af2,none⟩,⟨some d3,.binOp .add t3 (.tmp d2) (.const (.int .i64 1)) t3',ty3,p3,af3,none⟩,
   ⟨some d4,.mapEntry t (.tmp d0) (.tmp d1),ty4,p4,af4,none⟩,⟨some d5,.extract (.tmp d4) 1,ty5,p5,af5,none⟩,⟨none,.entryStore t (.tmp d0) (.tmp d5) (.tmp d3),ty6,p6,af6,none⟩])
  (b:Γ.P.follows .mixedOrders=true) (k1:l8 l=true) (k2:d8 l=true)
  (a4:(ug l 2 0&&ug l 2 1&&ug l 3 2&&ug l 4 0&&ug l 4 1&&ug l 5 4&&ug l 6 3&&ug l 6 5)=true)
  (k3:a8 [d0,d1,d2,d3,d4,d5]=true) (g0:(Av d0 Γ.n&&Av d1 Γ.n&&Av d2 Γ.n&&Av d3 Γ.n&&Av d4 Γ.n&&Av d5 Γ.n)=true)
  (j0:L.get d0=.V1) (j1:L.get d1=.V1) (j2:L.get d2=.V1) (j3:L.get d3=.V1) (j4:L.get d4=.V1) (j5:L.get d5=.V1)
  (T:JE Γ.P t kd) (hx:L.get tx=.mp i) (hH:Hp.get H i=some (.map kd kvs)) (hy:Ev Γ (lo k) L H (.load t1 y) ty1 sv) (g1:OJ sv=some key) (k4:key.kd=kd)
  (a5:∀ H',Ev Γ (lo k) ((d2,.d (.int .i64 ((K2 kvs key).getD 0)))::L) H' (.binOp .add t3 (.tmp d2) (.const (.int .i64 1)) t3') ty3 (.d (.int .i64 ((K2 kvs key).getD 0+1))))
  (hQ:Q .normal k L (Hp.set H i (.map kd (bw kvs key ((K2 kvs key).getD 0+1))))):DW Γ (.region id l.toArray true) Q k L H:=by
 have g2:l.length=7:=by rw [F];rfl
 simp only [Ae] at a4 g0;obtain⟨⟨⟨⟨⟨⟨⟨a9,g3⟩,b6⟩,g4⟩,g5⟩,O⟩,g6⟩,g7⟩:=a4;obtain⟨⟨⟨⟨⟨b0,b1⟩,b2⟩,b3⟩,b4⟩,b5⟩:=g0;have j:∀ (p q:Nat),p<q->(hp:p < [d0,d1,d2,d3,d4,d5].length)->(J:q < [d0,d1,d2,d3,d4,d5].length)->[d0,d1,d2,d3,d4,d5][p]≠[d0,d1,d2,d3,d4,d5][q]:=λp q h hp J=>List.pairwise_iff_getElem.1 (ed _ k3) p q hp J h
 have g8:d0≠d1:=λh=>j 0 1 (by decide) (by simp) (by simp)<|by simp [h]
 have g9:d0≠d2:=λh=>j 0 2 (by decide) (by simp) (by simp)<|by simp [h]
 have h0:d0≠d3:=λh=>j 0 3 (by decide) (by simp) (by simp)<|by simp [h]
 have l0:d0≠d4:=λh=>j 0 4 (by decide) (by simp) (by simp)<|by simp [h]
 have l1:d0≠d5:=λh=>j 0 5 (by decide) (by simp) (by simp)<|by simp [h]
 have h3:d1≠d2:=λh=>j 1 2 (by decide) (by simp) (by simp)<|by simp [h]
 have h4:d1≠d3:=λh=>j 1 3 (by decide) (by simp) (by simp)<|by simp [h]
 have l2:d1≠d4:=λh=>j 1 4 (by decide) (by simp) (by simp)<|by simp [h]
 have l3:d1≠d5:=λh=>j 1 5 (by decide) (by simp) (by simp)<|by simp [h]
 have h5:d2≠d3:=λh=>j 2 3 (by decide) (by simp) (by simp)<|by simp [h]
 have h7:d2≠d4:=λh=>j 2 4 (by decide) (by simp) (by simp)<|by simp [h]
 have h8:d2≠d5:=λh=>j 2 5 (by decide) (by simp) (by simp)<|by simp [h]
 have h9:d3≠d4:=λh=>j 3 4 (by decide) (by simp) (by simp)<|by simp [h]
 have i0:d3≠d5:=λh=>j 3 5 (by decide) (by simp) (by simp)<|by simp [h]
 have l4:d4≠d5:=λh=>j 4 5 (by decide) (by simp) (by simp)<|by simp [h]
 generalize hn:(K2 kvs key).getD 0=n at a5 hQ;intro e a w mm;refine wpIn_mono (wpIn_region_any b<|zj (ji (Γ:=Γ) (K:=Q .normal)) k2 _ _ _ _ ?_)<|sd<|λex k' L' H' (⟨h1,h2⟩:ep (Q .normal) ex k' L' H')=>h1▸h2;have m0:=mm.below (w':={ w with drawn:=w.drawn+1 })<|(W4.refl _ _ _).drew;have b7:W6 w (e.β i) kd kvs:=(mm.heap _<|Hp.mem_of hH).2;have i1:=b7.keys;have i2:=b7.wf;have W:key.ok kd:=by
  obtain⟨v,_,B⟩:=hy e a w mm;rw [<- k4];exact (Xh g1 B).2
 have e6:(Lit.int .i64 n).wf=true:=by rw [<- hn];exact (Wh T false b7 W).2
 have m1:(Lit.int .i64<|n+1).wf=true:=by
  have m2:J0 Γ (lo k) ((d2,.d<|.int .i64 n)::L) H e (a.put (some d2)<|.int .i64 n) w:=mm.put (Ab b2)<|Q0.int e6;obtain⟨v,_,B⟩:=a5 H e _ w m2;have B:Q0 _ _ _ _:=B;cases B;assumption
 have i3:Hp.get (Hp.set H i<|.map kd<|bw kvs key n) i=some (.map kd<|bw kvs key n):=Hp.Ki hH;have m3:Hp.set (Hp.set H i<|.map kd<|bw kvs key n) i (.map kd<|bw kvs key<|n+1)=Hp.set H i (.map kd<|bw kvs key<|n+1):=Hp.set_set;refine JA (λc a w=>(∀ p q,ug l p q=true->c.getD p false=true->c.getD q false=true)/\IncS Γ k L H (Hp.set H i<|.map kd<|bw kvs key n) (Hp.set H i<|.map kd<|bw kvs key<|n+1) e i d0 d1 d2 d3 d4 d5 key n (λm4=>c.getD m4 false) a w)
  ?_ ?_ _ _ a _ (by simp) (by simp [Y9,List.countP_replicate]) ⟨λp q _ h=>(by rw [pa] at h;cases h),⟨by simp only [pa];exact m0,λh=>(by rw [pa] at h;cases h),λh=>(by rw [pa] at h;cases h),λh=>(by rw [pa] at h;cases h),λh=>(by rw [pa] at h;cases h),λh=>(by rw [pa] at h;cases h),λh=>(by rw [pa] at h;cases h)⟩⟩
 ·rintro c a w q hs ⟨hcl,hI⟩ J;have M:=(mem_ready.1 J).1;have n0:q<7:=by
   obtain⟨_,q1,ho,_⟩:=mem_ready.1 J;have:=(Array.getElem?_eq_some_iff.1 ho).1
   simpa [g2] using this
  have e7:q<c.size:=by rw [hs,g2];exact n0
  rw [j9 e7] at M;have N:=PI J e7 hcl;have G:=fun {p:Nat} (h:ug l q p=true)=>zB h J
  have I:q≠6->c.getD 6 false=false:=λa4=>by
   cases f:c.getD 6 false with
   | false=>rfl
   | true =>
    exfalso;have c3:=hcl 6 3 g6 f;have R:=hcl 6 5 g7 f;have c2:=hcl 3 2 b6 c3;have A:=hcl 5 4 O R;have c0:=hcl 2 0 a9 c2;have c1:=hcl 2 1 g3 c2;have:q=0∨q=1∨q=2∨q=3∨q=4∨q=5:=by omega
    rcases this with rfl|rfl|rfl|rfl|rfl|rfl<;>simp_all
  have S:∀ d,Av d Γ.n=true->d<a.tmps.size:=λd hd=>by rw [hI.m.len];exact Ab hd
  have X:W6 w (e.β i) kd (if c.getD 6 false=true then bw kvs key (n+1) else if c.getD 4 false=true then bw kvs key n else kvs):=by
   have b:=hI.m;split
   ·rename_i f;rw [if_pos f] at b;exact (b.heap _<|Hp.mem_of<|Hp.Ki hH).2
   ·rename_i f;rw [if_neg f] at b;split
    ·rename_i f;rw [if_pos f] at b;exact (b.heap _<|Hp.mem_of i3).2
    ·rename_i f;rw [if_neg f] at b;exact (b.heap _<|Hp.mem_of hH).2
  have n1:q=0∨q=1∨q=2∨q=3∨q=4∨q=5∨q=6:=by omega
  rw [ZQ e7];rcases n1 with rfl|rfl|rfl|rfl|rfl|rfl|rfl
  ·have u:=I (by decide);have A:c.getD 4 false=false:=by
    cases f:c.getD 4 false with
    | false=>rfl
    | true=>have:=hcl 4 0 g4 f;rw [M] at this;cases this
   obtain⟨b,o,r,x,z,C,E⟩:=hI;simp only [u,A,B3,if_false] at b;have i8:=b.slot tx;rw [hx] at i8;refine uz (v:=.map<|some<|e.β i) (w':=w) (by rw [F];rfl) rfl ?_ ⟨N,⟨?_,λ_=>kx (S _ b0),?_,?_,?_,?_,?_⟩⟩
   ·have:a.eval (.tmp tx)=.map (some<|e.β i):=i8.2
    simp only [execOp,this,Sem.run_pure]
   ·simp only [u,A,show ¬ (0=6) by decide,show ¬ (0=4) by decide,B3,if_false];exact b.V1 b0 j0
   ·simp only [show ¬ (0=1) by decide,if_false];intro h;rw [bz g8];exact r h
   ·simp only [show ¬ (0=2) by decide,if_false];intro h;rw [bz g9];exact x h
   ·simp only [show ¬ (0=3) by decide,if_false];intro h;rw [bz h0];exact z h
   ·simp only [show ¬ (0=4) by decide,if_false,A];intro h;cases h
   ·simp only [show ¬ (0=5) by decide,if_false];intro h;have:=hcl 5 4 O h;rw [A] at this;cases this
  ·have u:=I (by decide);have A:c.getD 4 false=false:=by
    cases f:c.getD 4 false with
    | false=>rfl
    | true=>have:=hcl 4 1 g5 f;rw [M] at this;cases this
   obtain⟨b,o,r,x,z,C,E⟩:=hI;simp only [u,A,B3,if_false] at b;obtain⟨v,Y,B⟩:=hy e a w b;obtain⟨hv,_⟩:=Xh g1 B;refine uz (v:=v) (w':=w) (by rw [F];rfl) rfl (Y _ _ _ _ w<|Below.refl _ _) ⟨N,⟨?_,?_,λ_=>?_,?_,?_,?_,?_⟩⟩
   ·simp only [u,A,show ¬ (1=6) by decide,show ¬ (1=4) by decide,B3,if_false];exact b.V1 b1 j1
   ·simp only [show ¬ (1=0) by decide,if_false];intro h;rw [bz g8.symm];exact o h
   ·rw [kx (S _ b1),hv]
   ·simp only [show ¬ (1=2) by decide,if_false];intro h;rw [bz h3];exact x h
   ·simp only [show ¬ (1=3) by decide,if_false];intro h;rw [bz h4];exact z h
   ·simp only [show ¬ (1=4) by decide,if_false,A];intro h;cases h
   ·simp only [show ¬ (1=5) by decide,if_false];intro h;have:=hcl 5 4 O h;rw [A] at this;cases this
  ·have u:=I (by decide);obtain⟨b,o,r,x,z,C,E⟩:=hI;have e0:a.eval (.tmp d0)=.map (some<|e.β i):=o<|G a9;have e1:a.eval (.tmp d1)=key.val:=r<|G g3;have n2:key.ok kd:=W;have U:=(Wh T false X n2).1;have n4:(K2 (if c.getD 6 false=true then bw kvs key (n+1) else if c.getD 4 false=true then bw kvs key n else kvs) key).getD 0=n:=by
    rw [u,if_neg<|by decide];split
    ·rw [s6,if_pos<|MK.Vi _];rfl
    ·exact hn
   rw [n4] at U;refine uz (v:=.int .i64 n) (w':=w) (by rw [F];rfl) rfl ?_ ⟨N,⟨?_,?_,?_,λ_=>kx (S _ b2),?_,?_,?_⟩⟩
   ·simp only [execOp,e0,e1,Sem.run_bind,Sem.run_pure,U,Result.andThen_ok];rfl
   ·simp only [show ¬ (2=6) by decide,show ¬ (2=4) by decide,if_false];exact b.V1 b2 j2
   ·simp only [show ¬ (2=0) by decide,if_false];intro h;rw [bz g9.symm];exact o h
   ·simp only [show ¬ (2=1) by decide,if_false];intro h;rw [bz h3.symm];exact r h
   ·simp only [show ¬ (2=3) by decide,if_false];intro h;rw [bz h5];exact z h
   ·simp only [show ¬ (2=4) by decide,show ¬ (2=6) by decide,if_false];intro h g;rw [bz h7];exact C h g
   ·simp only [show ¬ (2=5) by decide,show ¬ (2=6) by decide,if_false];intro h g;rw [bz h8];exact E h g
  ·have u:=I (by decide);obtain⟨b,o,r,x,z,C,E⟩:=hI;have e2:a.tmps.getD d2 undef=.int .i64 n:=x<|G b6;have V:J0 Γ (lo k) ((d2,.d<|.int .i64 n)::L) (if c.getD 6 false=true then Hp.set H i (.map kd<|bw kvs key<|n+1) else if c.getD 4 false=true then Hp.set H i (.map kd<|bw kvs key n) else H) e a w:=by
    exact b.know<|by rw [e2];exact Q0.int e6
   obtain⟨v,Y,B⟩:=a5 _ e a w V;have hv:v=.int .i64 (n+1):=by
    have B:Q0 _ _ _ _:=B;cases B;rfl
   refine uz (v:=v) (w':=w) (by rw [F];rfl) rfl (Y _ _ _ _ w<|Below.refl _ _) ⟨N,⟨?_,?_,?_,?_,λ_=>?_,?_,?_⟩⟩
   ·simp only [show ¬ (3=6) by decide,show ¬ (3=4) by decide,if_false];exact b.V1 b3 j3
   ·simp only [show ¬ (3=0) by decide,if_false];intro h;rw [bz h0.symm];exact o h
   ·simp only [show ¬ (3=1) by decide,if_false];intro h;rw [bz h4.symm];exact r h
   ·simp only [show ¬ (3=2) by decide,if_false];intro h;rw [bz h5.symm];exact x h
   ·rw [kx (S _ b3),hv]
   ·simp only [show ¬ (3=4) by decide,show ¬ (3=6) by decide,if_false];intro h g;rw [bz h9];exact C h g
   ·simp only [show ¬ (3=5) by decide,show ¬ (3=6) by decide,if_false];intro h g;rw [bz i0];exact E h g
  ·have u:=I (by decide);have R:c.getD 5 false=false:=by
    cases f:c.getD 5 false with
    | false=>rfl
    | true=>have:=hcl 5 4 O f;rw [M] at this;cases this
   obtain⟨b,o,r,x,z,C,E⟩:=hI;simp only [u,M,B3,if_false] at b X;have e0:a.eval (.tmp d0)=.map (some<|e.β i):=o<|G g4;have e1:a.eval (.tmp d1)=key.val:=r<|G g5;obtain⟨Z,a0,a3,s,U,a1,e9,n6,n7,o0,o1⟩:=sP T X W;rw [hn] at a1;have V:=b.YL hH a1 e9 (ry _ _ _ i1)<|FB i2 W e6;have o2:=b.toHeap.lt (e.β i)<|List.mem_filterMap.2 ⟨_,Hp.mem_of hH,rfl⟩;have a2:Bs { w with heap:=w.heap.setIfInBounds (e.β i) (.map Z a0) } (e.β i) key s:=⟨Z,a0,n6,by simp [o2],n7,o0,o1⟩
   refine uz (v:=.tuple #[a3,.int .i64 s]) (w':={ w with heap:=w.heap.setIfInBounds (e.β i) (.map Z a0) }) (by rw [F];rfl) rfl ?_ ⟨N,⟨?_,?_,?_,?_,?_,λ_ _=>⟨a3,s,kx (S _ b4),a2⟩,?_⟩⟩
   ·simp only [execOp,e0,e1,Sem.run_bind,Sem.run_pure,U,Result.andThen_ok]
   ·simp only [u,show ¬ (4=6) by decide,B3,if_false,if_true];exact V.V1 b4 j4
   ·simp only [show ¬ (4=0) by decide,if_false];intro h;rw [bz l0.symm];exact o h
   ·simp only [show ¬ (4=1) by decide,if_false];intro h;rw [bz l2.symm];exact r h
   ·simp only [show ¬ (4=2) by decide,if_false];intro h;rw [bz h7.symm];exact x h
   ·simp only [show ¬ (4=3) by decide,if_false];intro h;rw [bz h9.symm];exact z h
   ·simp only [show ¬ (4=5) by decide,if_false,R];intro h;cases h
  ·have u:=I (by decide);obtain⟨b,o,r,x,z,C,E⟩:=hI;obtain⟨a3,s,e4,a2⟩:=C (G O) u;have o3:a.eval (.tmp d4)=.tuple #[a3,.int .i64 s]:=e4;refine uz (v:=.int .i64 s) (w':=w) (by rw [F];rfl) rfl ?_ ⟨N,⟨?_,?_,?_,?_,?_,?_,λ_ _=>⟨s,kx (S _ b5),a2⟩⟩⟩
   ·simp [execOp,o3,Instr.extract]
   ·simp only [show ¬ (5=6) by decide,show ¬ (5=4) by decide,if_false];exact b.V1 b5 j5
   ·simp only [show ¬ (5=0) by decide,if_false];intro h;rw [bz l1.symm];exact o h
   ·simp only [show ¬ (5=1) by decide,if_false];intro h;rw [bz l3.symm];exact r h
   ·simp only [show ¬ (5=2) by decide,if_false];intro h;rw [bz h8.symm];exact x h
   ·simp only [show ¬ (5=3) by decide,if_false];intro h;rw [bz i0.symm];exact z h
   ·simp only [show ¬ (5=4) by decide,show ¬ (5=6) by decide,if_false];intro h g;rw [bz l4.symm];exact C h g
  ·have c3:=G g6;have R:=G g7;have A:=hcl 5 4 O R;have c2:=hcl 3 2 b6 c3;have c0:=hcl 2 0 a9 c2;obtain⟨b,o,r,x,z,C,E⟩:=hI;simp only [M,A,B3,if_false,if_true] at b X;have e0:a.eval (.tmp d0)=.map (some<|e.β i):=o c0;have e3:a.eval (.tmp d3)=.int .i64 (n+1):=z c3;obtain⟨s,e5,a2⟩:=E R M;have o4:a.eval (.tmp d5)=.int .i64 s:=e5;obtain⟨Z,a0,U,a1,e9⟩:=fN (t:=t) (m:=n+1) X a2;rw [Bw] at a1;have V:=b.YL i3 a1 e9 (ry _ _ _ i1)<|FB i2 W m1;rw [m3] at V;refine VM (w':={ w with heap:=w.heap.setIfInBounds (e.β i) (.map Z a0) }) (by rw [F];rfl) rfl ?_ ⟨N,⟨?_,?_,?_,?_,?_,?_,?_⟩⟩
   ·simp only [execOp,e0,e3,o4,Sem.run_bind,Sem.run_pure];rw [U];rfl
   ·simp only [if_true];exact V
   ·simp only [show ¬ (6=0) by decide,if_false];exact o
   ·simp only [show ¬ (6=1) by decide,if_false];exact r
   ·simp only [show ¬ (6=2) by decide,if_false];exact x
   ·simp only [show ¬ (6=3) by decide,if_false];exact z
   ·simp only [if_true];intro _ h;cases h
   ·simp only [if_true];intro _ h;cases h
 ·rintro c a w hs ⟨hcl,hI⟩ Y;have q0:=qB hs k1 Y;have I:=q0 6 (by omega);have:=hI.m
  rw [if_pos I] at this;exact .inl ⟨_,_,_,e,this,rfl,hQ⟩
end
def eW (m:List (MK×Int)) (i:Z1):List (MK×Int):=bw m (kf i)<|(K2 m<|kf i).getD 0+1
def Y7 (m:List (MK×Int)) (l:List Z1):Prop:=∀ i:Z1,(K2 m<|kf i).getD 0=((l.countP λj=>j.same i:Nat):Int)
def Y7.nil:Y7 [] []:=λ_=>rfl
def Y7.inc {m:List (MK×Int)} {l:List Z1} (h:Y7 m l) (i:Z1):Y7 (eW m i) (l++[i]):=λj=>by
 unfold eW
 rw [s6,RG,List.countP_append,List.countP_cons,List.countP_nil]
 have b:=h i
 have c:=h j
 cases a:i.same j with
 | true =>
  have:=X3.1 a
  subst this
  simp only [if_true,Cm]
  omega
 | false =>
  simp only [B3,if_false]
  omega
def Y7.le {m:List (MK×Int)} {l:List Z1} (h:Y7 m l) (i:Z1):0<=(K2 m (kf i)).getD 0/\(K2 m (kf i)).getD 0<=l.length:=by
 rw [h i];have:l.countP (λj=>j.same i)<=l.length:=List.countP_le_length
 omega
def Y7.zero {m:List (MK×Int)} {l:List Z1} (h:Y7 m l) (i:Z1):(K2 m (kf i)).getD 0=0↔(l.any λj=>j.same i)=false:=by
 rw [h i];constructor
 ·intro b;have:l.countP (λj=>j.same i)=0:=by omega
  exact List.any_eq_false.2 λx a=>List.countP_eq_zero.1 this x a
 ·intro b;have:l.countP (λj=>j.same i)=0:=List.countP_eq_zero.2 λx a=>List.any_eq_false.1 b x a
  omega
def u5 (I0 l:List X0):List X0:=l.filter λu=>!((I0.flatMap X0.P0).any λj=>j.same u.id)
abbrev Ts (I0:List X0):List X0:=u5 I0 I0
attribute [local irreducible] DW DS DL DQ Ev X1 I3 du bl DT
def YE (r:X2) (F:r.I0.length<=100000) (G:(r.I0.flatMap X0.P0).length<=100000):Fn 60 [df r] (λw=>w=.d (.own Y0.B (.slice 2 (((Ts r.I0).map X0.id).map ay)))):=by
 refine J2 func60 ?_;intro O I J K;have M:(r.I0.map ak).length=r.I0.length:=Aa _;refine zS ?_;refine Rm false rfl rfl ?_;refine zS ?_;refine ae (ι:=Nat×List (MK×Int)) (λx=>⟨2,[(1,.loc 0 0),(3,.mp 1),(13,.s 5<|r.I0.map ak),(14,.i (r.I0.map ak).length),(15,.i x.1)],
   [(0,.M1 29 [.s 5 (r.I0.map ak),.s 5<|r.K0.map ak]),(1,.map false x.2)]⟩)
  (λx=>x.1<=r.I0.length/\Y7 x.2 ((r.I0.take x.1).flatMap X0.P0)) (λx=>r.I0.length-x.1) (0,[]) ⟨Ai _,.nil⟩ (er id) ?_
 rintro⟨p,m⟩ ⟨z,f⟩;dsimp only at z f ⊢;by_cases a:p<r.I0.length
 ·have N:(r.I0[p].P0.map ay).length=r.I0[p].P0.length:=Aa _;have P:((r.I0.take p).flatMap X0.P0).length+r.I0[p].P0.length<=(r.I0.flatMap X0.P0).length:=by
   have e:r.I0.flatMap X0.P0=(r.I0.take p).flatMap X0.P0++(r.I0[p].P0++(r.I0.drop<|p+1).flatMap X0.P0):=by
    conv=>lhs;rw [<- Dl p r.I0,An a,Dj,C6]
   rw [e,Ag,Ag];omega
  repeat' (first|refine zs ?_|(refine zm ?_ ?_<;>intro b)|omega)
  refine ae (ι:=Nat×List (MK×Int)) (λx=>⟨2,[(1,.loc 0 0),(3,.mp 1),(13,.s 5<|r.I0.map ak),(14,.i (r.I0.map ak).length),(15,.i p),(20,.s 2<|r.I0[p].P0.map ay),(21,.i (r.I0[p].P0.map ay).length),(22,.i x.1)],
    [(0,.M1 29 [.s 5 (r.I0.map ak),.s 5<|r.K0.map ak]),(1,.map false x.2)]⟩)
   (λx=>x.1<=r.I0[p].P0.length/\Y7 x.2 ((r.I0.take p).flatMap X0.P0++r.I0[p].P0.take x.1)) (λx=>r.I0[p].P0.length-x.1) (0,m) ⟨Ai _,by simpa using f⟩ (er id) ?_
  rintro⟨q,m⟩ ⟨A,c⟩;dsimp only at A c ⊢;by_cases n:q<r.I0[p].P0.length
  ·repeat' ((fail_if_success (apply br 8));(first|refine zs ?_|(refine zm ?_ ?_<;>intro b)|fail))
   all_goals try omega
   have C:=c.le r.I0[p].P0[q];rw [Ag,Ap] at C;have o:=c.inc r.I0[p].P0[q];rw [Bm,<- Am n] at o;refine HT rfl (by kernel_rfl) (by kernel_rfl) rfl (by kernel_rfl) rfl rfl rfl rfl rfl rfl rfl rfl ul rfl rfl (vz rfl trivial rfl) rfl rfl (λQ=>xT rfl rfl ⟨?_,?_⟩) ?_
   ·show _<=(K2 m<|kf r.I0[p].P0[q]).getD 0+1;omega
   ·show (K2 m<|kf r.I0[p].P0[q]).getD 0+1<=_;omega
   refine zS ?_;exact⟨(q+1,eW m r.I0[p].P0[q]),⟨n,o⟩,er id,by show _-(q+1)<_-q;omega⟩
  ·repeat' (first|refine zs ?_|(refine zm ?_ ?_<;>intro b)|omega)
   refine⟨(p+1,m),⟨a,?_⟩,er id,by show _-(p+1)<_-p;omega⟩
   have E:r.I0[p].P0.take q=r.I0[p].P0:=Aj (by omega);rw [E] at c;rw [Am a,Dj];simpa using c
 ·repeat' (first|refine zs ?_|(refine zm ?_ ?_<;>intro b)|omega)
  rw [Aj<|by omega] at f;refine ag (ce (t:=8) 31 2 rfl) ?_;refine ae (ι:=Nat) (λi=>⟨2,[(3,.mp 0),(8,.row 1),(35,.s 5<|r.I0.map ak),(36,.i (r.I0.map ak).length),(37,.i i)],
    [(0,.map false m),(1,.row 31 2<|((u5 r.I0<|r.I0.take i).map X0.id).map ay)]⟩)
   (λi=>i<=r.I0.length) (λi=>r.I0.length-i) 0 (Ai _) (er<|λj=>match j with|0=>1|1=>2|j=>j) ?_
  intro i R;have lo:(((u5 r.I0<|r.I0.take i).map X0.id).map ay).length<=i:=by
   rw [Aa,Aa];have:=List.length_filter_le (λu:X0=>!((r.I0.flatMap X0.P0).any λj=>j.same u.id))<|r.I0.take i
   rw [Ap] at this;unfold u5;omega
  by_cases a:i<r.I0.length
  ·repeat' (first|refine zs ?_|(refine zm ?_ ?_<;>intro b)|omega)
   refine wg (kd:=false) (kvs:=m) (key:=kf r.I0[i].id) ul rfl rfl rfl rfl rfl rfl ?_;have v:=f.zero r.I0[i].id;have g:u5 r.I0 (r.I0.take<|i+1)=u5 r.I0 (r.I0.take i)++u5 r.I0 [r.I0[i]]:=by unfold u5;rw [Am a,Cf]
   repeat' (first|refine zs ?_|(refine zm ?_ ?_<;>intro b)|fail)
   ·have l:u5 r.I0 [r.I0[i]]=[r.I0[i]]:=by unfold u5;rw [B7,v.1<|by assumption];rfl
    rw [l] at g;refine v8 rfl ⟨by rw [A0];omega,by unfold maxLen;rw [A0];omega⟩ rfl rfl rfl rfl ?_;refine zS ?_;exact⟨i+1,a,er (λj=>match j with|1=>3|j=>j) (hH:=⟨rfl,by rw [g,Au,Au];rfl,trivial⟩),by omega⟩
   ·have l:u5 r.I0 [r.I0[i]]=[]:=by
     unfold u5;rw [B7,if_neg,Ik];intro h;rw [D7] at h;exact absurd (v.2 h)<|by assumption
    rw [l,Bn] at g;exact⟨i+1,a,er id (hH:=⟨rfl,by rw [g];rfl,trivial⟩),by omega⟩
  ·rw [Aj<|by omega];repeat' (first|refine zs ?_|(refine zm ?_ ?_<;>intro b)|omega)
   refine ag (ka 2 (bm LL _) rfl rfl rfl) ?_;repeat' (apply cr)
   exact⟨.inl rfl,_,rfl,rfl,rfl⟩
def gL (r:X2) (a:r.I0.length<=100000) (b:(r.I0.flatMap X0.P0).length<=100000):Fn 60 [df r] (λc=>c=.s 2 (((Ts r.I0).map X0.id).map ay)):=(YE r a b).Z5
def nb (I0 l:List X0):List X0:=l.filter λu=>!((I0.flatMap X0.V0).any λj=>j.same u.id)
abbrev Ga (I0:List X0):List X0:=nb I0 I0
def cR {l b:List X0} (h:l.Sublist b):(l.flatMap X0.F1).length<=(b.flatMap X0.F1).length:=by
 induction h with
 | slnil=>exact Af _
 | cons a _ ih=>rw [C6,Ag];omega
 | cons_cons a _ ih=>rw [C6,C6,Ag,Ag];omega
def X8 (I0:List X0) (i:Nat):((nb I0 (I0.take i)).flatMap X0.F1).length<=(I0.flatMap X0.F1).length:=
 cR (List.filter_sublist.trans<|List.take_sublist i I0)
def HF (r:X2) (N:r.I0.length<=100000) (P:(r.I0.flatMap X0.V0).length<=100000) (Q:(r.I0.flatMap X0.F1).length<=100000) (E:∀ u∈r.I0,∀ f∈u.F1,f.args.length<=1000000):Fn 62 [df r] (λF=>F=.d (.own Y0.B (.slice 2 ((bg ((Ga r.I0).flatMap X0.F1)).map aa)))):=by
 refine J2 func62 ?_;intro O R S T;have U:(r.I0.map ak).length=r.I0.length:=Aa _;refine zS ?_;refine Rm false rfl rfl ?_;refine zS ?_;refine ae (ι:=Nat×List (MK×Int)) (λx=>⟨2,[(1,.loc 0 0),(3,.mp 1),(13,.s 5<|r.I0.map ak),(14,.i (r.I0.map ak).length),(15,.i x.1)],
   [(0,.M1 29 [.s 5 (r.I0.map ak),.s 5<|r.K0.map ak]),(1,.map false x.2)]⟩)
  (λx=>x.1<=r.I0.length/\Y7 x.2 ((r.I0.take x.1).flatMap X0.V0)) (λx=>r.I0.length-x.1) (0,[]) ⟨Ai _,.nil⟩ (er id) ?_
 rintro⟨p,m⟩ ⟨G,l⟩;dsimp only at G l ⊢;by_cases a:p<r.I0.length
 ·have V:(r.I0[p].V0.map ay).length=r.I0[p].V0.length:=Aa _;have W:((r.I0.take p).flatMap X0.V0).length+r.I0[p].V0.length<=(r.I0.flatMap X0.V0).length:=by
   have e:r.I0.flatMap X0.V0=(r.I0.take p).flatMap X0.V0++(r.I0[p].V0++(r.I0.drop<|p+1).flatMap X0.V0):=by
    conv=>lhs;rw [<- Dl p r.I0,An a,Dj,C6]
   rw [e,Ag,Ag];omega
  repeat' (first|refine zs ?_|(refine zm ?_ ?_<;>intro b)|omega)
  refine ae (ι:=Nat×List (MK×Int)) (λx=>⟨2,[(1,.loc 0 0),(3,.mp 1),(13,.s 5<|r.I0.map ak),(14,.i (r.I0.map ak).length),(15,.i p),(20,.s 2<|r.I0[p].V0.map ay),(21,.i (r.I0[p].V0.map ay).length),(22,.i x.1)],
    [(0,.M1 29 [.s 5 (r.I0.map ak),.s 5<|r.K0.map ak]),(1,.map false x.2)]⟩)
   (λx=>x.1<=r.I0[p].V0.length/\Y7 x.2 ((r.I0.take p).flatMap X0.V0++r.I0[p].V0.take x.1)) (λx=>r.I0[p].V0.length-x.1) (0,m) ⟨Ai _,by simpa using l⟩ (er id) ?_
  rintro⟨q,m⟩ ⟨I,g⟩;dsimp only at I g ⊢;by_cases v:q<r.I0[p].V0.length
  ·repeat' ((fail_if_success (apply br 8));(first|refine zs ?_|(refine zm ?_ ?_<;>intro b)|fail))
   all_goals try omega
   have J:=g.le r.I0[p].V0[q];rw [Ag,Ap] at J;have z:=g.inc r.I0[p].V0[q];rw [Bm,<- Am v] at z;refine HT rfl (by kernel_rfl) (by kernel_rfl) rfl (by kernel_rfl) rfl rfl rfl rfl rfl rfl rfl rfl ul rfl rfl (vz rfl trivial rfl) rfl rfl (λX=>xT rfl rfl ⟨?_,?_⟩) ?_
   ·show _<=(K2 m<|kf r.I0[p].V0[q]).getD 0+1;omega
   ·show (K2 m<|kf r.I0[p].V0[q]).getD 0+1<=_;omega
   refine zS ?_;exact⟨(q+1,eW m r.I0[p].V0[q]),⟨v,z⟩,er id,by show _-(q+1)<_-q;omega⟩
  ·repeat' (first|refine zs ?_|(refine zm ?_ ?_<;>intro b)|omega)
   refine⟨(p+1,m),⟨a,?_⟩,er id,by show _-(p+1)<_-p;omega⟩
   have K:r.I0[p].V0.take q=r.I0[p].V0:=Aj (by omega);rw [K] at g;rw [Am a,Dj];simpa using g
 ·repeat' (first|refine zs ?_|(refine zm ?_ ?_<;>intro b)|omega)
  rw [Aj<|by omega] at l;refine ag (ce (t:=8) 95 2 rfl) ?_;refine ae (ι:=Nat) (λi=>⟨2,[(3,.mp 0),(8,.row 1),(35,.s 5<|r.I0.map ak),(36,.i (r.I0.map ak).length),(37,.i i)],
    [(0,.map false m),(1,.row 95 2<|((nb r.I0<|r.I0.take i).flatMap X0.F1).map aa)]⟩)
   (λi=>i<=r.I0.length) (λi=>r.I0.length-i) 0 (Ai _) (er<|λj=>match j with|0=>1|1=>2|j=>j) ?_
  intro i Y;by_cases a:i<r.I0.length
  ·have lo:=X8 r.I0<|i+1;have A:(r.I0[i].F1.map aa).length=r.I0[i].F1.length:=Aa _;repeat' (first|refine zs ?_|(refine zm ?_ ?_<;>intro b)|omega)
   refine wg (kd:=false) (kvs:=m) (key:=kf r.I0[i].id) ul rfl rfl rfl rfl rfl rfl ?_;have C:=l.zero r.I0[i].id;have n:nb r.I0 (r.I0.take<|i+1)=nb r.I0 (r.I0.take i)++nb r.I0 [r.I0[i]]:=by unfold nb;rw [Am a,Cf]
   repeat' (first|refine zs ?_|(refine zm ?_ ?_<;>intro b)|fail)
   ·have o:nb r.I0 [r.I0[i]]=[r.I0[i]]:=by unfold nb;rw [B7,C.1<|by assumption];rfl
    rw [o] at n;have c:(nb r.I0<|r.I0.take<|i+1).flatMap X0.F1=(nb r.I0<|r.I0.take i).flatMap X0.F1++r.I0[i].F1:=by rw [n,Dj];simp
    rw [c,Ag] at lo;refine v8 rfl ⟨by rw [Aa,A];omega,by unfold maxLen;rw [Aa,A];omega⟩ rfl rfl rfl rfl ?_;refine zS ?_;exact⟨i+1,a,er (λj=>match j with|1=>3|j=>j) (hH:=⟨rfl,by rw [c,Au];rfl,trivial⟩),by omega⟩
   ·have o:nb r.I0 [r.I0[i]]=[]:=by
     unfold nb;rw [B7,if_neg,Ik];intro h;rw [D7] at h;exact absurd (C.2 h)<|by assumption
    rw [o,Bn] at n;exact⟨i+1,a,er id (hH:=⟨rfl,by rw [n];rfl,trivial⟩),by omega⟩
  ·rw [Aj<|by omega];have w:=Tb ((nb r.I0 r.I0).flatMap X0.F1) (by have:=X8 r.I0 r.I0.length;rw [Aj<|Af _] at this;omega) (λf c=>by
    obtain⟨u,M,c⟩:=List.mem_flatMap.1 c;have:=E u (List.mem_filter.1 M).1 f c
    omega)
   refine ag (ck 8 rfl rfl rfl) ?_;repeat' (first|refine zr ?_|refine z21 ?_ w|(refine zm ?_ ?_<;>intro b)|omega)
   exact⟨.inl rfl,_,rfl,rfl,rfl⟩
def rc {α:Type} (f:X0->List α) (n:Nat):∀ (l:List X0),(∀ u∈l,(f u).length<=n)->(l.flatMap f).length<=l.length*n
 | [],_=>Ai _
 | u::l,h=>by
  rw [C6,Ag,Ba,Nat.add_mul,Nat.one_mul]
  have b:=h u (List.mem_cons_self ..)
  have c:=rc f n l λv a=>h v<|List.mem_cons_of_mem _ a
  omega
def Jg (r:X2) (h1:r.I0.length<=4398046511104) (c:r.K0.length<=4398046511104):Fn 19 [df r] (λe=>e=if bq r=0 then .M2 [.d (.own Y0.B (.slice 2 (((Ts r.I0).map X0.id).map ay))),.i 0] else .M2 [.d (.own Y0.B (.slice 2 [])),.i (bq r)]):=by
 refine J2 func19 ?_;intro O j l m;have b:=qr r h1 c;by_cases a:bq r=0
 ·obtain⟨n,f,o⟩:=m7 a;have p:=rc X0.P0 6 r.I0 λu g=>(ii<|f u<|Ax _ g).1
  have h:=YE r (by omega) (by omega);rw [if_pos a];rw [a] at b;repeat' (first|refine zr ?_|refine z21 ?_ b|refine z21 ?_ h|omega)
  exact⟨.inl rfl,_,rfl,rfl,rfl⟩
 ·rw [if_neg a];repeat' (first|refine zs ?_|refine z21 ?_ b|(refine zm ?_ ?_<;>intro q)|omega)
  refine ag (ea 2 2 rfl) ?_;refine zR ?_;exact⟨.inl rfl,_,rfl,rfl,rfl⟩
def Kg (r:X2) (h1:r.I0.length<=4398046511104) (h:r.K0.length<=4398046511104):Fn 18 [df r] (λj=>j=if bq r=0 then .M2 [.d (.own Y0.B (.slice 2 ((bg ((Ga r.I0).flatMap X0.F1)).map aa))),.i 0] else .M2 [.d (.own Y0.B (.slice 2 [])),.i (bq r)]):=by
 refine J2 func18 ?_;intro O m n o;have c:=qr r h1 h;by_cases b:bq r=0
 ·obtain⟨p,e,q⟩:=m7 b;have g:=rc X0.V0 6 r.I0 λu a=>(ii<|e u<|Ax _ a).2.2
  have s:=rc X0.F1 6 r.I0 λu a=>(ii<|e u<|Ax _ a).2.1
  have l:=HF r (by omega) (by omega) (by omega)<|λu a f g=>(im<|e u<|Ax _ a).args f g;rw [if_pos b];rw [b] at c;repeat' (first|refine zr ?_|refine z21 ?_ c|refine z21 ?_ l|omega)
  exact⟨.inl rfl,_,rfl,rfl,rfl⟩
 ·rw [if_neg b];repeat' (first|refine zs ?_|refine z21 ?_ c|(refine zm ?_ ?_<;>intro v)|omega)
  refine ag (ea 2 2 rfl) ?_;refine zR ?_;exact⟨.inl rfl,_,rfl,rfl,rfl⟩
def MP (r:X2) (h1:r.I0.length<=4398046511104) (b:r.K0.length<=4398046511104):Fn 19 [df r] (λc=>c=if bq r=0 then .M2 [.s 2 (((Ts r.I0).map X0.id).map ay),.i 0] else .M2 [.s 2 [],.i (bq r)]):=by
 have h:=Jg r h1 b;by_cases a:bq r=0
 ·rw [if_pos a] at h ⊢;exact h.Z5
 ·rw [if_neg a] at h ⊢;exact h.Z5
def NP (r:X2) (h1:r.I0.length<=4398046511104) (b:r.K0.length<=4398046511104):Fn 18 [df r] (λc=>c=if bq r=0 then .M2 [.s 2 ((bg ((Ga r.I0).flatMap X0.F1)).map aa),.i 0] else .M2 [.s 2 [],.i (bq r)]):=by
 have h:=Kg r h1 b;by_cases a:bq r=0
 ·rw [if_pos a] at h ⊢;exact h.Z5
 ·rw [if_neg a] at h ⊢;exact h.Z5
def WI {f:U0} (h:L5 f.N0 0 9=false):J5 f=false:=by unfold J5;rw [h];rfl
def XI {f:U0} (h:¬ f.args.length<=3):J5 f=false:=by unfold J5;rw [decide_eq_false h,Bool.false_and,Bool.and_false]
def zN {f:U0} (h1:L5 f.N0 0 9=true) (a:f.args.length<=3):J5 f=f.args.all Q3:=by unfold J5;rw [h1,decide_eq_true a,Do,Do]
def Wy (u:X0):Fn 28 [fg u] (λr=>r=.i (cp u)):=by
 refine J2 func28 ?_;intro O S T U;have c:=uC u.P0;have d:=uC u.V0;have e:=Vw u.P0;have g:=Vw u.V0;have l:=ZG u.P0 ⟨u.id.J1,u.id.L1-1⟩;have a:=kM u.id;have A:=λh=>(vv (i:=u.id) h).2.2.2
 have B:=λh=>(vv (i:=u.id) h).2.2.1
 generalize n:cp u=K;unfold cp at n;generalize Zo u.id=w at *;have M:w=false∨(w=true/\1<=u.id.L1/\u.id.L1<=200):=by
  cases w with
  | false=>exact .inl rfl
  | true=>exact .inr ⟨rfl,B rfl,A rfl⟩
 clear A B;rcases M with rfl|⟨rfl,V,W⟩
 ·repeat' (first|refine zr ?_|refine z21 ?_ a|fail)
  all_goals exact bh rfl<|by simpa using n
 generalize (u.P0.all λx=>Zo x)=X at *;generalize (u.V0.all λx=>Zo x)=Y at *;generalize dl b9 u.P0=Z at *;generalize dl b9 u.V0=b4 at *;generalize (u.P0.any λx=>x.same ⟨u.id.J1,u.id.L1-1⟩)=b5 at *;repeat' (first|refine zr ?_|refine z21 ?_ a|refine z21 ?_ c|refine z21 ?_ d|refine z21 ?_ e|refine z21 ?_ g|refine z21 ?_ l|(refine zm ?_ ?_<;>intro N)|fail)
 all_goals first
  | (refine bh rfl ?_
     clear c d e g l a;first|(simp_all;done)|(simp_all;omega)|(simp_all;intros;omega))
  | skip
 all_goals
  have b:K=if u.F1.all J5=false then 3 else if dl dg u.F1=false then 4 else 0:=by
   clear c d e g l a;have l1:(u.P0.map ay).length=u.P0.length:=Aa _;have l2:(u.F1.map aa).length=u.F1.length:=Aa _;have l3:(u.V0.map ay).length=u.V0.length:=Aa _;rw [<- n,if_neg (by simp),if_neg (by omega),if_neg (by simp_all),if_neg (by simp_all),if_neg<|by first|(simp_all;done)|(simp_all;omega)]
  clear n c d e g l a;refine pE 0 3 rfl rfl λo=>?_
  have ls:(u.F1.map aa).length=u.F1.length:=Aa _;refine ae (ι:=Nat) (λi=>⟨1,[(1,.loc 0 0),(3,.i i)],[(0,.M1 35 [.i u.id.J1,.i u.id.L1,.s 2 (u.P0.map ay),.s 2 (u.F1.map aa),.s 2<|u.V0.map ay])]⟩)
   (λi=>i<=u.F1.length/\u.F1.all J5=(u.F1.drop i).all J5) (λi=>u.F1.length-i) 0 ⟨Ai _,rfl⟩
   (er id) ?_
  rintro i ⟨g1,g2⟩;refine zS ?_;refine a6 rfl (λh=>?_)<|λh=>?_
  ·have C:i<u.F1.length:=by omega
   have q:=Vz (p:=J5) C;generalize P:u.F1[i]=f at q;refine zS ?_;rw [P];repeat' (first|refine zr ?_|refine z31 ?_ (hc:=by apply uf)|(refine zm ?_ ?_<;>intro N)|fail)
   all_goals first
    | (refine bh rfl ?_
       have E:(f.args.map aq).length=f.args.length:=Aa _;have v:J5 f=false:=by
        first
         | (apply XI;omega)
         | (apply WI;simp_all;done)
       rw [b,g2,q,v];rfl)
    | skip
   have v:J5 f=f.args.all Q3:=zN (by simp_all) (by have E:(f.args.map aq).length=f.args.length:=Aa _;omega);refine ae (ι:=Nat) (λk=>⟨2,[(1,.loc 0 0),(3,.i i),(4,.loc 1 0),(5,.i k)],[(0,.M1 35 [.i u.id.J1,.i u.id.L1,.s 2 (u.P0.map ay),.s 2 (u.F1.map aa),.s 2<|u.V0.map ay]),(1,.M1 95 [.i f.N0,.s 1<|f.args.map aq])]⟩)
    (λk=>k<=f.args.length/\f.args.all Q3=(f.args.drop k).all Q3) (λk=>f.args.length-k) 0 ⟨Ai _,rfl⟩
    (er id) ?_
   rintro k ⟨q1,q2⟩;have E:(f.args.map aq).length=f.args.length:=Aa _;refine zS ?_;refine a6 rfl (λQ=>?_)<|λQ=>?_
   ·have F:k<f.args.length:=by omega
    have G:=Vz (p:=Q3) F;repeat' (first|refine zs ?_|refine z31 ?_ (hc:=by apply TG)|fail)
    refine ee rfl (λz=>?_)<|λz=>?_
    ·refine zR ?_;refine bh rfl ?_;have:Q3 f.args[k]=false:=by simpa using z
     rw [b,g2,q,v,q2,G,this];rfl
    ·refine zS ?_;have:Q3 f.args[k]=true:=by simpa using z
     exact⟨k+1,⟨F,by rw [q2,G,this];rfl⟩,er id,by omega⟩
   ·refine zS ?_;exact⟨i+1,⟨C,by rw [g2,q,v,q2,DE<|by omega];rfl⟩,er id,by omega⟩
  ·have R:u.F1.all J5=true:=by rw [g2,DE<|by omega]
   rw [R,if_neg<|by simp] at b;refine zS ?_;refine ae (ι:=Nat) (λi=>⟨1,[(1,.loc 0 0),(6,.i<|(i:Int)+1)],[(0,.M1 35 [.i u.id.J1,.i u.id.L1,.s 2 (u.P0.map ay),.s 2 (u.F1.map aa),.s 2<|u.V0.map ay])]⟩)
    (λi=>i<=u.F1.length/\dl dg u.F1=dl dg (u.F1.drop i)) (λi=>u.F1.length-i) 0 ⟨Ai _,rfl⟩
    (er id) ?_
   rintro j ⟨j1,j2⟩;refine zS ?_;refine a6 rfl (λh=>?_)<|λh=>?_
   ·have I:j+1<u.F1.length:=by omega
    have e0:∀ (m:Nat) (J:m<u.F1.length),m=j->u.F1[m]'J=u.F1[j]'(by omega):=by rintro m J rfl;rfl
    repeat' (first|refine zs ?_|refine z32 ?_ (hc:=by apply xw)|fail)
    refine a6 rfl (λo=>?_)<|λo=>?_
    ·refine zR ?_;rw [e0 _ _<|by omega] at o;exact bh rfl<|by rw [b,j2,vh I<|by omega];rfl
    ·refine zS ?_;rw [e0 _ _<|by omega] at o;exact⟨j+1,⟨by omega,by rw [j2,K9 I<|by omega]⟩,er id,by omega⟩
   ·refine zR ?_;exact bh rfl<|by rw [b,j2,vg<|by omega];rfl
abbrev sQ (f:FuncId) (args:List SV) (J k:Nat) (H:Hp) (R:Nat->SV->Hp->Prop):Prop:=X1 false prog U5 bt f args J k H R
def nE (b:UInt8):List D:=[.int .u8 (b.toNat:Int)]
abbrev Xj (bs:List UInt8) (r:Hp):Hp:=(0,.M1 119 [.row 1])::(1,.row 5 1 (bs.map nE))::r
abbrev tI (bs:List UInt8):Hp:=Xj bs []
def wQ (bs:List UInt8) (b:UInt8):tI (bs++[b])=[(0,.M1 119 [.row 1]),(1,.row 5 1 (bs.map nE++[nE b]))]:=by simp [tI,Xj]
def uP (v:Nat):[D.int .u8 (IntKind.u8.wrap (v:Int))]=nE (UInt8.ofNat v):=by simp [nE,IntKind.wrap_u8]
def N' (v:Nat):ZC .u32 (v:Int) 8=((v/256:Nat):Int):=by unfold ZC;rw [Int.fdiv_eq_ediv_of_nonneg _<|by decide];rfl
def wrap32 (n:Int):IntKind.u32.wrap n=(((n%4294967296).toNat:Nat):Int):=by rw [IntKind.wrap_u32];omega
def Jf (bs:List UInt8) (n:Int) (k:Nat) (hb:bs.length<=1000000) (q:k<=4):sQ 65 [.loc 0 0,.i n,.i k] 1 2 (tI bs) (λe r f=>e=2/\r=.M2 []/\f=tI (bs++put n k)):=by
 refine pT func65 ?_;intro O s u w;unfold put;refine zS ?_;rw [wrap32];generalize (n%4294967296).toNat=c;refine ae (ι:=Nat×Nat×List UInt8) (λx=>⟨2,[(0,.loc 0 0),(6,.d<|.int .u32 x.2.1),(9,.i k),(10,.i x.1)],tI x.2.2⟩)
  (λx=>x.1<=k/\x.2.2.length=bs.length+x.1/\bs++Lq c k=x.2.2++Lq x.2.1 (k-x.1)) (λx=>k-x.1) (0,c,bs) ⟨Ai _,rfl,rfl⟩
  (er id) ?_
 rintro⟨j,v,a⟩ ⟨g,l,b⟩;dsimp only at g l b ⊢;have z:(a.map nE).length=a.length:=Aa _;refine zS ?_;refine a6 rfl (λh=>?_)<|λh=>?_
 ·have m:j<k:=by omega
  refine zS ?_;refine⟨(j+1,v/256,a++[UInt8.ofNat v]),⟨m,?_,?_⟩,?_,?_⟩
  ·simp;omega
  ·dsimp only;rw [b,show k-j=(k-(j+1))+1 by omega,Lq];simp
  ·dsimp only;rw [N',uP,wQ];exact er<|λi=>match i with|0=>0|_=>2
  ·show k-(j+1)<k-j;omega
 ·refine zS ?_;have o:j=k:=by omega
  subst o;rw [Nat.sub_self] at b;have p:bs++Lq c j=a:=by rw [b];simp [Lq]
  exact⟨.inr rfl,_,rfl,2,tI a,⟨rfl,rfl,trivial⟩,rfl,rfl,rfl,rfl,rfl,rfl,by rw [p]⟩
def XF (bs:List UInt8) (i:Z1) (hb:bs.length<=999000):sQ 63 [.loc 0 0,o5 i] 1 2 (tI bs) (λa r b=>a=2/\r=.M2 []/\b=tI (bs++kg i)):=by
 refine pT func63 ?_;intro O d e f;refine zS ?_;have g:(put i.J1 1).length=1:=pc 1 _;have c:(bs++put i.J1 1).length<=1000000:=by rw [Ag];omega
 (refine aw id (Jf bs i.J1 1 (by omega)<|by omega) rfl rfl rfl rfl ⟨rfl,rfl,trivial⟩ rfl rfl rfl rfl rfl rfl ?_ ?_)
 ·rintro a r b ⟨rfl,rfl,rfl⟩;exact⟨rfl,rfl⟩
 rintro a r b ⟨rfl,rfl,rfl⟩;change DS _ _ _ _ _ _ _ _;refine dm (bk (k':=3) (L':=[(0,.loc 0 0),(3,.loc 2 0)]) (H':=Xj (bs++put i.J1 1) [(2,.M1 31 [.i i.J1,.i i.L1])]) (λj=>match j with|0=>0|1=>4|_=>2) ⟨rfl,rfl,trivial⟩ ⟨rfl,rfl,rfl,trivial⟩ rfl rfl rfl rfl rfl rfl) ?_;refine zS ?_;(refine aw id (Jf (bs++put i.J1 1) i.L1 2 c<|by omega) rfl rfl rfl rfl ⟨rfl,rfl,trivial⟩ rfl rfl rfl rfl rfl rfl ?_ ?_)
 ·rintro a r b ⟨rfl,rfl,rfl⟩;exact⟨rfl,rfl⟩
 rintro a r b ⟨rfl,rfl,rfl⟩;change DS _ _ _ _ _ _ _ _;refine dm (bk (k':=2) (L':=[]) (H':=tI<|bs++put i.J1 1++put i.L1 2) (λj=>match j with|0=>0|_=>4) trivial ⟨rfl,rfl,trivial⟩ rfl rfl rfl rfl rfl rfl) ?_;refine zS ?_;exact⟨.inr rfl,_,rfl,2,tI _,⟨rfl,rfl,trivial⟩,rfl,rfl,rfl,rfl,rfl,rfl,by rw [kg,Bm]⟩
def Ml (i:Z1):(kg i).length=3:=by unfold kg;rw [Ag];rw [show (put i.J1 1).length=1 from pc 1 _,show (put i.L1 2).length=2 from pc 2 _]
def uB (bs:List UInt8) (l:List Z1) (hb:bs.length<=990000) (q:l.length<=100):sQ 64 [.loc 0 0,.s 2 (l.map ay)] 1 2 (tI bs) (λa r b=>a=2/\r=.M2 []/\b=tI (bs++l9 l)):=by
 refine pT func64 ?_;intro O u v w;have e:(l.map ay).length=l.length:=Aa _;refine zS ?_;have f:=Jf bs l.length 1 (by omega) (by omega);rw [<- e] at f;(refine aw id (f) rfl rfl rfl rfl ⟨rfl,rfl,trivial⟩ rfl rfl rfl rfl rfl rfl ?_ ?_)
 ·rintro a r b ⟨rfl,rfl,rfl⟩;exact⟨rfl,rfl⟩
 rintro a r b ⟨rfl,rfl,rfl⟩;rw [e];change DS _ _ _ _ _ _ _ _;refine dm (bk (k':=2) (L':=[(0,.loc 0 0),(1,.s 2<|l.map ay)]) (H':=tI<|bs++put l.length 1) (λj=>match j with|0=>0|_=>3) ⟨rfl,rfl,trivial⟩ ⟨rfl,rfl,trivial⟩ rfl rfl rfl rfl rfl rfl) ?_;refine zS ?_;have m:(put (l.length:Int) 1).length=1:=pc 1 _;refine ae (ι:=Nat×List UInt8) (λx=>⟨2,[(0,.loc 0 0),(10,.s 2<|l.map ay),(11,.i l.length),(12,.i x.1)],tI x.2⟩)
  (λx=>x.1<=l.length/\x.2.length=bs.length+1+3*x.1/\bs++l9 l=x.2++(l.drop x.1).flatMap kg) (λx=>l.length-x.1) (0,bs++put l.length 1) ⟨Ai _,by simp [m],by simp [l9]⟩
  (er id ⟨rfl,rfl,by simp;rfl,rfl,trivial⟩) ?_
 rintro⟨i,c⟩ ⟨n,o,d⟩;dsimp only at n o d ⊢;refine zS ?_;refine a6 rfl (λh=>?_)<|λh=>?_
 ·have g:i<l.length:=by omega
  have p:(l.drop i).flatMap kg=kg l[i]++(l.drop<|i+1).flatMap kg:=by rw [An g,C6]
  refine zS ?_;(refine aw id (XF c l[i]<|by omega) rfl rfl rfl rfl ⟨rfl,rfl,trivial⟩ rfl rfl rfl rfl rfl rfl ?_ ?_)
  ·rintro a r b ⟨rfl,rfl,rfl⟩;exact⟨rfl,rfl⟩
  rintro a r b ⟨rfl,rfl,rfl⟩;change DS _ _ _ _ _ _ _ _;refine dm (bk (k':=2) (L':=[(0,.loc 0 0),(10,.s 2<|l.map ay),(11,.i l.length),(12,.i i)]) (H':=tI<|c++kg l[i]) (λj=>match j with|0=>0|_=>4) ⟨rfl,rfl,rfl,rfl,trivial⟩ ⟨rfl,rfl,trivial⟩ rfl rfl rfl rfl rfl rfl) ?_;refine zS ?_;exact⟨(i+1,c++kg l[i]),⟨g,by rw [Ag,Ml];omega,by rw [d,p,Bm]⟩,er id,by show l.length-(i+1)<l.length-i;omega⟩
 ·refine zS ?_;refine⟨.inr rfl,_,rfl,2,tI c,⟨rfl,rfl,trivial⟩,rfl,rfl,rfl,rfl,rfl,rfl,?_⟩
  rw [d,Ar<|by omega];simp
def Cp:∀ l:List Z1,(l.flatMap kg).length=3*l.length
 | []=>rfl
 | i::l=>by rw [C6,Ag,Ml,Cp l,Ba];omega
def pJ (l:List Z1):(l9 l).length=1+3*l.length:=by unfold l9;rw [Ag,Cp,show (put (l.length:Int) 1).length=1 from pc 1 _]
def rj (l:List UInt8):ByteArray:=⟨l.toArray⟩
def NK (l:List UInt8):pq (l.map nE)=rj l:=by
 unfold pq rj;congr 2;rw [List.map_map];conv=>rhs;rw [<- List.map_id l]
 apply List.map_congr_left;intro b _;simp [OM,nE]
def jI (l:List UInt8):yy (l.map nE):=by intro x a;obtain⟨b,_,rfl⟩:=List.mem_map.1 a;exact⟨_,rfl⟩
def tP (u:X0):ByteArray×Int:=if cp u=0 then (rj (r6 u),0) else (⟨#[]⟩,cp u)
def aC (u:X0):Fn 20 [fg u] (λr=>r=.M2 [.t (tP u).1,.i (tP u).2]):=by
 refine J2 func20 ?_;intro O V W X;repeat' (first|refine zs ?_|refine z31 ?_ (hc:=by apply si)|fail)
 refine a6 rfl (λd=>?_)<|λd=>?_
 ·refine zR ?_;exact vm rfl<|by unfold tP;rw [if_neg d];exact⟨rfl,rfl⟩
 ·have v:cp u=0:=Decidable.not_not.1 d;have g:=Bb v;have Y:(kg u.id).length=3:=Ml _;have J:∀ l:List Z1,(l9 l).length=1+3*l.length:=pJ;have p1:∀ n:Int,(put n 1).length=1:=λn=>pc 1 _
  have p4:∀ n:Int,(put n 4).length=4:=λn=>pc 4 _
  have Z:=g.np;have g2:=g.ns;have g3:=g.nt;have o:(u.F1.map aa).length=u.F1.length:=Aa _;refine zS ?_;refine dm (gh 1 0 5 1 rfl rfl rfl) ?_;refine dm (bk (k':=3) (L':=[(1,.loc 2 0),(5,.loc 0 0),(17,.loc 0 0),(19,o5 u.id)]) (H':=Xj [] [(2,.M1 35 [.i u.id.J1,.i u.id.L1,.s 2 (u.P0.map ay),.s 2 (u.F1.map aa),.s 2<|u.V0.map ay])]) (λj=>match j with|0=>1|1=>2|_=>0) ⟨rfl,rfl,rfl,rfl,trivial⟩ ⟨rfl,rfl,rfl,trivial⟩ rfl rfl rfl rfl rfl rfl) ?_;(refine aw id (XF [] u.id<|by simp) rfl rfl rfl rfl ⟨rfl,rfl,trivial⟩ rfl rfl rfl rfl rfl rfl ?_ ?_)
  ·rintro k2 r H2 ⟨rfl,rfl,rfl⟩;exact⟨rfl,rfl⟩
  rintro k2 r H2 ⟨rfl,rfl,rfl⟩;change DS _ _ _ _ _ _ _ _;refine dm (bk (k':=3) (L':=[(1,.loc 2 0),(5,.loc 0 0)]) (H':=Xj (kg u.id) [(2,.M1 35 [.i u.id.J1,.i u.id.L1,.s 2 (u.P0.map ay),.s 2 (u.F1.map aa),.s 2<|u.V0.map ay])]) (λj=>match j with|0=>0|1=>4|j=>j) ⟨rfl,rfl,trivial⟩ ⟨rfl,rfl,rfl,trivial⟩ rfl rfl rfl rfl rfl rfl) ?_;refine zS ?_;(refine aw id (uB (kg u.id) u.P0 (by omega)<|by omega) rfl rfl rfl rfl ⟨rfl,rfl,trivial⟩ rfl rfl rfl rfl rfl rfl ?_ ?_)
  ·rintro k2 r H2 ⟨rfl,rfl,rfl⟩;exact⟨rfl,rfl⟩
  rintro k2 r H2 ⟨rfl,rfl,rfl⟩;change DS _ _ _ _ _ _ _ _;refine dm (bk (k':=3) (L':=[(1,.loc 2 0),(5,.loc 0 0)]) (H':=Xj (kg u.id++l9 u.P0) [(2,.M1 35 [.i u.id.J1,.i u.id.L1,.s 2 (u.P0.map ay),.s 2 (u.F1.map aa),.s 2<|u.V0.map ay])]) (λj=>match j with|0=>0|1=>4|j=>j) ⟨rfl,rfl,trivial⟩ ⟨rfl,rfl,rfl,trivial⟩ rfl rfl rfl rfl rfl rfl) ?_;refine zS ?_;have a0:(kg u.id++l9 u.P0).length<=1000:=by rw [Ag,J];omega
  have w:=Jf (kg u.id++l9 u.P0) u.F1.length 1 (by omega) (by omega);rw [<- o] at w;(refine aw id (w) rfl rfl rfl rfl ⟨rfl,rfl,trivial⟩ rfl rfl rfl rfl rfl rfl ?_ ?_)
  ·rintro k2 r H2 ⟨rfl,rfl,rfl⟩;exact⟨rfl,rfl⟩
  rintro k2 r H2 ⟨rfl,rfl,rfl⟩;change DS _ _ _ _ _ _ _ _;refine dm (bk (k':=3) (L':=[(1,.loc 2 0),(5,.loc 0 0)]) (H':=Xj (kg u.id++l9 u.P0++put (u.F1.map aa).length 1) [(2,.M1 35 [.i u.id.J1,.i u.id.L1,.s 2 (u.P0.map ay),.s 2 (u.F1.map aa),.s 2<|u.V0.map ay])]) (λj=>match j with|0=>0|1=>4|j=>j) ⟨rfl,rfl,trivial⟩ ⟨rfl,rfl,rfl,trivial⟩ rfl rfl rfl rfl rfl rfl) ?_;rw [o];generalize z:kg u.id++l9 u.P0++put u.F1.length 1=B;have K:B.length<=1001:=by rw [<- z,Ag,p1];omega
  refine zS ?_;refine ae (ι:=Nat×List UInt8) (λx=>⟨3,[(1,.loc 2 0),(5,.loc 0 0),(31,.s 2<|u.F1.map aa),(32,.i u.F1.length),(33,.i x.1)],Xj x.2 [(2,.M1 35 [.i u.id.J1,.i u.id.L1,.s 2 (u.P0.map ay),.s 2 (u.F1.map aa),.s 2<|u.V0.map ay])]⟩)
   (λx=>x.1<=u.F1.length/\x.2.length<=1001+20*x.1/\B++u.F1.flatMap pf=x.2++(u.F1.drop x.1).flatMap pf) (λx=>u.F1.length-x.1) (0,B) ⟨Ai _,K,by simp⟩
   (er id ⟨rfl,rfl,rfl,by rw [o];rfl,rfl,trivial⟩) ?_
  rintro⟨i,a⟩ ⟨M,N,c⟩;dsimp only at M N c ⊢;refine zS ?_;refine a6 rfl (λh=>?_)<|λh=>?_
  ·have p:i<u.F1.length:=by omega
   have A:(u.F1.drop i).flatMap pf=pf u.F1[i]++(u.F1.drop<|i+1).flatMap pf:=by rw [An p,C6]
   have E:=Vn<|List.all_eq_true.1 g.F1 _<|Ah p;generalize P:u.F1[i]=f at A E;obtain⟨f1,f2,f3,f4⟩:=E;have q:(f.args.map aq).length=f.args.length:=Aa _;refine zS ?_;rw [P];(refine aw id (Jf a f.N0 1 (by omega)<|by omega) rfl rfl rfl rfl ⟨rfl,rfl,trivial⟩ rfl rfl rfl rfl rfl rfl ?_ ?_)
   ·rintro k2 r H2 ⟨rfl,rfl,rfl⟩;exact⟨rfl,rfl⟩
   rintro k2 r H2 ⟨rfl,rfl,rfl⟩;change DS _ _ _ _ _ _ _ _;refine dm (bk (k':=4) (L':=[(1,.loc 2 0),(5,.loc 0 0),(7,.loc 3 0),(31,.s 2<|u.F1.map aa),(32,.i u.F1.length),(33,.i i)]) (H':=Xj (a++put f.N0 1) [(2,.M1 35 [.i u.id.J1,.i u.id.L1,.s 2 (u.P0.map ay),.s 2 (u.F1.map aa),.s 2<|u.V0.map ay]),(3,.M1 95 [.i f.N0,.s 1<|f.args.map aq])]) (λj=>match j with|0=>0|1=>5|j=>j) ⟨rfl,rfl,rfl,rfl,rfl,rfl,trivial⟩ ⟨rfl,rfl,rfl,rfl,trivial⟩ rfl rfl rfl rfl rfl rfl) ?_;refine zS ?_;have a1:(a++put f.N0 1).length<=10000:=by rw [Ag,p1];omega
   have F:=Jf (a++put f.N0 1) f.args.length 1 (by omega) (by omega);rw [<- q] at F;(refine aw id (F) rfl rfl rfl rfl ⟨rfl,rfl,trivial⟩ rfl rfl rfl rfl rfl rfl ?_ ?_)
   ·rintro k2 r H2 ⟨rfl,rfl,rfl⟩;exact⟨rfl,rfl⟩
   rintro k2 r H2 ⟨rfl,rfl,rfl⟩;change DS _ _ _ _ _ _ _ _;refine dm (bk (k':=4) (L':=[(1,.loc 2 0),(5,.loc 0 0),(7,.loc 3 0),(31,.s 2<|u.F1.map aa),(32,.i u.F1.length),(33,.i i)]) (H':=Xj (a++put f.N0 1++put (f.args.map aq).length 1) [(2,.M1 35 [.i u.id.J1,.i u.id.L1,.s 2 (u.P0.map ay),.s 2 (u.F1.map aa),.s 2<|u.V0.map ay]),(3,.M1 95 [.i f.N0,.s 1<|f.args.map aq])]) (λj=>match j with|0=>0|1=>5|j=>j) ⟨rfl,rfl,rfl,rfl,rfl,rfl,trivial⟩ ⟨rfl,rfl,rfl,rfl,trivial⟩ rfl rfl rfl rfl rfl rfl) ?_;rw [q];generalize G:a++put f.N0 1++put f.args.length 1=C;have a2:C.length=a.length+2:=by rw [<- G,Ag,Ag,p1,p1]
   refine zS ?_;refine ae (ι:=Nat×List UInt8) (λx=>⟨4,[(1,.loc 2 0),(5,.loc 0 0),(7,.loc 3 0),(31,.s 2<|u.F1.map aa),(32,.i u.F1.length),(33,.i i),(47,.s 1<|f.args.map aq),(48,.i f.args.length),(49,.i x.1)],Xj x.2 [(2,.M1 35 [.i u.id.J1,.i u.id.L1,.s 2 (u.P0.map ay),.s 2 (u.F1.map aa),.s 2<|u.V0.map ay]),(3,.M1 95 [.i f.N0,.s 1<|f.args.map aq])]⟩)
    (λx=>x.1<=f.args.length/\x.2.length=C.length+4*x.1/\C++(f.args.flatMap λn=>put n 4)=x.2++(f.args.drop x.1).flatMap λn=>put n 4) (λx=>f.args.length-x.1) (0,C) ⟨Ai _,rfl,by simp⟩
    (er id ⟨rfl,rfl,rfl,rfl,rfl,rfl,rfl,by rw [q];rfl,rfl,trivial⟩) ?_
   rintro⟨j,b⟩ ⟨Q,R,m⟩;dsimp only at Q R m ⊢;refine zS ?_;refine a6 rfl (λS=>?_)<|λS=>?_
   ·have I:j<f.args.length:=by omega
    have T:((f.args.drop j).flatMap λn=>put n 4)=put f.args[j] 4++(f.args.drop<|j+1).flatMap λn=>put n 4:=by rw [An I,C6]
    refine zS ?_;(refine aw id (Jf b f.args[j] 4 (by omega)<|by omega) rfl rfl rfl rfl ⟨rfl,rfl,trivial⟩ rfl rfl rfl rfl rfl rfl ?_ ?_)
    ·rintro k2 r H2 ⟨rfl,rfl,rfl⟩;exact⟨rfl,rfl⟩
    rintro k2 r H2 ⟨rfl,rfl,rfl⟩;change DS _ _ _ _ _ _ _ _;refine dm (bk (k':=4) (L':=[(1,.loc 2 0),(5,.loc 0 0),(7,.loc 3 0),(31,.s 2<|u.F1.map aa),(32,.i u.F1.length),(33,.i i),(47,.s 1<|f.args.map aq),(48,.i f.args.length),(49,.i j)]) (H':=Xj (b++put f.args[j] 4) [(2,.M1 35 [.i u.id.J1,.i u.id.L1,.s 2 (u.P0.map ay),.s 2 (u.F1.map aa),.s 2<|u.V0.map ay]),(3,.M1 95 [.i f.N0,.s 1<|f.args.map aq])]) (λj=>match j with|0=>0|1=>5|j=>j) ⟨rfl,rfl,rfl,rfl,rfl,rfl,rfl,rfl,rfl,trivial⟩ ⟨rfl,rfl,rfl,rfl,trivial⟩ rfl rfl rfl rfl rfl rfl) ?_;refine zS ?_;exact⟨(j+1,b++put f.args[j] 4),⟨I,by rw [Ag,p4];omega,by rw [m,T,Bm]⟩,er id,by show f.args.length-(j+1)<f.args.length-j;omega⟩
   ·refine zS ?_;rw [Ar<|by omega] at m;refine⟨(i+1,b),⟨p,by show b.length<=1001+20*(i+1);omega,?_⟩,er id,by show u.F1.length-(i+1)<u.F1.length-i;omega⟩
    have e:b=a++pf f:=by
     have:b=C++(f.args.flatMap λn=>put n 4):=by rw [m];simp
     rw [this,<- G];simp [pf]
    rw [c,A,e,Bm]
  ·refine zS ?_;(refine aw id (uB a u.V0 (by omega)<|by omega) rfl rfl rfl rfl ⟨rfl,rfl,trivial⟩ rfl rfl rfl rfl rfl rfl ?_ ?_)
   ·rintro k2 r H2 ⟨rfl,rfl,rfl⟩;exact⟨rfl,rfl⟩
   rintro k2 r H2 ⟨rfl,rfl,rfl⟩;change DS _ _ _ _ _ _ _ _;refine dm (bk (k':=3) (L':=[(1,.loc 2 0),(5,.loc 0 0)]) (H':=Xj (a++l9 u.V0) [(2,.M1 35 [.i u.id.J1,.i u.id.L1,.s 2 (u.P0.map ay),.s 2 (u.F1.map aa),.s 2<|u.V0.map ay])]) (λj=>match j with|0=>0|1=>4|j=>j) ⟨rfl,rfl,trivial⟩ ⟨rfl,rfl,rfl,trivial⟩ rfl rfl rfl rfl rfl rfl) ?_;have a3:=jI<|a++l9 u.V0;refine zR ?_;have U:r6 u=a++l9 u.V0:=by
    rw [Ar<|by omega] at c;simp only [List.flatMap_nil,Bn] at c;unfold r6;rw [z,c]
   exact vm rfl<|by unfold tP;rw [if_pos v,U,NK];exact⟨rfl,rfl⟩
def pA {n:Int} (h:Q3 n=true):-4294967296<=n/\n<4294967296:=by unfold Q3 L5 at h;simp only [Ae,decide_eq_true_eq] at h;omega
abbrev xR (r:Rd):HB:=.M1 125 [.t (rj (r.getD [])),.b r.isNone]
abbrev HU (r:Rd):Hp:=[(0,xR r)]
def VU (l:List UInt8) (n:Nat) (h:n<(rj l).size):(rj l)[n]'h=l[n]'(by simpa [rj,ByteArray.size] using h):=by simp [rj,ByteArray.getElem_eq_getElem_data]
def sm (l:List UInt8):(rj l).size=l.length:=by simp [rj,ByteArray.size]
def dN (l:List UInt8) (k:Nat):(rj l).extract k (rj l).size=rj (l.drop k):=by rw [sm];apply ByteArray.ext;apply Array.ext';simp only [rj,ByteArray.data_extract,Array.toList_extract,List.extract_eq_take_drop];exact Aj<|by simp
def RX (u b:Nat) (hb:b<256):256*u ||| b=256*u+b:=by
 have:u <<< 8+b=u <<< 8 ||| b:=Nat.shiftLeft_add_eq_or_of_lt hb u
 rw [Nat.shiftLeft_eq,Nat.mul_comm] at this;exact this.symm
def HV (u:Nat) (b:UInt8) (f:u<16777216):cZ .u32 (NI .u32 (u:Int) 8) (b.toNat:Int)=((b.toNat+256*u:Nat):Int):=by
 have d:=b.toNat_lt;have a:NI .u32 (u:Int) 8=((256*u:Nat):Int):=by
  unfold NI;rw [IntKind.wrap_u32];show ((u:Int)*256)%4294967296=_;omega
 rw [a];unfold cZ;have c:((2 ^ IntKind.u32.bits:Nat):Int)=4294967296:=rfl;rw [c];clear c a;have e:((((256*u:Nat):Int)%4294967296).toNat ||| (((b.toNat:Nat):Int)%4294967296).toNat:Nat)=256*u+b.toNat:=by
  rw [show ((((256*u:Nat):Int)%4294967296).toNat)=256*u by omega,show ((((b.toNat:Nat):Int)%4294967296).toNat)=b.toNat by omega];exact RX u b.toNat d
 rw [e,IntKind.wrap_u32];omega
def TM (b:UInt8):IntKind.u32.wrap (b.toNat:Int)=b.toNat:=by
 have:=b.toNat_lt
 rw [IntKind.wrap_u32];omega
def vQ (n:Nat) (h:n<4294967296):IntKind.i32.wrap (n:Int)=pN n:=by rw [IntKind.wrap_i32];unfold pN;split<;>omega
def oN (n:Nat) (h:n<4294967296):-2147483648<=pN n/\pN n<=2147483647:=by unfold pN;split<;>omega
def KS (l:List UInt8) (j:Nat) (h:j<l.length):QG (l.drop j)=l[j].toNat+256*QG (l.drop (j+1)):=by rw [An h,QG]
def xf (r:Rd) (k:Nat) (A:1<=k) (m:k<=4):sQ 70 [.loc 0 0,.i k] 1 1 (HU r) (λn o p=>n=1/\o=.i (tk k r).1/\p=HU (tk k r).2):=by
 refine pT func70 ?_;intro O B C E;have q:=sm<|r.getD [];refine zS ?_;refine a6 rfl (λh=>?_)<|λh=>?_
 ·have a:tk k r=(0,none):=by
   cases r with
   | none=>rfl
   | some l=>rw [fF,if_pos<|by have:=h;rw [sm] at this;simpa using this]
  refine zR ?_;rw [a];exact⟨.inl rfl,_,rfl,1,HU none,⟨rfl,trivial⟩,rfl,rfl,rfl,rfl,rfl,rfl,rfl⟩
 ·cases r with
  | none=>exfalso;have:=h;rw [sm] at this;simp at this;omega
  | some l =>
   have F:k<=l.length:=by have:=h;rw [sm] at this;simp at this;omega
   have a:tk k (some l)=(pN (QG<|l.take k),some<|l.drop k):=by rw [fF,if_neg<|by omega]
   have c:(l.take k).length=k:=by rw [Ap];omega
   have s:=zD<|l.take k;rw [c] at s;have G:256 ^ k<=4294967296:=Nat.le_trans (G4 (by omega) m) (by decide);rw [a];change DW _ _ _ _ _ [(0,.M1 125 [.t (rj l),.b false])];have q:(rj l).size=l.length:=sm l;refine zS ?_;refine ae (ι:=Nat) (λj=>⟨1,[(0,.loc 0 0),(1,.i k),(5,.d (.int .u32 (QG ((l.take k).drop j):Nat))),(6,.i<|(j:Int)-1)],[(0,.M1 125 [.t (rj l),.b false])]⟩)
    (λj=>j<=k) (λj=>j) k (Af _) ?_ ?_
   ·rw [Ar<|by omega];exact er id
   intro j I;refine zS ?_;refine a6 rfl (λh=>?_)<|λh=>?_
   ·have u:j-1<(l.take k).length:=by omega
    have e:=KS (l.take k) (j-1) u;rw [show j-1+1=j by omega] at e;have v:QG ((l.take k).drop j)<16777216:=by
     have:=zD<|(l.take k).drop j
     rw [List.length_drop,c] at this;exact Nat.lt_of_lt_of_le this<|Nat.le_trans (G4 (by omega)<|show k-j<=3 by omega)<|by decide
    have w:∀ f:((j:Int)-1).toNat<(rj l).size,(rj l)[((j:Int)-1).toNat]'f=(l.take k)[j-1]:=by
     intro f;rw [VU,List.getElem_take];congr 1;omega
    refine zS ?_;refine⟨j-1,by omega,?_,by omega⟩
    dsimp only;rw [w _,TM,HV _ _ v,<- e,show (j:Int)-1-1=((j-1:Nat):Int)-1 by omega];exact er id
   ·have x:j=0:=by omega
    subst x;rw [List.drop_zero];have g:=vQ (QG<|l.take k) (by omega);have z:=oN (QG<|l.take k) (by omega);rw [<- g] at z;refine zR ?_;rw [dN,g];exact⟨.inl rfl,_,rfl,1,HU (some<|l.drop k),⟨rfl,trivial⟩,rfl,rfl,rfl,rfl,rfl,rfl,rfl⟩

def Kk (r:Rd):0<=(tk 1 r).1/\(tk 1 r).1<256:=by
 cases h:tk 1 r with
 | mk n q =>
  cases q with
  | some q=>exact aN h
  | none =>
   cases r with
   | none=>cases h;simp
   | some l =>
    rw [fF] at h;split at h
    ·cases h;simp
    ·cases h
def FL (r:Rd):sQ 66 [.loc 0 0] 1 1 (HU r) (λa b c=>a=1/\b=o5 (f9 r).1/\c=HU (f9 r).2):=by
 refine pT func66 ?_;intro O d e f;refine zS ?_;(refine aw id (xf r 1 (by omega)<|by omega) rfl rfl rfl rfl ⟨rfl,trivial⟩ rfl rfl rfl rfl rfl rfl ?_ ?_)
 ·rintro a b c ⟨rfl,rfl,rfl⟩;exact⟨rfl,rfl⟩
 rintro a b c ⟨rfl,rfl,rfl⟩;change DS _ _ _ _ _ _ _ _;refine zS ?_;(refine aw id (xf (tk 1 r).2 2 (by omega)<|by omega) rfl rfl rfl rfl ⟨rfl,trivial⟩ rfl rfl rfl rfl rfl rfl ?_ ?_)
 ·rintro a b c ⟨rfl,rfl,rfl⟩;exact⟨rfl,rfl⟩
 rintro a b c ⟨rfl,rfl,rfl⟩;change DS _ _ _ _ _ _ _ _;refine zR ?_;exact⟨.inl rfl,_,rfl,1,HU _,⟨rfl,trivial⟩,rfl,rfl,rfl,rfl,rfl,rfl,rfl⟩
abbrev rA (r:Rd) (xs:List Z1):Hp:=[(0,xR r),(1,.M1 123 [.loc 0 0]),(2,.M1 32 [.row 3]),(3,.row 31 2 (xs.map ay))]
def EO (r:Rd) (xs:List Z1) (x:Z1):rA r (xs++[x])=[(0,xR r),(1,.M1 123 [.loc 0 0]),(2,.M1 32 [.row 3]),(3,.row 31 2 (xs.map ay++[ay x]))]:=by simp [rA]
def WS (r:Rd) (xs:List Z1) (d:xs.length<=300):sQ 131 [.loc 1 0,.loc 2 0] 3 4 (rA r xs) (λa b c=>a=4/\b=.M2 []/\c=rA (f9 r).2 (xs++[(f9 r).1])):=by
 refine T8 func131 ?_;intro O e f g;have h:(xs.map ay).length=xs.length:=Aa _;refine zS ?_;(refine aw id (FL r) rfl rfl rfl rfl ⟨rfl,trivial⟩ rfl rfl rfl rfl rfl rfl ?_ ?_)
 ·rintro a b c ⟨rfl,rfl,rfl⟩;exact⟨rfl,rfl⟩
 rintro a b c ⟨rfl,rfl,rfl⟩;change DS _ _ _ _ _ _ _ _;rw [EO];refine zS ?_;exact⟨.inr rfl,_,rfl,λj=>match j with|3=>5|j=>j,4,.M2 [],[(0,xR (f9 r).2),(1,.M1 123 [.loc 0 0]),(2,.M1 32 [.row 3]),(3,.row 31 2<|xs.map ay++[ay (f9 r).1])],rfl,⟨rfl,rfl,rfl,rfl,trivial⟩,rfl,rfl,rfl,rfl,rfl,rfl,rfl,rfl,rfl⟩
def CI  (r:Rd):sQ 68 [.loc 0 0,.fn 131 [.loc 1 0,.loc 2 0]] 3 4 (rA r []) (λa b c=>a=4/\b=.M2 []/\c=rA (di f9 r).2 (di f9 r).1):=by
 refine pT func68 ?_;intro O u v w;refine zS ?_;(refine aw id (xf r 1 (by omega)<|by omega) rfl rfl rfl rfl ⟨rfl,trivial⟩ rfl rfl rfl rfl rfl rfl ?_ ?_)
 ·rintro a b c ⟨rfl,rfl,rfl⟩;exact⟨rfl,rfl⟩
 rintro a b c ⟨rfl,rfl,rfl⟩;change DS _ _ _ _ _ _ _ _;refine zS ?_;unfold di;have e:=Kk r;generalize z:tk 1 r=q at e;obtain⟨n,f⟩:=q;dsimp only at e ⊢;refine ae (ι:=Nat×Rd×List (Z1)) (λx=>⟨4,[(0,.loc 0 0),(1,.fn 131 [.loc 1 0,.loc 2 0]),(4,.i x.1)],rA x.2.1 x.2.2⟩)
  (λx=>x.1+x.2.2.length<=256/\(f8 f9 n.toNat f).1=x.2.2++(f8 f9 x.1 x.2.1).1/\(f8 f9 n.toNat f).2=(f8 f9 x.1 x.2.1).2) (λx=>x.1) (n.toNat,f,[]) ⟨by simp;omega,rfl,rfl⟩ ?_ ?_
 ·dsimp only;rw [B9 e.1];exact er id
 rintro⟨m,g,d⟩ ⟨p,h,o⟩;dsimp only at p h o ⊢;rw [h,o];cases m with
 | zero =>
  refine zS ?_;all_goals first
   | omega
   | exact⟨.inr rfl,_,rfl,4,rA g d,⟨rfl,rfl,rfl,rfl,trivial⟩,rfl,rfl,rfl,rfl,rfl,rfl,by simp [f8]⟩
 | succ m =>
  cases g with
  | none =>
   repeat' (first|refine zs ?_|(refine zm ?_ ?_<;>intro s)|fail)
   all_goals first
    | omega
    | exact⟨.inr rfl,_,rfl,4,rA none d,⟨rfl,rfl,rfl,rfl,trivial⟩,rfl,rfl,rfl,rfl,rfl,rfl,by simp [f8]⟩
  | some l =>
   repeat' (first|refine zs ?_|(refine zm ?_ ?_<;>intro s)|omega)
   refine m5 id (WS  (some l) d<|by omega) rfl rfl rfl rfl rfl rfl ⟨rfl,rfl,rfl,rfl,trivial⟩ rfl rfl rfl rfl rfl rfl ?_ ?_
   ·rintro a b c ⟨rfl,rfl,rfl⟩;exact⟨rfl,rfl⟩
   rintro a b c ⟨rfl,rfl,rfl⟩;change DS _ _ _ _ _ _ _ _;refine dm (bk (k':=4) (L':=[(0,.loc 0 0),(1,.fn 131 [.loc 1 0,.loc 2 0]),(4,.i ((m+1:Nat):Int))]) (H':=rA (f9<|some l).2<|d++[(f9<|some l).1]) (λj=>match j with|0=>0|1=>1|2=>2|_=>7) ⟨rfl,rfl,rfl,trivial⟩ ⟨rfl,rfl,rfl,rfl,trivial⟩ rfl rfl rfl rfl rfl rfl) ?_;refine zS ?_;refine⟨(m,(f9<|some l).2,d++[(f9<|some l).1]),⟨by simp;omega,by simp [f8],rfl⟩,?_,Gk m⟩
   dsimp only;rw [show ((m+1:Nat):Int)-1=(m:Int) by omega];exact er id
def UF (r:Rd):sQ 67 [.loc 0 0] 1 1 (HU r) (λa b c=>a=1/\b=.s 2 ((di f9 r).1.map ay)/\c=HU (di f9 r).2):=by
 refine T8 func67 ?_;intro O d e f;refine zS ?_;refine dm (gh 2 0 31 2 rfl rfl rfl) ?_;(refine aw id (CI r) rfl rfl rfl rfl ⟨rfl,rfl,rfl,rfl,trivial⟩ rfl rfl rfl rfl rfl rfl ?_ ?_)
 ·rintro a b c ⟨rfl,rfl,rfl⟩;exact⟨rfl,rfl⟩
 rintro a b c ⟨rfl,rfl,rfl⟩;change DS _ _ _ _ _ _ _ _;refine dm (r5 2 0 7 rfl rfl rfl rfl rfl) ?_;refine zR ?_;exact⟨.inl rfl,_,rfl,kp id 1 (.s 2<|(di f9 r).1.map ay) (HU (di f9 r).2) ⟨rfl,rfl,rfl⟩⟩
abbrev uA (p:Int) (r:Rd) (xs:List Int):Hp:=[(0,xR r),(1,.M1 123 [.loc 0 0]),(2,.M1 95 [.i p,.row 3]),(3,.row 3 1 (xs.map aq))]
def dP (p:Int) (r:Rd) (xs:List Int) (x:Int):uA p r (xs++[x])=[(0,xR r),(1,.M1 123 [.loc 0 0]),(2,.M1 95 [.i p,.row 3]),(3,.row 3 1 (xs.map aq++[aq x]))]:=by simp [uA]
def kQ (p:Int) (r:Rd) (xs:List Int) (d:xs.length<=300):sQ 71 [.loc 1 0,.loc 2 0] 3 4 (uA p r xs) (λa b c=>a=4/\b=.M2 []/\c=uA p (tk 4 r).2 (xs++[(tk 4 r).1])):=by
 refine T8 func71 ?_;intro O e f g;have h:(xs.map aq).length=xs.length:=Aa _;refine zS ?_;(refine aw id (xf r 4 (by omega)<|by omega) rfl rfl rfl rfl ⟨rfl,trivial⟩ rfl rfl rfl rfl rfl rfl ?_ ?_)
 ·rintro a b c ⟨rfl,rfl,rfl⟩;exact⟨rfl,rfl⟩
 rintro a b c ⟨rfl,rfl,rfl⟩;change DS _ _ _ _ _ _ _ _;rw [dP];refine zS ?_;exact⟨.inr rfl,_,rfl,λj=>match j with|3=>4|j=>j,4,.M2 [],[(0,xR (tk 4 r).2),(1,.M1 123 [.loc 0 0]),(2,.M1 95 [.i p,.row 3]),(3,.row 3 1<|xs.map aq++[aq (tk 4 r).1])],rfl,⟨rfl,rfl,rfl,rfl,trivial⟩,rfl,rfl,rfl,rfl,rfl,rfl,rfl,rfl,rfl⟩
def iF (p:Int) (r:Rd):sQ 68 [.loc 0 0,.fn 71 [.loc 1 0,.loc 2 0]] 3 4 (uA p r []) (λa b c=>a=4/\b=.M2 []/\c=uA p (di (tk 4) r).2 (di (tk 4) r).1):=by
 refine pT func68 ?_;intro O v w z;refine zS ?_;(refine aw id (xf r 1 (by omega)<|by omega) rfl rfl rfl rfl ⟨rfl,trivial⟩ rfl rfl rfl rfl rfl rfl ?_ ?_)
 ·rintro a b c ⟨rfl,rfl,rfl⟩;exact⟨rfl,rfl⟩
 rintro a b c ⟨rfl,rfl,rfl⟩;change DS _ _ _ _ _ _ _ _;refine zS ?_;unfold di;have e:=Kk r;generalize A:tk 1 r=q at e;obtain⟨n,f⟩:=q;dsimp only at e ⊢;refine ae (ι:=Nat×Rd×List (Int)) (λx=>⟨4,[(0,.loc 0 0),(1,.fn 71 [.loc 1 0,.loc 2 0]),(4,.i x.1)],uA p x.2.1 x.2.2⟩)
  (λx=>x.1+x.2.2.length<=256/\(f8 (tk 4) n.toNat f).1=x.2.2++(f8 (tk 4) x.1 x.2.1).1/\(f8 (tk 4) n.toNat f).2=(f8 (tk 4) x.1 x.2.1).2) (λx=>x.1) (n.toNat,f,[]) ⟨by simp;omega,rfl,rfl⟩ ?_ ?_
 ·dsimp only;rw [B9 e.1];exact er id
 rintro⟨m,g,d⟩ ⟨s,h,o⟩;dsimp only at s h o ⊢;rw [h,o];cases m with
 | zero =>
  refine zS ?_;all_goals first
   | omega
   | exact⟨.inr rfl,_,rfl,4,uA p g d,⟨rfl,rfl,rfl,rfl,trivial⟩,rfl,rfl,rfl,rfl,rfl,rfl,by simp [f8]⟩
 | succ m =>
  cases g with
  | none =>
   repeat' (first|refine zs ?_|(refine zm ?_ ?_<;>intro u)|fail)
   all_goals first
    | omega
    | exact⟨.inr rfl,_,rfl,4,uA p none d,⟨rfl,rfl,rfl,rfl,trivial⟩,rfl,rfl,rfl,rfl,rfl,rfl,by simp [f8]⟩
  | some l =>
   repeat' (first|refine zs ?_|(refine zm ?_ ?_<;>intro u)|omega)
   refine m5 id (kQ p (some l) d<|by omega) rfl rfl rfl rfl rfl rfl ⟨rfl,rfl,rfl,rfl,trivial⟩ rfl rfl rfl rfl rfl rfl ?_ ?_
   ·rintro a b c ⟨rfl,rfl,rfl⟩;exact⟨rfl,rfl⟩
   rintro a b c ⟨rfl,rfl,rfl⟩;change DS _ _ _ _ _ _ _ _;refine dm (bk (k':=4) (L':=[(0,.loc 0 0),(1,.fn 71 [.loc 1 0,.loc 2 0]),(4,.i ((m+1:Nat):Int))]) (H':=uA p ((tk 4)<|some l).2<|d++[((tk 4)<|some l).1]) (λj=>match j with|0=>0|1=>1|2=>2|_=>7) ⟨rfl,rfl,rfl,trivial⟩ ⟨rfl,rfl,rfl,rfl,trivial⟩ rfl rfl rfl rfl rfl rfl) ?_;refine zS ?_;refine⟨(m,((tk 4)<|some l).2,d++[((tk 4)<|some l).1]),⟨by simp;omega,by simp [f8],rfl⟩,?_,Gk m⟩
   dsimp only;rw [show ((m+1:Nat):Int)-1=(m:Int) by omega];exact er id
abbrev GX (a n:Int) (ps:List Z1) (b c:SV):HB:=.M1 35 [.i a,.i n,.s 2 (ps.map ay),b,c]
abbrev eA (a n:Int) (ps:List Z1) (r:Rd) (xs:List U0):Hp:=[(0,xR r),(1,.M1 123 [.loc 0 0]),(2,GX a n ps (.row 3) .Q1),(3,.row 95 2 (xs.map aa))]
def XM (a n:Int) (ps:List Z1) (r:Rd) (xs:List U0) (x:U0):eA a n ps r (xs++[x])=[(0,xR r),(1,.M1 123 [.loc 0 0]),(2,GX a n ps (.row 3) .Q1),(3,.row 95 2 (xs.map aa++[aa x]))]:=by simp [eA]
def cP (a n:Int) (ps:List Z1) (r:Rd) (xs:List U0) (e:xs.length<=300):sQ 69 [.loc 1 0,.loc 2 0] 3 4 (eA a n ps r xs) (λb c d=>b=4/\c=.M2 []/\d=eA a n ps (ip r).2 (xs++[(ip r).1])):=by
 refine T8 func69 ?_;intro O f g h;have l:(xs.map aa).length=xs.length:=Aa _;refine zS ?_;(refine aw id (xf r 1 (by omega)<|by omega) rfl rfl rfl rfl ⟨rfl,trivial⟩ rfl rfl rfl rfl rfl rfl ?_ ?_)
 ·rintro b c d ⟨rfl,rfl,rfl⟩;exact⟨rfl,rfl⟩
 rintro b c d ⟨rfl,rfl,rfl⟩;change DS _ _ _ _ _ _ _ _;refine zS ?_;refine dm (gh 4 1 3 1 rfl rfl rfl) ?_;refine aw (λj=>match j with|0=>0|1=>1|2=>4|_=>5) (iF (tk 1 r).1 (tk 1 r).2) rfl rfl rfl rfl ⟨rfl,rfl,rfl,rfl,trivial⟩ rfl rfl rfl rfl rfl rfl ?_ ?_
 ·rintro b c d ⟨rfl,rfl,rfl⟩;exact⟨rfl,rfl⟩
 rintro b c d ⟨rfl,rfl,rfl⟩;change DS _ _ _ _ _ _ _ _;refine dm (r5 4 1 9 rfl rfl rfl rfl rfl) ?_;rw [XM];refine zS ?_;exact⟨.inr rfl,_,rfl,λj=>match j with|3=>10|j=>j,4,.M2 [],[(0,xR (ip r).2),(1,.M1 123 [.loc 0 0]),(2,GX a n ps (.row 3) .Q1),(3,.row 95 2<|xs.map aa++[aa (ip r).1])],rfl,⟨rfl,rfl,rfl,rfl,trivial⟩,rfl,rfl,rfl,rfl,rfl,rfl,rfl,rfl,rfl⟩
def gF (a b:Int) (ps:List Z1) (r:Rd):sQ 68 [.loc 0 0,.fn 69 [.loc 1 0,.loc 2 0]] 3 4 (eA a b ps r []) (λc d e=>c=4/\d=.M2 []/\e=eA a b ps (di ip r).2 (di ip r).1):=by
 refine pT func68 ?_;intro O w z A;refine zS ?_;(refine aw id (xf r 1 (by omega)<|by omega) rfl rfl rfl rfl ⟨rfl,trivial⟩ rfl rfl rfl rfl rfl rfl ?_ ?_)
 ·rintro c d e ⟨rfl,rfl,rfl⟩;exact⟨rfl,rfl⟩
 rintro c d e ⟨rfl,rfl,rfl⟩;change DS _ _ _ _ _ _ _ _;refine zS ?_;unfold di;have g:=Kk r;generalize B:tk 1 r=q at g;obtain⟨n,h⟩:=q;dsimp only at g ⊢;refine ae (ι:=Nat×Rd×List (U0)) (λx=>⟨4,[(0,.loc 0 0),(1,.fn 69 [.loc 1 0,.loc 2 0]),(4,.i x.1)],eA a b ps x.2.1 x.2.2⟩)
  (λx=>x.1+x.2.2.length<=256/\(f8 ip n.toNat h).1=x.2.2++(f8 ip x.1 x.2.1).1/\(f8 ip n.toNat h).2=(f8 ip x.1 x.2.1).2) (λx=>x.1) (n.toNat,h,[]) ⟨by simp;omega,rfl,rfl⟩ ?_ ?_
 ·dsimp only;rw [B9 g.1];exact er id
 rintro⟨m,o,f⟩ ⟨u,p,s⟩;dsimp only at u p s ⊢;rw [p,s];cases m with
 | zero =>
  refine zS ?_;all_goals first
   | omega
   | exact⟨.inr rfl,_,rfl,4,eA a b ps o f,⟨rfl,rfl,rfl,rfl,trivial⟩,rfl,rfl,rfl,rfl,rfl,rfl,by simp [f8]⟩
 | succ m =>
  cases o with
  | none =>
   repeat' (first|refine zs ?_|(refine zm ?_ ?_<;>intro v)|fail)
   all_goals first
    | omega
    | exact⟨.inr rfl,_,rfl,4,eA a b ps none f,⟨rfl,rfl,rfl,rfl,trivial⟩,rfl,rfl,rfl,rfl,rfl,rfl,by simp [f8]⟩
  | some l =>
   repeat' (first|refine zs ?_|(refine zm ?_ ?_<;>intro v)|omega)
   refine m5 id (cP a b ps (some l) f<|by omega) rfl rfl rfl rfl rfl rfl ⟨rfl,rfl,rfl,rfl,trivial⟩ rfl rfl rfl rfl rfl rfl ?_ ?_
   ·rintro c d e ⟨rfl,rfl,rfl⟩;exact⟨rfl,rfl⟩
   rintro c d e ⟨rfl,rfl,rfl⟩;change DS _ _ _ _ _ _ _ _;refine dm (bk (k':=4) (L':=[(0,.loc 0 0),(1,.fn 69 [.loc 1 0,.loc 2 0]),(4,.i ((m+1:Nat):Int))]) (H':=eA a b ps (ip<|some l).2<|f++[(ip<|some l).1]) (λj=>match j with|0=>0|1=>1|2=>2|_=>7) ⟨rfl,rfl,rfl,trivial⟩ ⟨rfl,rfl,rfl,rfl,trivial⟩ rfl rfl rfl rfl rfl rfl) ?_;refine zS ?_;refine⟨(m,(ip<|some l).2,f++[(ip<|some l).1]),⟨by simp;omega,by simp [f8],rfl⟩,?_,Gk m⟩
   dsimp only;rw [show ((m+1:Nat):Int)-1=(m:Int) by omega];exact er id
def gC (s:List UInt8):Fn 21 [.t (rj s)] (λr=>r=.M2 [fg (qy s).1,.i (qy s).2]):=by
 refine J2 func21 ?_;intro O n o p;refine zS ?_;refine dm (bk (k':=3) (L':=[(2,.loc 2 0),(3,.i 0),(4,.loc 1 0),(10,.loc 0 0)]) (H':=[(0,xR<|some s),(1,.M1 123 [.loc 0 0]),(2,.M1 35 [.i 0,.i 0,.Q1,.Q1,.Q1])]) (λj=>match j with|0=>1|1=>2|_=>0) ⟨rfl,rfl,rfl,rfl,trivial⟩ ⟨rfl,rfl,rfl,trivial⟩ rfl rfl rfl rfl rfl rfl) ?_;(refine aw id (FL<|some s) rfl rfl rfl rfl ⟨rfl,trivial⟩ rfl rfl rfl rfl rfl rfl ?_ ?_)
 ·rintro k2 res H2 ⟨rfl,rfl,rfl⟩;exact⟨rfl,rfl⟩
 rintro k2 res H2 ⟨rfl,rfl,rfl⟩;change DS _ _ _ _ _ _ _ _;refine zS ?_;(refine aw id (UF (f9<|some s).2) rfl rfl rfl rfl ⟨rfl,trivial⟩ rfl rfl rfl rfl rfl rfl ?_ ?_)
 ·rintro k2 res H2 ⟨rfl,rfl,rfl⟩;exact⟨rfl,rfl⟩
 rintro k2 res H2 ⟨rfl,rfl,rfl⟩;change DS _ _ _ _ _ _ _ _;refine zS ?_;refine dm (gh 3 3 95 2 rfl rfl rfl) ?_;refine aw (λj=>match j with|0=>0|1=>1|2=>3|_=>4) (gF (f9<|some s).1.J1 (f9<|some s).1.L1 (di f9 (f9<|some s).2).1 (di f9 (f9<|some s).2).2) rfl rfl rfl rfl ⟨rfl,rfl,rfl,rfl,trivial⟩ rfl rfl rfl rfl rfl rfl ?_ ?_
 ·rintro k2 res H2 ⟨rfl,rfl,rfl⟩;exact⟨rfl,rfl⟩
 rintro k2 res H2 ⟨rfl,rfl,rfl⟩;change DS _ _ _ _ _ _ _ _;refine dm (r5 3 3 8 rfl rfl rfl rfl rfl) ?_;refine zS ?_;(refine aw id (UF (di ip (di f9 (f9<|some s).2).2).2) rfl rfl rfl rfl ⟨rfl,trivial⟩ rfl rfl rfl rfl rfl rfl ?_ ?_)
 ·rintro k2 res H2 ⟨rfl,rfl,rfl⟩;exact⟨rfl,rfl⟩
 rintro k2 res H2 ⟨rfl,rfl,rfl⟩;change DS _ _ _ _ _ _ _ _;have c:rB (some s)=(⟨(f9<|some s).1,(di f9 (f9<|some s).2).1,(di ip (di f9 (f9<|some s).2).2).1,(di f9 (di ip (di f9 (f9<|some s).2).2).2).1⟩,(di f9 (di ip (di f9 (f9<|some s).2).2).2).2):=rfl;have g:=si ⟨(f9<|some s).1,(di f9 (f9<|some s).2).1,(di ip (di f9 (f9<|some s).2).2).1,(di f9 (di ip (di f9 (f9<|some s).2).2).2).1⟩;have a:∀ q:Rd,(q.isNone=true∨(q.isNone=false/\0<((rj<|q.getD []).size:Int)))->∀ u:X0,rB (some s)=(u,q)->qy s=(TL,1):=by
  intro q a u h;unfold qy;rw [h];cases q with
  | none=>rfl
  | some l =>
   cases l with
   | nil=>rcases a with a|⟨_,a⟩<;>simp [rj,ByteArray.size] at a
   | cons b l=>rfl
 have e:∀ q:Rd,q.isNone=false->¬ 0<((rj<|q.getD []).size:Int)->∀ u:X0,rB (some s)=(u,q)->qy s=if cp u=0 then (u,0) else (TL,cp u):=by
  intro q m f u h;unfold qy;rw [h];cases q with
  | none=>simp at m
  | some l =>
   cases l with
   | nil=>rfl
   | cons b l=>rw [sm] at f;simp at f
 repeat' (first|refine zs ?_|refine z21 ?_ g|(refine zm ?_ ?_<;>intro d)|fail)
 ·refine ag (d9 2 2 2 rfl rfl rfl) ?_;refine ag (d9 2 3 2 rfl rfl rfl) ?_;refine ag (d9 2 4 2 rfl rfl rfl) ?_;refine zR ?_;rw [a _ (.inl d) _ c];exact⟨.inl rfl,_,rfl,rfl,rfl⟩
 ·refine ag (d9 2 2 2 rfl rfl rfl) ?_;refine ag (d9 2 3 2 rfl rfl rfl) ?_;refine ag (d9 2 4 2 rfl rfl rfl) ?_;refine zR ?_;rw [a _ (.inr ⟨by assumption,by assumption⟩) _ c];exact⟨.inl rfl,_,rfl,rfl,rfl⟩
 ·rw [e _ (by assumption) (by assumption) _ c,if_neg d];refine ag (d9 2 2 2 rfl rfl rfl) ?_;refine ag (d9 2 3 2 rfl rfl rfl) ?_;refine ag (d9 2 4 2 rfl rfl rfl) ?_;refine zR ?_;exact⟨.inl rfl,_,rfl,rfl,rfl⟩
 ·rw [e _ (by assumption) (by assumption) _ c,if_pos<|Decidable.not_not.1 d];repeat' (apply cr)
  exact⟨.inl rfl,_,rfl,rfl,rfl⟩


def ut (a b:X0):Fn 24 [fg a,fg b] (λr=>r=.b (a.same b)):=by
 refine J2 func24 ?_;intro O g h j;have c:=Ue a.P0 b.P0;have d:=mn a.F1 b.F1;have f:=Ue a.V0 b.V0;unfold X0.same;have e:a.id.same b.id=(decide (a.id.J1=b.id.J1)&&(decide (a.id.L1=b.id.L1)&&true)):=by unfold Z1.same;rw [Bool.and_true]
 rw [e];generalize e8 Z1.same a.P0 b.P0=l at c ⊢;generalize e8 U0.same a.F1 b.F1=m at d ⊢;generalize e8 Z1.same a.V0 b.V0=n at f ⊢;repeat' (first|refine zr ?_|refine z21 ?_ c|refine z21 ?_ d|refine z21 ?_ f|(refine zm ?_ ?_<;>intro o)|fail)
 all_goals exact bi rfl<|by simp_all
def Pc (p:Int) (l:List Int):Fn 47 [.i p,.s 1 (l.map aq)] (λr=>r=jt ⟨p,l⟩):=by refine J2 func47 ?_;intro O a b c;refine zR ?_;exact⟨.inl rfl,_,rfl,rfl,rfl⟩
def P2:X0:=⟨⟨0,1⟩,[],[⟨0,[1,2]⟩,⟨0,[2,3]⟩],[]⟩
def I1:X0:=⟨⟨1,1⟩,[⟨0,1⟩],[⟨0,[4,5]⟩],[⟨0,1⟩]⟩
def UM:Fn 104 [] (λr=>r=.s 2 (P2.F1.map aa)):=by
 refine J2 func104 ?_;intro O c d e;have a:=Pc 0 [1,2];have b:=Pc 0 [2,3];repeat' (first|refine zr ?_|refine z21 ?_ a|refine z21 ?_ b|fail)
 exact⟨.inl rfl,_,rfl,rfl,rfl⟩
def Oi:Fn 45 [] (λr=>r=fg P2):=by
 refine J2 func45 ?_;intro O a b c;repeat' (first|refine zs ?_|refine z21 ?_ UM|fail)
 refine ag (d9 0 2 2 rfl rfl rfl) ?_;refine ag (d9 0 4 2 rfl rfl rfl) ?_;repeat' (apply cr)
 exact⟨.inl rfl,_,rfl,rfl,rfl⟩
def p9:Fn 44 [] (λr=>r=fg I1):=by
 refine J2 func44 ?_;intro O b c d;have a:=Pc 0 [4,5];repeat' (first|refine zr ?_|refine z21 ?_ a|fail)
 exact⟨.inl rfl,_,rfl,rfl,rfl⟩
def vN:cp I1=0:=by kernel_rfl
def lT:cp P2=0:=by kernel_rfl
def RI:tP I1=(⟨#[1,1,0,1,0,1,0,1,0,2,4,0,0,0,5,0,0,0,1,0,1,0]⟩,0):=by kernel_rfl
def QI:rj (r6 I1)=⟨#[1,1,0,1,0,1,0,1,0,2,4,0,0,0,5,0,0,0,1,0,1,0]⟩:=by kernel_rfl
def IC:Fn 10 [] (λr=>r=.b true):=by
 refine J2 func10 ?_;intro O f g h;have a:=aC I1;have c:=gC<|r6 I1;rw [RI] at a;rw [CA vN,QI] at c;have d:=si P2;rw [lT] at d;have e:=ut I1 I1;rw [X0.T3] at e;dsimp only at a c;repeat' (first|refine zr ?_|refine z21 ?_ p9|refine z22 ?_ p9|refine z22 ?_ Oi|refine z21 ?_ a|refine z21 ?_ c|refine z22 ?_ d|refine z22 ?_ e|fail)
 all_goals exact bi rfl<|by decide
end Go.Proofs.YtapciiffpnociabGreat
