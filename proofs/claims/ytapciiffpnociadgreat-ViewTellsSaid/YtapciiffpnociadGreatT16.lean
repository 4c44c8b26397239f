/- Several texts in one: GxInc DagJ DagK VwC DagL WirD WirF WirG WirH WirJ WirI WirK WirL WirM DagR DagS DagT. Condition: none. -/
import Derived.Test.YtapciiffpnociadGreatT13
import Derived.Test.YtapciiffpnociadGreatT15
import Derived.Test.YtapciiffpnociadGreatT12
import Derived.Test.YtapciiffpnociadGreatT10
set_option maxHeartbeats 8000000
open Array renaming getD_eq_getD_getElem?→Da,getElem?_setIfInBounds_ne→E4
open Bool renaming and_eq_true→Ae,false_and→Dw,false_eq_true→B3,true_and→Df
open List renaming append_nil→Bt,drop_eq_getElem_cons→Am,drop_of_length_le→As,ext_getElem?→Ci,filter_append→Du,filter_cons→B7,flatMap_append→Di,flatMap_cons→Dx,length_append→Af,length_map→Aa,length_singleton→Au,map_append→Ar,map_set→C3,take_of_length_le→Ai,take_succ_eq_append_getElem→An
open Nat renaming blt→Av,le_of_ble_eq_true→Ab,le_refl→Ah,zero_le→Ak
open Option renaming getD_some→B6
namespace Go.Proofs.YtapciiffpnociadGreat
open Go Go.RowKit
open Go.Maps (Keyed)
theorem mapSet_set (x:MK) (n m:Int):∀ l,br (br l x n) x m=br l x m
 | []=>by simp [br,MK.eqb_self]
 | (k,v)::l=>by
  have h1:br ((k,v)::l) x n=if k.eqb x then (k,n)::l else (k,v)::br l x n:=rfl
  have h2:br ((k,v)::l) x m=if k.eqb x then (k,m)::l else (k,v)::br l x m:=rfl
  rw [h1,h2]
  by_cases hk:k.eqb x=true
  ·rw [if_pos hk,if_pos hk]
   show (if k.eqb x then (k,m)::l else _)=_
   rw [if_pos hk]
  ·rw [if_neg hk,if_neg hk]
   show (if k.eqb x then _ else (k,v)::br (br l x n) x m)=_
   rw [if_neg hk,mapSet_set x n m l]
def xn (listed:Array Bool):Nat:=listed.toList.countP λb=>!b
theorem left_set {listed:Array Bool} {i:Nat} (hi:i<listed.size) (h:listed.getD i true=false):xn (listed.setIfInBounds i true)+1=xn listed:=by
 unfold xn;have hi':i<listed.toList.length:=by simpa using hi
 have hc:=List.countP_set (p:=λb=>!b) (a:=true) hi';rw [Array.toList_setIfInBounds,hc];have hg:listed.toList[i]=false:=by
  simp [hi] at h;simpa using h
 rw [hg];clear hc;have hpos:0<listed.toList.countP (λb=>!b):=List.countP_pos_iff.2 ⟨false,by rw [<- hg];exact List.getElem_mem hi',rfl⟩;simp only [Bool.not_false,Bool.not_true,if_true,B3,if_false,Nat.add_zero];omega
theorem left_zero {listed:Array Bool} (h:xn listed=0):∀ i,i<listed.size->listed.getD i true=true:=by
 intro i hi;unfold xn at h;rw [List.countP_eq_zero] at h;have:=h listed[i] (by simp)
 simp [hi] at this ⊢;exact this
theorem wpAny_inv {P:Program} {l:List Oper} {Q:Exit->Act->World->Prop} (J:Array Bool->Act->World->Prop)
  (hstep:∀ (listed:Array Bool) a w i,listed.size=l.length->J listed a w->i∈Region.ready .any l.toArray listed->wpOp P l.toArray Q i (J (listed.setIfInBounds i true)) a w)
  (hend:∀ (listed:Array Bool) a w,listed.size=l.length->J listed a w->Region.ready .any l.toArray listed=[]->Q .normal a w) :
  ∀ (fuel:Nat) (listed:Array Bool) a w,listed.size=l.length->xn listed=fuel->J listed a w->wpAny P .any l.toArray Q fuel listed a w
 | 0,listed,a,w,hs,hc,h=>by
  have hr:Region.ready .any l.toArray listed=[]:=List.eq_nil_iff_forall_not_mem.2 λj hj=>by
   obtain⟨h1,o,ho,_⟩:=mem_ready.1 hj;have hj:j<listed.size:=by rw [hs];have:=(Array.getElem?_eq_some_iff.1 ho).1;simpa using this
   rw [left_zero hc j hj] at h1;cases h1
  exact⟨hr,hend listed a w hs h hr⟩
 | fuel+1,listed,a,w,hs,hc,h=>by
  refine⟨λhr=>hend listed a w hs h hr,λi hi=>?_⟩
  obtain⟨h1,o,ho,_⟩:=mem_ready.1 hi;have hj:i<listed.size:=by rw [hs];have:=(Array.getElem?_eq_some_iff.1 ho).1;simpa using this
  have hlt:=left_set hj h1;have key:∀ a' w',J (listed.setIfInBounds i true) a' w'->wpAny P .any l.toArray Q fuel (listed.setIfInBounds i true) a' w':=λa' w' h' =>
   wpAny_inv J hstep hend fuel _ a' w' (by simp [hs]) (by omega) h'
  have h2:=hstep listed a w i hs h hi;unfold wpOp at h2 ⊢;rw [ho] at h2 ⊢;simp only at h2 ⊢;split
  ·rename_i hw;rw [if_pos hw] at h2;exact h2.imp (λh2=>Oper.wp_mono key h2) id
  ·rename_i hw;rw [if_neg hw] at h2;exact key _ _ h2
def rp (l:List Oper) (i j:Nat):Bool:=match l[i]? with
 | some o=>o.after.toList.any λe=>Region.binds .any e && Nat.beq e.on j
 | none=>false
theorem need_spec {l:List Oper} {i j:Nat} {listed:Array Bool} (h:rp l i j=true) (hi:i∈Region.ready .any l.toArray listed):listed.getD j false=true:=by
 obtain⟨_,o,ho,hall⟩:=mem_ready.1 hi;have ho':l[i]?=some o:=by simpa using ho
 unfold rp at h;rw [ho'] at h;obtain⟨e,he,h⟩:=List.any_eq_true.1 h;rw [Ae] at h;have:=hall e (by simpa using he) h.1
 rwa [Nat.eq_of_beq_eq_true h.2] at this
theorem ready_all {l:List Oper} {listed:Array Bool} (hs:listed.size=l.length) (hd:ka l=true) (hr:Region.ready .any l.toArray listed=[]):∀ j,j<l.length->listed.getD j false=true:=by
 intro j;induction j using Nat.strongRecOn with
 | ind j ih =>
  intro hj;cases hc:listed.getD j false with
  | true=>rfl
  | false =>
   exfalso;have hm:j∈Region.ready .any l.toArray listed:=mem_ready.2 ⟨by rw [jc (by omega)];exact hc,l[j],by simp [hj],λe he hb=>by
    have hlt:=down_spec hd j l[j] (List.getElem?_eq_getElem hj) e he hb;exact ih e.on hlt (by omega)⟩
   rw [hr] at hm;cases hm
theorem getD_set {listed:Array Bool} {i j:Nat} (hi:i<listed.size):(listed.setIfInBounds i true).getD j false=if i=j then true else listed.getD j false:=by
 by_cases h:i=j
 ·subst h;simp [hi]
 ·rw [if_neg h,getD_set_ne false h]
theorem Models.junk {Γ:Ctx} {k:Nat->Prop} {L:Sl} {H:Hp} {e:Env} {a:Act} {w:World} (m:Models Γ k L H e a w) {d:Nat} {v:Value} (hd:Av d Γ.n=true) (hj:L.get d = .junk):Models Γ k L H e (a.put (some d) v) w:=by
 have m2:=m.put (s:=.junk) (v:=v) (Ab hd) trivial;refine⟨m2.toHeap,m2.defers,m2.len,λt=>?_⟩
 have:=m2.slot t
 rw [Sl.get_cons] at this;split at this
 ·rename_i h;subst h;rw [hj];trivial
 ·exact this
def StampOf (w:World) (b:Nat) (key:MK) (s:Int):Prop:=∃ (es:Array MapEntry) (clock:Nat) (x:MapEntry),w.heap[b]?=some (.map es clock)/\x∈es.toList/\x.key=key.val/\(x.born:Int)=s
structure IncS (Γ:Ctx) (k:Nat) (L:Sl) (H H1 H2:Hp) (e:Env) (i:Nat) (d0 d1 d2 d3 d4 d5:Nat) (key:MK) (n:Int) (c:Nat->Bool) (a:Act) (w:World):Prop where
 m:Models Γ (lo k) L (if c 6 then H2 else if c 4 then H1 else H) e a w
 v0:c 0=true->a.tmps.getD d0 undef = .map (some (e.β i))
 v1:c 1=true->a.tmps.getD d1 undef=key.val
 v2:c 2=true->a.tmps.getD d2 undef = .int .i64 n
 v3:c 3=true->a.tmps.getD d3 undef = .int .i64 (n+1)
 v4:c 4=true->c 6=false->∃ u s,a.tmps.getD d4 undef = .tuple #[u,.int .i64 s]/\StampOf w (e.β i) key s
 v5:c 5=true->c 6=false->∃ s,a.tmps.getD d5 undef = .int .i64 s/\StampOf w (e.β i) key s
theorem js {a:Act} {d:Nat} {v:Value} (h:d<a.tmps.size):(a.put (some d) v).tmps.getD d undef=v:=by simp [Act.put,h]
theorem bu {a:Act} {d t:Nat} {v:Value} (h:d≠t):(a.put (some d) v).tmps.getD t undef=a.tmps.getD t undef:=by
 simp only [Act.put,Da,E4 h]
theorem Models.mapTurn {Γ:Ctx} {k:Nat->Prop} {L:Sl} {H:Hp} {e:Env} {a:Act} {w:World} {i:Nat} {kd:Bool} {kvs kvs':List (MK×Int)} (m:Models Γ k L H e a w) (hH:Hp.get H i=some (.map kd kvs)) {es':Array MapEntry} {clock':Nat}
  (hes':es'.toList.map (λx=>(x.key,x.val))=kvs'.map (λp=>(p.1.val,Value.int .i64 p.2))) (hst:va es' clock') (hk:kvs'.Pairwise λp q=>p.1≠q.1) (hwf:∀ p∈kvs',p.1.ok kd/\(Lit.int .i64 p.2).wf=true) :
  Models Γ k L (Hp.set H i (.map kd kvs')) e a { w with heap:=w.heap.setIfInBounds (e.β i) (.map es' clock') }:=by
 have hlt:=m.toHeap.lt (e.β i) (List.mem_filterMap.2 ⟨_,Hp.mem_of hH,rfl⟩);refine m.turn (w':={ w with heap:=w.heap.setIfInBounds (e.β i) (.map es' clock') }) (b':=.map kd kvs') hH (by simp) rfl rfl rfl (λ_=>Ah _) (λc hc hne=>?_) rfl ⟨⟨es',clock',?_,hes',hst⟩,hk,hwf⟩
 ·have hne':e.β i≠c:=λh=>hne (by simp [HB.owned,h])
  exact E4 hne'
 ·show (w.heap.setIfInBounds (e.β i) (.map es' clock'))[e.β i]?=_;simp [hlt]
theorem mapSet_wf {kd:Bool} {kvs:List (MK×Int)} {key:MK} {n:Int} (hwf:∀ p∈kvs,p.1.ok kd/\(Lit.int .i64 p.2).wf=true) (hok:key.ok kd) (hn:(Lit.int .i64 n).wf=true):∀ p∈br kvs key n,p.1.ok kd/\(Lit.int .i64 p.2).wf=true:=λp hp=>by
 rcases rr key n kvs p hp with h|h
 ·rw [h];exact⟨hok,hn⟩
 ·exact hwf p h
theorem entry_run {P:Program} {t:TypeId} {kd:Bool} {kvs:List (MK×Int)} {key:MK} (T:MapT P t kd) {w:World} {b:Nat} (hM:MapIs w b kd kvs) (hok:key.ok kd) :
  ∃ (es':Array MapEntry) (clock':Nat) (u:Value) (s:Int),(Instr.mapEntry t (.map (some b)) key.val).run P w = .ok (.tuple #[u,.int .i64 s]) { w with heap:=w.heap.setIfInBounds b (.map es' clock') } /\
   es'.toList.map (λx=>(x.key,x.val))=(br kvs key ((mapGet? kvs key).getD 0)).map (λp=>(p.1.val,Value.int .i64 p.2))/\va es' clock'/\∃ x∈es'.toList,x.key=key.val/\(x.born:Int)=s:=by
 obtain⟨kt,et,ht,K,hof,hz⟩:=T.ty;obtain⟨⟨es,clock,hb,hes,hst⟩,hkeys,hwf⟩:=hM;obtain⟨l,hl⟩:=hof key hok;rcases map_find K hof hes hkeys hwf hok w with ⟨h1,h0,h2⟩|⟨j,x0,n0,h1,h2,h3,h4,h5,_⟩
 ·refine⟨es.push ⟨key.val,.int .i64 0,clock⟩,clock+1,.int .i64 0,clock,?_,?_,stamps_push hst,⟨key.val,.int .i64 0,clock⟩,by simp,rfl,rfl⟩
  ·simp [Instr.mapEntry,run_underlying ht,MapKept.run_getObj_map hb,K.check w false hl,h1,hz w,MapKept.run_setObj_map _ hb,Result.andThen,goInt]
  ·rw [h0,mapSet_new h2,Array.toList_push,Ar,Ar,hes];rfl
 ·have hj2:es[j]?=some x0:=by simpa using h2
  have hjl:j<es.size:=(Array.getElem?_eq_some_iff.1 hj2).1;have hx0:es[j]=x0:=(Array.getElem?_eq_some_iff.1 hj2).2;have hst2:(Instr.keyThatStays x0.key key.val).run P w = .ok key.val w:=by
   rw [h3];exact K.stays w hl
  refine⟨es.modify j λx=>{ x with key:=key.val },clock,.int .i64 n0,x0.born,?_,?_,rz hst λ_=>rfl,{ x0 with key:=key.val },?_,rfl,rfl⟩
  ·simp [Instr.mapEntry,run_underlying ht,MapKept.run_getObj_map hb,K.check w false hl,h1,hst2,hj2,MapKept.run_setObj_map _ hb,Result.andThen,goInt]
  ·obtain⟨p,q1,q2,q3⟩:=rx hes h2;rw [h4] at q1;cases q1;rw [h5,B6,uk hkeys h4,C3,<- hes];apply Ci;intro q;by_cases hq:q=j
   ·subst hq;simp [hjl,hx0,q3]
   ·simp [Ne.symm hq]
  ·refine List.mem_iff_getElem?.2 ⟨j,?_⟩;simp [hj2]
theorem store_run {P:Program} {t:TypeId} {kd:Bool} {kvs:List (MK×Int)} {key:MK} {m:Int} {w:World} {b:Nat} (hM:MapIs w b kd kvs) {s:Int} (hs:StampOf w b key s) :
  ∃ (es':Array MapEntry) (clock':Nat),(Instr.entryStore t (.map (some b)) (.int .i64 s) (.int .i64 m)).run P w = .ok () { w with heap:=w.heap.setIfInBounds b (.map es' clock') } /\
   es'.toList.map (λx=>(x.key,x.val))=(br kvs key m).map (λp=>(p.1.val,Value.int .i64 p.2))/\va es' clock':=by
 obtain⟨⟨es,clock,hb,hes,hst⟩,hkeys,hwf⟩:=hM;obtain⟨es2,clock2,x,hb2,hx,hxk,hxs⟩:=hs;rw [hb] at hb2;cases hb2;obtain⟨j,hj⟩:=List.mem_iff_getElem?.1 hx;have hj2:es[j]?=some x:=by simpa using hj
 have hjl:j<es.size:=(Array.getElem?_eq_some_iff.1 hj2).1;have hxj:es[j]=x:=(Array.getElem?_eq_some_iff.1 hj2).2;have hfind:es.findIdx? (λe=>(e.born:Int) == s)=some j:=by
  rw [Array.findIdx?_eq_some_iff_getElem];refine⟨hjl,by rw [hxj];simpa using hxs,λq hq=>?_⟩
  have hne:=List.pairwise_iff_getElem.1 hst.1 q j (by simp;omega) (by simpa using hjl) hq;simp only [Array.getElem_toList] at hne;rw [hxj] at hne;intro hc;have hc:((es[q]).born:Int)=s:=by simpa using hc
  omega
 obtain⟨p,q1,q2,q3⟩:=rx hes hj;have hpk:p.1=key:=MK.val_inj (by rw [<- q2,hxk]);obtain⟨pk,n⟩:=p;subst hpk;refine⟨es.modify j λe=>{ e with val:=.int .i64 m },clock,?_,?_,rz hst λ_=>rfl⟩
 ·simp [Instr.entryStore,MapKept.run_getObj_map hb,asInt,asIntOf,hfind,MapKept.run_setObj_map _ hb,Result.andThen]
 ·rw [uk hkeys q1,C3,<- hes];apply Ci;intro q;by_cases hq:q=j
  ·subst hq;simp [hjl,hxj,q2]
  ·simp [Ne.symm hq]
theorem Hp.get_set_self {i:Nat} {b b':HB} {H:Hp} (h:Hp.get H i=some b):Hp.get (Hp.set H i b') i=some b':=by rw [Hp.get_set i b' H b h,if_pos rfl]
theorem Hp.set_set {i:Nat} {b b':HB}:∀ {H:Hp},Hp.set (Hp.set H i b) i b'=Hp.set H i b'
 | []=>rfl
 | (d,s)::H=>by
  simp only [Hp.set]
  cases hb:Nat.beq d i with
  | true=>simp only [Hp.set,hb]
  | false=>simp only [Hp.set,hb,Hp.set_set]
theorem m7 (n p:Nat):(Array.replicate n false).getD p false=false:=by
 simp only [Da,Array.getElem?_replicate];split<;>rfl
theorem r9 {P:Program} {l:List Oper} {Q:Exit->Act->World->Prop} {i:Nat} {o:Oper} {a:Act} {w w':World} {K:Act->World->Prop} {v:Value} (ho:l[i]?=some o) (hg:o.guard=none) (hr:(execOp a.eval o).run P w = .ok (.value v) w') (hk:K (a.put o.dst v) w') :
  wpOp P l.toArray Q i K a w:=by
 unfold wpOp;have ho':l.toArray[i]?=some o:=by simpa using ho
 rw [ho'];have hw:Region.wanted o (yielded l.toArray a.tmps)=true:=by unfold Region.wanted;rw [hg]
 simp only [hw,if_true];refine .inl ?_;unfold Oper.wp;rw [hr];exact hk
theorem wpOp_skip {P:Program} {l:List Oper} {Q:Exit->Act->World->Prop} {i:Nat} {o:Oper} {a:Act} {w w':World} {K:Act->World->Prop} (ho:l[i]?=some o) (hg:o.guard=none) (hr:(execOp a.eval o).run P w = .ok .skip w') (hk:K (a.put o.dst undef) w') :
  wpOp P l.toArray Q i K a w:=by
 unfold wpOp;have ho':l.toArray[i]?=some o:=by simpa using ho
 rw [ho'];have hw:Region.wanted o (yielded l.toArray a.tmps)=true:=by unfold Region.wanted;rw [hg]
 simp only [hw,if_true];refine .inl ?_;unfold Oper.wp;rw [hr];exact hk
theorem Models.know {Γ:Ctx} {k:Nat->Prop} {L:Sl} {H:Hp} {e:Env} {a:Act} {w:World} (m:Models Γ k L H e a w) {d:Nat} {s:SV} (h:Rel (Γ.X e H) e w s (a.tmps.getD d undef)):Models Γ k ((d,s)::L) H e a w :=
 ⟨m.toHeap,m.defers,m.len,λt=>by
  rw [Sl.get_cons]
  split
  ·rename_i ht;subst ht;exact h
  ·exact m.slot t⟩
theorem setAt_fn {listed:Array Bool} {i:Nat} (hi:i<listed.size):(λj=>(listed.setIfInBounds i true).getD j false)=λj=>if i=j then true else listed.getD j false:=funext λ_=>getD_set hi
theorem set_closed {l:List Oper} {listed:Array Bool} {i:Nat} (hi:i∈Region.ready .any l.toArray listed) (hs:i<listed.size) (h:∀ p q,rp l p q=true->listed.getD p false=true->listed.getD q false=true) :
  ∀ p q,rp l p q=true->(listed.setIfInBounds i true).getD p false=true->(listed.setIfInBounds i true).getD q false=true:=by
 intro p q hn hp;rw [getD_set hs] at hp ⊢;split
 ·rfl
 ·split at hp
  ·rename_i hpi;subst hpi;exact need_spec hn hi
  ·exact h p q hn hp
section
variable {Γ : Ctx} {k i d0 d1 d2 d3 d4 d5 tx : Nat} {L : Sl} {H : Hp} {y : Operand} {t t1 t3 t3' ty0 ty1 ty2 ty3 ty4 ty5 ty6 : TypeId} {p0 p1 p2 p3 p4 p5 p6 : String} {af0 af1 af2 af3 af4 af5 af6 : Array Edge} {kd : Bool} {kvs : List (MK×Int)} {key : MK} {sv : SV}
theorem dw_inc {id:Nat} {Q:gh} {l:List Oper} (hl:l=[⟨some d0,.move (.tmp tx),ty0,p0,af0,none⟩,⟨some d1,.load t1 y,ty1,p1,af1,none⟩,⟨some d2,.lookup t (.tmp d0) (.tmp d1) false,ty2,p2,af2,none⟩,⟨some d3,.binOp .add t3 (.tmp d2) (.const (.int .i64 1)) t3',ty3,p3,af3,none⟩,
   ⟨some d4,.mapEntry t (.tmp d0) (.tmp d1),ty4,p4,af4,none⟩,⟨some d5,.extract (.tmp d4) 1,ty5,p5,af5,none⟩,⟨none,.entryStore t (.tmp d0) (.tmp d5) (.tmp d3),ty6,p6,af6,none⟩])
  (hm:Γ.P.follows .mixedOrders=true) (hdown:ka l=true) (hnd:d6 l=true)
  (hne:(rp l 2 0 && rp l 2 1 && rp l 3 2 && rp l 4 0 && rp l 4 1 && rp l 5 4 && rp l 6 3 && rp l 6 5)=true)
  (hdist:aw [d0,d1,d2,d3,d4,d5]=true) (hlt:(Av d0 Γ.n && Av d1 Γ.n && Av d2 Γ.n && Av d3 Γ.n && Av d4 Γ.n && Av d5 Γ.n)=true)
  (j0:L.get d0 = .junk) (j1:L.get d1 = .junk) (j2:L.get d2 = .junk) (j3:L.get d3 = .junk) (j4:L.get d4 = .junk) (j5:L.get d5 = .junk)
  (T:MapT Γ.P t kd) (hx:L.get tx = .mp i) (hH:Hp.get H i=some (.map kd kvs)) (hy:Ev Γ (lo k) L H (.load t1 y) ty1 sv) (hkey:keyC sv=some key) (hkd:key.kd=kd)
  (hadd:∀ H',Ev Γ (lo k) ((d2,.d (.int .i64 ((mapGet? kvs key).getD 0)))::L) H' (.binOp .add t3 (.tmp d2) (.const (.int .i64 1)) t3') ty3 (.d (.int .i64 ((mapGet? kvs key).getD 0+1))))
  (hQ:Q .normal k L (Hp.set H i (.map kd (br kvs key ((mapGet? kvs key).getD 0+1))))):DW Γ (.region id l.toArray true) Q k L H:=by
 have hlen:l.length=7:=by rw [hl];rfl
 simp only [Ae] at hne hlt;obtain⟨⟨⟨⟨⟨⟨⟨n20,n21⟩,n32⟩,n40⟩,n41⟩,n54⟩,n63⟩,n65⟩:=hne;obtain⟨⟨⟨⟨⟨b0,b1⟩,b2⟩,b3⟩,b4⟩,b5⟩:=hlt;have hdd:∀ (p q:Nat),p<q->(hp:p < [d0,d1,d2,d3,d4,d5].length)->(hq:q < [d0,d1,d2,d3,d4,d5].length)->[d0,d1,d2,d3,d4,d5][p]≠[d0,d1,d2,d3,d4,d5][q]:=λp q h hp hq=>List.pairwise_iff_getElem.1 (dy _ hdist) p q hp hq h
 have a01:d0≠d1:=λh=>hdd 0 1 (by decide) (by simp) (by simp) (by simp [h])
 have a02:d0≠d2:=λh=>hdd 0 2 (by decide) (by simp) (by simp) (by simp [h])
 have a03:d0≠d3:=λh=>hdd 0 3 (by decide) (by simp) (by simp) (by simp [h])
 have a04:d0≠d4:=λh=>hdd 0 4 (by decide) (by simp) (by simp) (by simp [h])
 have a05:d0≠d5:=λh=>hdd 0 5 (by decide) (by simp) (by simp) (by simp [h])
 have a12:d1≠d2:=λh=>hdd 1 2 (by decide) (by simp) (by simp) (by simp [h])
 have a13:d1≠d3:=λh=>hdd 1 3 (by decide) (by simp) (by simp) (by simp [h])
 have a14:d1≠d4:=λh=>hdd 1 4 (by decide) (by simp) (by simp) (by simp [h])
 have a15:d1≠d5:=λh=>hdd 1 5 (by decide) (by simp) (by simp) (by simp [h])
 have a23:d2≠d3:=λh=>hdd 2 3 (by decide) (by simp) (by simp) (by simp [h])
 have a24:d2≠d4:=λh=>hdd 2 4 (by decide) (by simp) (by simp) (by simp [h])
 have a25:d2≠d5:=λh=>hdd 2 5 (by decide) (by simp) (by simp) (by simp [h])
 have a34:d3≠d4:=λh=>hdd 3 4 (by decide) (by simp) (by simp) (by simp [h])
 have a35:d3≠d5:=λh=>hdd 3 5 (by decide) (by simp) (by simp) (by simp [h])
 have a45:d4≠d5:=λh=>hdd 4 5 (by decide) (by simp) (by simp) (by simp [h])
 generalize hn:(mapGet? kvs key).getD 0=n at hadd hQ;intro e a w mm;refine wpIn_mono (wpIn_region_any hm (vm (ik (Γ:=Γ) (K:=Q .normal)) hnd _ _ _ _ ?_)) (p8 (λex k' L' H' (⟨h1,h2⟩:fh (Q .normal) ex k' L' H')=>h1▸h2));have m0:=mm.below (w':={ w with drawn:=w.drawn+1 }) ((Beld.refl _ _ _).drew);have hMM:MapIs w (e.β i) kd kvs:=(mm.heap _ (Hp.mem_of hH)).2;have hkeys:=hMM.keys;have hwf:=hMM.wf;have hkok:key.ok kd:=by
  obtain⟨v,_,hrel⟩:=hy e a w mm;rw [<- hkd];exact (keyC_rel hkey hrel).2
 have hnwf:(Lit.int .i64 n).wf=true:=by rw [<- hn];exact (look_run T false hMM hkok).2
 have hnwf1:(Lit.int .i64 (n+1)).wf=true:=by
  have hm3:Models Γ (lo k) ((d2,.d (.int .i64 n))::L) H e (a.put (some d2) (.int .i64 n)) w:=mm.put (Ab b2) (RepC.int hnwf);obtain⟨v,_,hrel⟩:=hadd H e _ w hm3;have hrel:RepC _ _ _ _:=hrel;cases hrel;assumption
 have hH1:Hp.get (Hp.set H i (.map kd (br kvs key n))) i=some (.map kd (br kvs key n)):=Hp.get_set_self hH;have hHH:Hp.set (Hp.set H i (.map kd (br kvs key n))) i (.map kd (br kvs key (n+1)))=Hp.set H i (.map kd (br kvs key (n+1))):=Hp.set_set;refine wpAny_inv (λlisted a w=>(∀ p q,rp l p q=true->listed.getD p false=true->listed.getD q false=true)/\IncS Γ k L H (Hp.set H i (.map kd (br kvs key n))) (Hp.set H i (.map kd (br kvs key (n+1)))) e i d0 d1 d2 d3 d4 d5 key n (λj=>listed.getD j false) a w)
  ?_ ?_ _ _ a _ (by simp) (by simp [xn,List.countP_replicate]) ⟨λp q _ h=>(by rw [m7] at h;cases h),⟨by simp only [m7];exact m0,λh=>(by rw [m7] at h;cases h),λh=>(by rw [m7] at h;cases h),λh=>(by rw [m7] at h;cases h),λh=>(by rw [m7] at h;cases h),λh=>(by rw [m7] at h;cases h),λh=>(by rw [m7] at h;cases h)⟩⟩
 ·rintro listed a w q hs ⟨hcl,hI⟩ hq;have hq1:=(mem_ready.1 hq).1;have hq7:q<7:=by
   obtain⟨_,o,ho,_⟩:=mem_ready.1 hq;have:=(Array.getElem?_eq_some_iff.1 ho).1
   simpa [hlen] using this
  have hqs:q<listed.size:=by rw [hs,hlen];exact hq7
  rw [jc hqs] at hq1;have hcl2:=set_closed hq hqs hcl;have hneed:=fun {p:Nat} (h:rp l q p=true)=>need_spec h hq
  have h6:q≠6->listed.getD 6 false=false:=λhne=>by
   cases hc:listed.getD 6 false with
   | false=>rfl
   | true =>
    exfalso;have c3:=hcl 6 3 n63 hc;have c5:=hcl 6 5 n65 hc;have c2:=hcl 3 2 n32 c3;have c4:=hcl 5 4 n54 c5;have c0:=hcl 2 0 n20 c2;have c1:=hcl 2 1 n21 c2;have:q=0∨q=1∨q=2∨q=3∨q=4∨q=5:=by omega
    rcases this with rfl|rfl|rfl|rfl|rfl|rfl<;>simp_all
  have hsz:∀ d,Av d Γ.n=true->d<a.tmps.size:=λd hd=>by rw [hI.m.len];exact Ab hd
  have hM:MapIs w (e.β i) kd (if listed.getD 6 false=true then br kvs key (n+1) else if listed.getD 4 false=true then br kvs key n else kvs):=by
   have hm:=hI.m;split
   ·rename_i hc;rw [if_pos hc] at hm;exact (hm.heap _ (Hp.mem_of (Hp.get_set_self hH))).2
   ·rename_i hc;rw [if_neg hc] at hm;split
    ·rename_i hc;rw [if_pos hc] at hm;exact (hm.heap _ (Hp.mem_of hH1)).2
    ·rename_i hc;rw [if_neg hc] at hm;exact (hm.heap _ (Hp.mem_of hH)).2
  have hcase:q=0∨q=1∨q=2∨q=3∨q=4∨q=5∨q=6:=by omega
  rw [setAt_fn hqs];rcases hcase with rfl|rfl|rfl|rfl|rfl|rfl|rfl
  ·have c6:=h6 (by decide);have c4:listed.getD 4 false=false:=by
    cases hc:listed.getD 4 false with
    | false=>rfl
    | true=>have:=hcl 4 0 n40 hc;rw [hq1] at this;cases this
   obtain⟨hm,v0,v1,v2,v3,v4,v5⟩:=hI;simp only [c6,c4,B3,if_false] at hm;have hs0:=hm.slot tx;rw [hx] at hs0;refine r9 (v:=.map (some (e.β i))) (w':=w) (by rw [hl];rfl) rfl ?_ ⟨hcl2,⟨?_,λ_=>js (hsz _ b0),?_,?_,?_,?_,?_⟩⟩
   ·have:a.eval (.tmp tx) = .map (some (e.β i)):=hs0.2
    simp only [execOp,this,Sem.run_pure]
   ·simp only [c6,c4,show ¬ (0=6) by decide,show ¬ (0=4) by decide,B3,if_false];exact hm.junk b0 j0
   ·simp only [show ¬ (0=1) by decide,if_false];intro h;rw [bu a01];exact v1 h
   ·simp only [show ¬ (0=2) by decide,if_false];intro h;rw [bu a02];exact v2 h
   ·simp only [show ¬ (0=3) by decide,if_false];intro h;rw [bu a03];exact v3 h
   ·simp only [show ¬ (0=4) by decide,if_false,c4];intro h;cases h
   ·simp only [show ¬ (0=5) by decide,if_false];intro h;have:=hcl 5 4 n54 h;rw [c4] at this;cases this
  ·have c6:=h6 (by decide);have c4:listed.getD 4 false=false:=by
    cases hc:listed.getD 4 false with
    | false=>rfl
    | true=>have:=hcl 4 1 n41 hc;rw [hq1] at this;cases this
   obtain⟨hm,v0,v1,v2,v3,v4,v5⟩:=hI;simp only [c6,c4,B3,if_false] at hm;obtain⟨v,hr,hrel⟩:=hy e a w hm;obtain⟨hv,_⟩:=keyC_rel hkey hrel;refine r9 (v:=v) (w':=w) (by rw [hl];rfl) rfl (hr _ _ _ _ w (Below.refl _ _)) ⟨hcl2,⟨?_,?_,λ_=>?_,?_,?_,?_,?_⟩⟩
   ·simp only [c6,c4,show ¬ (1=6) by decide,show ¬ (1=4) by decide,B3,if_false];exact hm.junk b1 j1
   ·simp only [show ¬ (1=0) by decide,if_false];intro h;rw [bu a01.symm];exact v0 h
   ·rw [js (hsz _ b1),hv]
   ·simp only [show ¬ (1=2) by decide,if_false];intro h;rw [bu a12];exact v2 h
   ·simp only [show ¬ (1=3) by decide,if_false];intro h;rw [bu a13];exact v3 h
   ·simp only [show ¬ (1=4) by decide,if_false,c4];intro h;cases h
   ·simp only [show ¬ (1=5) by decide,if_false];intro h;have:=hcl 5 4 n54 h;rw [c4] at this;cases this
  ·have c6:=h6 (by decide);obtain⟨hm,v0,v1,v2,v3,v4,v5⟩:=hI;have e0:a.eval (.tmp d0) = .map (some (e.β i)):=v0 (hneed n20);have e1:a.eval (.tmp d1)=key.val:=v1 (hneed n21);have hok:key.ok kd:=hkok;have hrun:=(look_run T false hM hok).1;have hget:(mapGet? (if listed.getD 6 false=true then br kvs key (n+1) else if listed.getD 4 false=true then br kvs key n else kvs) key).getD 0=n:=by
    rw [c6,if_neg (by decide)];split
    ·rw [ul,if_pos (MK.eqb_self _)];rfl
    ·exact hn
   rw [hget] at hrun;refine r9 (v:=.int .i64 n) (w':=w) (by rw [hl];rfl) rfl ?_ ⟨hcl2,⟨?_,?_,?_,λ_=>js (hsz _ b2),?_,?_,?_⟩⟩
   ·simp only [execOp,e0,e1,Sem.run_bind,Sem.run_pure,hrun,Result.andThen_ok];rfl
   ·simp only [show ¬ (2=6) by decide,show ¬ (2=4) by decide,if_false];exact hm.junk b2 j2
   ·simp only [show ¬ (2=0) by decide,if_false];intro h;rw [bu a02.symm];exact v0 h
   ·simp only [show ¬ (2=1) by decide,if_false];intro h;rw [bu a12.symm];exact v1 h
   ·simp only [show ¬ (2=3) by decide,if_false];intro h;rw [bu a23];exact v3 h
   ·simp only [show ¬ (2=4) by decide,show ¬ (2=6) by decide,if_false];intro h g;rw [bu a24];exact v4 h g
   ·simp only [show ¬ (2=5) by decide,show ¬ (2=6) by decide,if_false];intro h g;rw [bu a25];exact v5 h g
  ·have c6:=h6 (by decide);obtain⟨hm,v0,v1,v2,v3,v4,v5⟩:=hI;have e2:a.tmps.getD d2 undef = .int .i64 n:=v2 (hneed n32);have hm2:Models Γ (lo k) ((d2,.d (.int .i64 n))::L) (if listed.getD 6 false=true then Hp.set H i (.map kd (br kvs key (n+1))) else if listed.getD 4 false=true then Hp.set H i (.map kd (br kvs key n)) else H) e a w:=by
    exact hm.know (by rw [e2];exact RepC.int hnwf)
   obtain⟨v,hr,hrel⟩:=hadd _ e a w hm2;have hv:v = .int .i64 (n+1):=by
    have hrel:RepC _ _ _ _:=hrel;cases hrel;rfl
   refine r9 (v:=v) (w':=w) (by rw [hl];rfl) rfl (hr _ _ _ _ w (Below.refl _ _)) ⟨hcl2,⟨?_,?_,?_,?_,λ_=>?_,?_,?_⟩⟩
   ·simp only [show ¬ (3=6) by decide,show ¬ (3=4) by decide,if_false];exact hm.junk b3 j3
   ·simp only [show ¬ (3=0) by decide,if_false];intro h;rw [bu a03.symm];exact v0 h
   ·simp only [show ¬ (3=1) by decide,if_false];intro h;rw [bu a13.symm];exact v1 h
   ·simp only [show ¬ (3=2) by decide,if_false];intro h;rw [bu a23.symm];exact v2 h
   ·rw [js (hsz _ b3),hv]
   ·simp only [show ¬ (3=4) by decide,show ¬ (3=6) by decide,if_false];intro h g;rw [bu a34];exact v4 h g
   ·simp only [show ¬ (3=5) by decide,show ¬ (3=6) by decide,if_false];intro h g;rw [bu a35];exact v5 h g
  ·have c6:=h6 (by decide);have c5:listed.getD 5 false=false:=by
    cases hc:listed.getD 5 false with
    | false=>rfl
    | true=>have:=hcl 5 4 n54 hc;rw [hq1] at this;cases this
   obtain⟨hm,v0,v1,v2,v3,v4,v5⟩:=hI;simp only [c6,hq1,B3,if_false] at hm hM;have e0:a.eval (.tmp d0) = .map (some (e.β i)):=v0 (hneed n40);have e1:a.eval (.tmp d1)=key.val:=v1 (hneed n41);obtain⟨es',clock',u,s,hrun,hes',hst',x,hx1,hx2,hx3⟩:=entry_run T hM hkok;rw [hn] at hes';have hm2:=hm.mapTurn hH hes' hst' (pn _ _ _ hkeys) (mapSet_wf hwf hkok hnwf);have hlt2:=hm.toHeap.lt (e.β i) (List.mem_filterMap.2 ⟨_,Hp.mem_of hH,rfl⟩);have hsto:StampOf { w with heap:=w.heap.setIfInBounds (e.β i) (.map es' clock') } (e.β i) key s:=⟨es',clock',x,by simp [hlt2],hx1,hx2,hx3⟩
   refine r9 (v:=.tuple #[u,.int .i64 s]) (w':={ w with heap:=w.heap.setIfInBounds (e.β i) (.map es' clock') }) (by rw [hl];rfl) rfl ?_ ⟨hcl2,⟨?_,?_,?_,?_,?_,λ_ _=>⟨u,s,js (hsz _ b4),hsto⟩,?_⟩⟩
   ·simp only [execOp,e0,e1,Sem.run_bind,Sem.run_pure,hrun,Result.andThen_ok]
   ·simp only [c6,show ¬ (4=6) by decide,B3,if_false,if_true];exact hm2.junk b4 j4
   ·simp only [show ¬ (4=0) by decide,if_false];intro h;rw [bu a04.symm];exact v0 h
   ·simp only [show ¬ (4=1) by decide,if_false];intro h;rw [bu a14.symm];exact v1 h
   ·simp only [show ¬ (4=2) by decide,if_false];intro h;rw [bu a24.symm];exact v2 h
   ·simp only [show ¬ (4=3) by decide,if_false];intro h;rw [bu a34.symm];exact v3 h
   ·simp only [show ¬ (4=5) by decide,if_false,c5];intro h;cases h
  ·have c6:=h6 (by decide);obtain⟨hm,v0,v1,v2,v3,v4,v5⟩:=hI;obtain⟨u,s,e4,hsto⟩:=v4 (hneed n54) c6;have e4':a.eval (.tmp d4) = .tuple #[u,.int .i64 s]:=e4;refine r9 (v:=.int .i64 s) (w':=w) (by rw [hl];rfl) rfl ?_ ⟨hcl2,⟨?_,?_,?_,?_,?_,?_,λ_ _=>⟨s,js (hsz _ b5),hsto⟩⟩⟩
   ·simp [execOp,e4',Instr.extract]
   ·simp only [show ¬ (5=6) by decide,show ¬ (5=4) by decide,if_false];exact hm.junk b5 j5
   ·simp only [show ¬ (5=0) by decide,if_false];intro h;rw [bu a05.symm];exact v0 h
   ·simp only [show ¬ (5=1) by decide,if_false];intro h;rw [bu a15.symm];exact v1 h
   ·simp only [show ¬ (5=2) by decide,if_false];intro h;rw [bu a25.symm];exact v2 h
   ·simp only [show ¬ (5=3) by decide,if_false];intro h;rw [bu a35.symm];exact v3 h
   ·simp only [show ¬ (5=4) by decide,show ¬ (5=6) by decide,if_false];intro h g;rw [bu a45.symm];exact v4 h g
  ·have c3:=hneed n63;have c5:=hneed n65;have c4:=hcl 5 4 n54 c5;have c2:=hcl 3 2 n32 c3;have c0:=hcl 2 0 n20 c2;obtain⟨hm,v0,v1,v2,v3,v4,v5⟩:=hI;simp only [hq1,c4,B3,if_false,if_true] at hm hM;have e0:a.eval (.tmp d0) = .map (some (e.β i)):=v0 c0;have e3:a.eval (.tmp d3) = .int .i64 (n+1):=v3 c3;obtain⟨s,e5,hsto⟩:=v5 c5 hq1;have e5':a.eval (.tmp d5) = .int .i64 s:=e5;obtain⟨es',clock',hrun,hes',hst'⟩:=store_run (t:=t) (m:=n+1) hM hsto;rw [mapSet_set] at hes';have hm2:=hm.mapTurn hH1 hes' hst' (pn _ _ _ hkeys) (mapSet_wf hwf hkok hnwf1);rw [hHH] at hm2;refine wpOp_skip (w':={ w with heap:=w.heap.setIfInBounds (e.β i) (.map es' clock') }) (by rw [hl];rfl) rfl ?_ ⟨hcl2,⟨?_,?_,?_,?_,?_,?_,?_⟩⟩
   ·simp only [execOp,e0,e3,e5',Sem.run_bind,Sem.run_pure];rw [hrun];rfl
   ·simp only [if_true];exact hm2
   ·simp only [show ¬ (6=0) by decide,if_false];exact v0
   ·simp only [show ¬ (6=1) by decide,if_false];exact v1
   ·simp only [show ¬ (6=2) by decide,if_false];exact v2
   ·simp only [show ¬ (6=3) by decide,if_false];exact v3
   ·simp only [if_true];intro _ h;cases h
   ·simp only [if_true];intro _ h;cases h
 ·rintro listed a w hs ⟨hcl,hI⟩ hr;have hall:=ready_all hs hdown hr;have h6:=hall 6 (by omega);have:=hI.m
  rw [if_pos h6] at this;exact .inl ⟨_,_,_,e,this,rfl,hQ⟩
end
def incM (m:List (MK×Int)) (i:UId):List (MK×Int):=br m (lf i) ((mapGet? m (lf i)).getD 0+1)
def CntIs (m:List (MK×Int)) (l:List UId):Prop:=∀ i:UId,(mapGet? m (lf i)).getD 0=((l.countP λj=>j.same i:Nat):Int)
theorem CntIs.nil:CntIs [] []:=λ_=>rfl
theorem CntIs.inc {m:List (MK×Int)} {l:List UId} (h:CntIs m l) (i:UId):CntIs (incM m i) (l++[i]):=λj=>by
 unfold incM
 rw [ul,keyI_eqb,List.countP_append,List.countP_cons,List.countP_nil]
 have hi:=h i
 have hj:=h j
 cases hb:i.same j with
 | true =>
  have:=same_iff.1 hb
  subst this
  simp only [if_true,B6]
  omega
 | false =>
  simp only [B3,if_false]
  omega
theorem CntIs.le {m:List (MK×Int)} {l:List UId} (h:CntIs m l) (i:UId):0<=(mapGet? m (lf i)).getD 0/\(mapGet? m (lf i)).getD 0<=l.length:=by
 rw [h i];have:l.countP (λj=>j.same i)<=l.length:=List.countP_le_length
 omega
theorem CntIs.zero {m:List (MK×Int)} {l:List UId} (h:CntIs m l) (i:UId):(mapGet? m (lf i)).getD 0=0↔(l.any λj=>j.same i)=false:=by
 rw [h i];constructor
 ·intro h0;have:l.countP (λj=>j.same i)=0:=by omega
  exact List.any_eq_false.2 λx hx=>List.countP_eq_zero.1 this x hx
 ·intro h0;have:l.countP (λj=>j.same i)=0:=List.countP_eq_zero.2 λx hx=>List.any_eq_false.1 h0 x hx
  omega
attribute [local irreducible] DW DS DL DQ Ev FnOk FnP ef bt DT
def kw (has l:List Upd):List Upd:=l.filter λu=>!((has.flatMap Upd.takes).any λj=>j.same u.id)
abbrev keptU (has:List Upd):List Upd:=kw has has
theorem says_sub {l l':List Upd} (h:l.Sublist l'):(l.flatMap Upd.says).length<=(l'.flatMap Upd.says).length:=by
 induction h with
 | slnil=>exact Ah _
 | cons a _ ih=>rw [Dx,Af];omega
 | cons_cons a _ ih=>rw [Dx,Dx,Af,Af];omega
theorem wj (has:List Upd) (i:Nat):((kw has (has.take i)).flatMap Upd.says).length<=(has.flatMap Upd.says).length :=
 says_sub (List.filter_sublist.trans (List.take_sublist i has))
theorem saidV_fn (r:Rpl) (hl:r.has.length<=100000) (hp:(r.has.flatMap Upd.takes).length<=100000) (hsy:(r.has.flatMap Upd.says).length<=100000) (hsa:∀ u∈r.has,∀ f∈u.says,f.args.length<=1000000):FnOk false Tryz.prog tab b9 187 [.agg [.row 0,.row 1]] 2 2 [(0,.row 82 5 (r.has.map aa)),(1,.row 82 5 (r.waits.map aa))] (λk res H=>k=2/\res = .d (.slice 2 ((a8 ((keptU r.has).flatMap Upd.says)).map ae))/\H=[(0,.row 82 5 (r.has.map aa)),(1,.row 82 5 (r.waits.map aa))]):=by
 refine frE Tryz.func187 ?_;intro O w0 E0 β0;have lh:(r.has.map aa).length=r.has.length:=Aa _;repeat' (first|refine zs ?_|fail)
 refine ds_mapNew false rfl rfl ?_;repeat' (first|refine zs ?_|fail)
 refine ag (ι:=Nat×List (MK×Int)) (λx=>⟨4,[(1,.loc 2 0),(3,.mp 3),(13,.row 0),(14,.d (.int .i64 (r.has.map aa).length)),(15,.d (.int .i64 x.1))],
   [(0,.row 82 5 (r.has.map aa)),(1,.row 82 5 (r.waits.map aa)),(2,.blk 72 [.row 0,.row 1]),(3,.map false x.2)]⟩)
  (λx=>x.1<=r.has.length/\CntIs x.2 ((r.has.take x.1).flatMap Upd.takes)) (λx=>r.has.length-x.1) (0,[]) ⟨Ak _,.nil⟩ (er id) ?_
 rintro⟨p,m⟩ ⟨h1,h2⟩;dsimp only at h1 h2 ⊢;by_cases hi:p<r.has.length
 ·have lq:(r.has[p].takes.map ck).length=r.has[p].takes.length:=Aa _;have hsum:((r.has.take p).flatMap Upd.takes).length+r.has[p].takes.length<=(r.has.flatMap Upd.takes).length:=by
   have e:r.has.flatMap Upd.takes=(r.has.take p).flatMap Upd.takes++(r.has[p].takes++(r.has.drop (p+1)).flatMap Upd.takes):=by
    conv=>lhs;rw [<- List.take_append_drop p r.has,Am hi,Di,Dx]
   rw [e,Af,Af];omega
  repeat' (first|refine zs ?_|(refine zm ?_ ?_<;>intro hg)|(exfalso;omega))
  refine ag (ι:=Nat×List (MK×Int)) (λx=>⟨4,[(1,.loc 2 0),(3,.mp 3),(13,.row 0),(14,.d (.int .i64 (r.has.map aa).length)),(15,.d (.int .i64 p)),(20,.d (.slice 2 (r.has[p].takes.map ck))),(21,.d (.int .i64 (r.has[p].takes.map ck).length)),(22,.d (.int .i64 x.1))],
    [(0,.row 82 5 (r.has.map aa)),(1,.row 82 5 (r.waits.map aa)),(2,.blk 72 [.row 0,.row 1]),(3,.map false x.2)]⟩)
   (λx=>x.1<=r.has[p].takes.length/\CntIs x.2 ((r.has.take p).flatMap Upd.takes++r.has[p].takes.take x.1)) (λx=>r.has[p].takes.length-x.1) (0,m) ⟨Ak _,by simpa using h2⟩ (er id) ?_
  rintro⟨q,m⟩ ⟨g1,g2⟩;dsimp only at g1 g2 ⊢;by_cases hq:q<r.has[p].takes.length
  ·repeat' ((fail_if_success (apply bk 8));(first|refine zs ?_|(refine zm ?_ ?_<;>intro hg)|fail))
   all_goals try (exfalso;omega)
   have hle:=g2.le r.has[p].takes[q];rw [Af,List.length_take] at hle;have hinc:=g2.inc r.has[p].takes[q];rw [List.append_assoc,<- An hq] at hinc;refine dw_inc rfl (by kernel_rfl) (by kernel_rfl) rfl (by kernel_rfl) rfl rfl rfl rfl rfl rfl rfl rfl mapId_t rfl rfl (evC_sound rfl trivial rfl) rfl rfl (λH'=>ev_add rfl rfl ⟨?_,?_⟩) ?_
   ·show _<=(mapGet? m (lf r.has[p].takes[q])).getD 0+1;omega
   ·show (mapGet? m (lf r.has[p].takes[q])).getD 0+1<=_;omega
   repeat' (first|refine zs ?_|fail)
   exact⟨(q+1,incM m r.has[p].takes[q]),⟨hq,hinc⟩,er id,by show _-(q+1)<_-q;omega⟩
  ·repeat' (first|refine zs ?_|(refine zm ?_ ?_<;>intro hg)|(exfalso;omega))
   refine⟨(p+1,m),⟨hi,?_⟩,er id,by show _-(p+1)<_-p;omega⟩
   have e9:r.has[p].takes.take q=r.has[p].takes:=Ai (by omega);rw [e9] at g2;rw [An hi,Di];simpa using g2
 ·repeat' (first|refine zs ?_|(refine zm ?_ ?_<;>intro hg)|(exfalso;omega))
  rw [Ai (by omega)] at h2;refine ak (cd (t:=8) 37 2 rfl) ?_;refine ag (ι:=Nat) (λi=>⟨4,[(3,.mp 2),(8,.row 3),(35,.row 0),(36,.d (.int .i64 (r.has.map aa).length)),(37,.d (.int .i64 i))],
    [(0,.row 82 5 (r.has.map aa)),(1,.row 82 5 (r.waits.map aa)),(2,.map false m),(3,.row 37 2 (((kw r.has (r.has.take i)).flatMap Upd.says).map ae))]⟩)
   (λi=>i<=r.has.length) (λi=>r.has.length-i) 0 (Ak _) (er (λj=>match j with|2=>3|3=>4|j=>j)) ?_
  intro i gi;by_cases hi:i<r.has.length
  ·have lo:=wj r.has (i+1);have ls:(r.has[i].says.map ae).length=r.has[i].says.length:=Aa _;repeat' (first|refine zs ?_|(refine zm ?_ ?_<;>intro hg)|(exfalso;omega))
   refine ds_lookup (kd:=false) (kvs:=m) (key:=lf r.has[i].id) mapId_t rfl rfl rfl rfl rfl rfl ?_;have hz:=h2.zero r.has[i].id;have hst:kw r.has (r.has.take (i+1))=kw r.has (r.has.take i)++kw r.has [r.has[i]]:=by unfold kw;rw [An hi,Du]
   repeat' (first|refine zs ?_|(refine zm ?_ ?_<;>intro hg)|fail)
   ·have hd:kw r.has [r.has[i]]=[r.has[i]]:=by unfold kw;rw [B7,hz.1 (by assumption)];rfl
    rw [hd] at hst;have hf:(kw r.has (r.has.take (i+1))).flatMap Upd.says=(kw r.has (r.has.take i)).flatMap Upd.says++r.has[i].says:=by rw [hst,Di];simp
    rw [hf,Af] at lo;refine ds_tradeC rfl ⟨by rw [Aa,ls];omega,by unfold maxLen;rw [Aa,ls];omega⟩ rfl rfl rfl rfl ?_;repeat' (first|refine zs ?_|fail)
    exact⟨i+1,hi,ai (λj=>match j with|3=>_|j=>j) ⟨rfl,rfl,rfl,rfl,rfl,trivial⟩ ⟨rfl,rfl,rfl,by rw [hf,Ar];rfl,trivial⟩ rfl rfl rfl rfl rfl rfl,by omega⟩
   ·have hd:kw r.has [r.has[i]]=[]:=by
     unfold kw;rw [B7,if_neg,List.filter_nil];intro h;rw [Bool.not_eq_true'] at h;exact absurd (hz.2 h) (by assumption)
    rw [hd,Bt] at hst;exact⟨i+1,hi,ai id ⟨rfl,rfl,rfl,rfl,rfl,trivial⟩ ⟨rfl,rfl,rfl,by rw [hst];rfl,trivial⟩ rfl rfl rfl rfl rfl rfl,by omega⟩
  ·rw [Ai (by omega)];have w:=set_fn ((kw r.has r.has).flatMap Upd.says) (by have:=wj r.has r.has.length;rw [Ai (Ah _)] at this;omega) (λf hf=>by
    obtain⟨u,hu,hf⟩:=List.mem_flatMap.1 hf;have:=hsa u (List.mem_filter.1 hu).1 f hf
    omega)
   refine ak (bh 8 rfl rfl rfl) ?_;repeat' (first|refine zr ?_|refine z21 ?_ (hc:=by apply w)|(refine zm ?_ ?_<;>intro hg)|(exfalso;omega))
   exact⟨.inl rfl,_,rfl,kp id 2 _ ([(0,.row 82 5 (r.has.map aa)),(1,.row 82 5 (r.waits.map aa))]) ⟨rfl,rfl,rfl⟩⟩
theorem flat_len {α:Type} (f:Upd->List α) (n:Nat):∀ (l:List Upd),(∀ u∈l,(f u).length<=n)->(l.flatMap f).length<=l.length*n
 | [],_=>Ak _
 | u::l,h=>by
  rw [Dx,Af,List.length_cons,Nat.add_mul,Nat.one_mul]
  have h1:=h u (List.mem_cons_self ..)
  have h2:=flat_len f n l λv hv=>h v (List.mem_cons_of_mem _ hv)
  omega
theorem saysB_pred {f:Fct} (h:inR f.pred 0 9=false):saysB f=false:=by unfold saysB;rw [h];rfl
theorem saysB_many {f:Fct} (h:¬ f.args.length<=3):saysB f=false:=by unfold saysB;rw [decide_eq_false h,Dw,Bool.and_false]
theorem saysB_all {f:Fct} (h1:inR f.pred 0 9=true) (h2:f.args.length<=3):saysB f=f.args.all numB:=by unfold saysB;rw [h1,decide_eq_true h2,Df,Df]
theorem x8 (u:Upd):Fn 34 [gc u] (λr=>r = .d (.int .i64 (db u))):=by
 refine fqE Tryz.func34 ?_;intro O w0 E0 β0;have h1:=areIds_fn u.parents;have h2:=areIds_fn u.takes;have h3:=idsRise_fn u.parents;have h4:=idsRise_fn u.takes;have h5:=hasId_fn u.parents ⟨u.id.author,u.id.number-1⟩;have h8:=isId_fn u.id;have hid:=λh=>(yu (i:=u.id) h).2.2.2
 have hid1:=λh=>(yu (i:=u.id) h).2.2.1
 generalize hans:db u=ans;unfold db at hans;generalize idB u.id=b0 at *;have hidN:b0=false∨(b0=true/\1<=u.id.number/\u.id.number<=200):=by
  cases b0 with
  | false=>exact .inl rfl
  | true=>exact .inr ⟨rfl,hid1 rfl,hid rfl⟩
 clear hid hid1;rcases hidN with rfl|⟨rfl,n1,n2⟩
 ·repeat' (first|refine zr ?_|refine z21 ?_ (hc:=by apply h8)|fail)
  all_goals exact a6 rfl (by simpa using hans)
 generalize (u.parents.all λx=>idB x)=b1 at *;generalize (u.takes.all λx=>idB x)=b2 at *;generalize dg bw u.parents=b3 at *;generalize dg bw u.takes=b4 at *;generalize (u.parents.any λx=>x.same ⟨u.id.author,u.id.number-1⟩)=b5 at *;repeat' (first|refine zr ?_|refine z21 ?_ (hc:=by apply h8)|refine z21 ?_ (hc:=by apply h1)|refine z21 ?_ (hc:=by apply h2)|refine z21 ?_ (hc:=by apply h3)|refine z21 ?_ (hc:=by apply h4)|refine z21 ?_ (hc:=by apply h5)|(refine zm ?_ ?_<;>intro hg)|fail)
 all_goals first
  | (refine a6 rfl ?_
     clear h1 h2 h3 h4 h5 h8;first|(simp_all;done)|(simp_all;omega)|(simp_all;intros;omega))
  | skip
 all_goals
  have hC:ans=if u.says.all saysB=false then 3 else if dg de u.says=false then 4 else 0:=by
   clear h1 h2 h3 h4 h5 h8;have l1:(u.parents.map ck).length=u.parents.length:=Aa _;have l2:(u.says.map ae).length=u.says.length:=Aa _;have l3:(u.takes.map ck).length=u.takes.length:=Aa _;rw [<- hans,if_neg (by simp),if_neg (by omega),if_neg (by simp_all),if_neg (by simp_all),if_neg (by first|(simp_all;done)|(simp_all;omega))]
  clear hans h1 h2 h3 h4 h5 h8;refine dw_lenC 0 3 rfl rfl λhb=>?_
  have ls:(u.says.map ae).length=u.says.length:=Aa _;refine ag (ι:=Nat) (λi=>⟨1,[(1,.loc 0 0),(3,.d (.int .i64 i))],[(0,.blk 82 [.d (.int .i64 u.id.author),.d (.int .i64 u.id.number),.d (.slice 2 (u.parents.map ck)),.d (.slice 2 (u.says.map ae)),.d (.slice 2 (u.takes.map ck))])]⟩)
   (λi=>i<=u.says.length/\u.says.all saysB=(u.says.drop i).all saysB) (λi=>u.says.length-i) 0 ⟨Ak _,rfl⟩
   (er id) ?_
  rintro i ⟨g1,g2⟩;repeat' (first|refine zs ?_|fail)
  refine bf rfl (λh=>?_) (λh=>?_)
  ·have hi:i<u.says.length:=by omega
   have hd:=all_step (p:=saysB) hi;generalize hf:u.says[i]=f at hd;repeat' (first|refine zs ?_|fail)
   rw [hf];repeat' (first|refine zr ?_|refine z21 ?_ (hc:=by apply rn)|(refine zm ?_ ?_<;>intro hg)|fail)
   all_goals first
    | (refine a6 rfl ?_
       have la:(f.args.map aq).length=f.args.length:=Aa _;have hF:saysB f=false:=by
        first
         | (apply saysB_many;omega)
         | (apply saysB_pred;simp_all;done)
       rw [hC,g2,hd,hF];rfl)
    | skip
   have hF:saysB f=f.args.all numB:=saysB_all (by simp_all) (by have la:(f.args.map aq).length=f.args.length:=Aa _;omega);refine ag (ι:=Nat) (λk=>⟨2,[(1,.loc 0 0),(3,.d (.int .i64 i)),(4,.loc 1 0),(5,.d (.int .i64 k))],[(0,.blk 82 [.d (.int .i64 u.id.author),.d (.int .i64 u.id.number),.d (.slice 2 (u.parents.map ck)),.d (.slice 2 (u.says.map ae)),.d (.slice 2 (u.takes.map ck))]),(1,.blk 37 [.d (.int .i64 f.pred),.d (.slice 1 (f.args.map aq))])]⟩)
    (λk=>k<=f.args.length/\f.args.all numB=(f.args.drop k).all numB) (λk=>f.args.length-k) 0 ⟨Ak _,rfl⟩
    (er id) ?_
   rintro k ⟨q1,q2⟩;have la:(f.args.map aq).length=f.args.length:=Aa _;repeat' (first|refine zs ?_|fail)
   refine bf rfl (λhk=>?_) (λhk=>?_)
   ·have hkl:k<f.args.length:=by omega
    have hd2:=all_step (p:=numB) hkl;repeat' (first|refine zs ?_|refine z21 ?_ (hc:=by apply isNumber_fn)|fail)
    refine d7 rfl (λhn=>?_) (λhn=>?_)
    ·repeat' (first|refine zr ?_|fail)
     refine a6 rfl ?_;have:numB f.args[k]=false:=by simpa using hn
     rw [hC,g2,hd,hF,q2,hd2,this];rfl
    ·repeat' (first|refine zs ?_|fail)
     have:numB f.args[k]=true:=by simpa using hn
     exact⟨k+1,⟨hkl,by rw [q2,hd2,this];rfl⟩,er id,by omega⟩
   ·repeat' (first|refine zs ?_|fail)
    exact⟨i+1,⟨hi,by rw [g2,hd,hF,q2,all_end (by omega)];rfl⟩,er id,by omega⟩
  ·have hS:u.says.all saysB=true:=by rw [g2,all_end (by omega)]
   rw [hS,if_neg (by simp)] at hC;repeat' (first|refine zs ?_|fail)
   refine ag (ι:=Nat) (λi=>⟨1,[(1,.loc 0 0),(6,.d (.int .i64 ((i:Int)+1)))],[(0,.blk 82 [.d (.int .i64 u.id.author),.d (.int .i64 u.id.number),.d (.slice 2 (u.parents.map ck)),.d (.slice 2 (u.says.map ae)),.d (.slice 2 (u.takes.map ck))])]⟩)
    (λi=>i<=u.says.length/\dg de u.says=dg de (u.says.drop i)) (λi=>u.says.length-i) 0 ⟨Ak _,rfl⟩
    (er id) ?_
   rintro j ⟨j1,j2⟩;repeat' (first|refine zs ?_|fail)
   refine bf rfl (λh=>?_) (λh=>?_)
   ·have hj:j+1<u.says.length:=by omega
    have e0:∀ (m:Nat) (hm:m<u.says.length),m=j->u.says[m]'hm=u.says[j]'(by omega):=by rintro m hm rfl;rfl
    repeat' (first|refine zs ?_|refine z22 ?_ (hc:=by apply t8)|fail)
    refine bf rfl (λhb=>?_) (λhb=>?_)
    ·repeat' (first|refine zr ?_|fail)
     rw [e0 _ _ (by omega)] at hb;exact a6 rfl (by rw [hC,j2,sk hj (by omega)];rfl)
    ·repeat' (first|refine zs ?_|fail)
     rw [e0 _ _ (by omega)] at hb;exact⟨j+1,⟨by omega,by rw [j2,ww hj (by omega)]⟩,er id,by omega⟩
   ·repeat' (first|refine zr ?_|fail)
    exact a6 rfl (by rw [hC,j2,sj (by omega)];rfl)

theorem nums {n:Int} (h:numB n=true):-4294967296<=n/\n<4294967296:=by
 unfold numB inR at h;simp only [Ae,decide_eq_true_eq] at h;omega





theorem sameUpdate_fn (a b:Upd):Fn 149 [gc a,gc b] (λr=>r = .d (.bool (a.same b))):=by
 refine fqE Tryz.func149 ?_;intro O w0 E0 β0;have h1:=sameIds_fn a.parents b.parents;have h2:=jj a.says b.says;have h3:=sameIds_fn a.takes b.takes;unfold Upd.same;have e:a.id.same b.id=(decide (a.id.author=b.id.author) && (decide (a.id.number=b.id.number) && true)):=by unfold UId.same;rw [Bool.and_true]
 rw [e];generalize ea UId.same a.parents b.parents=x1 at h1 ⊢;generalize ea Fct.same a.says b.says=x2 at h2 ⊢;generalize ea UId.same a.takes b.takes=x3 at h3 ⊢;repeat' (first|refine zr ?_|refine z21 ?_ (hc:=by apply h1)|refine z21 ?_ (hc:=by apply h2)|refine z21 ?_ (hc:=by apply h3)|(refine zm ?_ ?_<;>intro hg)|fail)
 all_goals exact a7 rfl (by simp_all)
theorem fact_fn (p:Int) (l:List Int):Fn 43 [.d (.int .i64 p),.d (.slice 1 (l.map aq))] (λr=>r=fi ⟨p,l⟩):=by
 refine fqE Tryz.func43 ?_;intro O w0 E0 β0;repeat' (first|refine zr ?_|fail)
 exact⟨.inl rfl,_,rfl,rfl,rfl⟩
def firstU:Upd:=⟨⟨0,1⟩,[],[⟨0,[1,2]⟩,⟨0,[2,3]⟩],[]⟩
def secondU:Upd:=⟨⟨1,1⟩,[⟨0,1⟩],[⟨0,[4,5]⟩],[⟨0,1⟩]⟩
theorem wpairs_fn:Fn 42 [] (λr=>r = .d (.slice 2 (firstU.says.map ae))):=by
 refine fqE Tryz.func42 ?_;intro O w0 E0 β0;have h1:=fact_fn 0 [1,2];have h2:=fact_fn 0 [2,3];repeat' (first|refine zr ?_|refine z21 ?_ (hc:=by apply h1)|refine z21 ?_ (hc:=by apply h2)|fail)
 exact⟨.inl rfl,_,rfl,rfl,rfl⟩
theorem first_fn:Fn 92 [] (λr=>r=gc firstU):=by
 refine fqE Tryz.func92 ?_;intro O w0 E0 β0;repeat' (first|refine zs ?_|refine z21 ?_ (hc:=by apply wpairs_fn)|fail)
 refine ak (bi 0 2 2 rfl rfl rfl) ?_;refine ak (bi 0 4 2 rfl rfl rfl) ?_;repeat' (apply c9)
 exact⟨.inl rfl,_,rfl,rfl,rfl⟩
theorem second_fn:Fn 93 [] (λr=>r=gc secondU):=by
 refine fqE Tryz.func93 ?_;intro O w0 E0 β0;have h1:=fact_fn 0 [4,5];repeat' (first|refine zr ?_|refine z21 ?_ (hc:=by apply h1)|fail)
 exact⟨.inl rfl,_,rfl,rfl,rfl⟩
theorem qp (l:List Upd) (y:UId) (hl:l.length<=4398046511104):Fn 39 [.d (.slice 5 (l.map aa)),o8 y] (λr=>r = .d (.int .i64 (kr (λu=>u.id.same y) l))):=by
 refine fqE Tryz.func39 ?_;intro O w0 E0 β0;have ll:(l.map aa).length=l.length:=Aa _;repeat' (first|refine zs ?_|fail)
 refine ag (ι:=Nat) (λi=>⟨1,[(0,.d (.slice 5 (l.map aa))),(3,.loc 0 0),(5,.d (.int .i64 i))],[(0,.blk 79 [.d (.int .i64 y.author),.d (.int .i64 y.number)])]⟩)
  (λi=>i<=l.length/\∀ j (hj:j<l.length),j<i->UId.same l[j].id y=false) (λi=>l.length-i) 0 ⟨Ak _,λj _ h=>absurd h (Nat.not_lt_zero j)⟩
  (er id) ?_
 rintro i ⟨h1,h2⟩;dsimp only at h1 h2 ⊢;repeat' (first|refine zs ?_|fail)
 refine bf rfl (λh=>?_) (λh=>?_)
 ·have hi:i<l.length:=by omega
  repeat' (first|refine zs ?_|fail)
  refine d7 rfl (λhb=>?_) (λhb=>?_)
  ·repeat' (first|refine zr ?_|fail)
   exact a6 rfl (jp (p:=λu:Upd=>u.id.same y) h2 hi (sd hb)).symm
  ·repeat' (first|refine zs ?_|fail)
   exact⟨i+1,⟨hi,gz (p:=λu:Upd=>u.id.same y) h2 hi (sd hb)⟩,er id,by omega⟩
 ·repeat' (first|refine zr ?_|fail)
  exact a6 rfl (ja (p:=λu:Upd=>u.id.same y) λj hj=>h2 j hj (by omega)).symm
theorem underOf_fn (u:Upd) (h:u.parents.length+u.takes.length<=1000000):Fn 148 [gc u] (λr=>r = .d (.slice 2 ((cv u).map ck))):=by
 refine fqE Tryz.func148 ?_;intro O w0 E0 β0;have lp:(u.parents.map ck).length=u.parents.length:=Aa _;have lt:(u.takes.map ck).length=u.takes.length:=Aa _;repeat' (first|(apply dt_bs0;exact rfl;exact rfl;exact rfl;exact rfl;exact rfl;exact rfl;exact rfl;exact rfl;exact rfl;exact rfl)|(first|refine zs ?_|fail))
 refine ak (bh 2 rfl rfl rfl) ?_;repeat' (apply c9)
 exact⟨.inl rfl,_,rfl,rfl,by unfold cv;rw [Ar];rfl⟩
theorem qj (l m:List (Upd)):Fn 94 [.d (.slice 5 (l.map aa)),.d (.slice 5 (m.map aa))] (λr=>r = .d (.bool (ea Upd.same l m))):=by
 refine fqE Tryz.func94 ?_;intro O w0 E0 β0;refine cp (t:=0) rfl λhb=>?_
 repeat' (first|refine zs ?_|fail)
 refine bf rfl (λh=>?_) (λh=>?_)
 ·have hne:l.length≠m.length:=by rw [Aa,Aa] at h;omega
  repeat' (first|refine zr ?_|fail)
  exact a7 rfl (se _ _ _ hne).symm
 ·have hlen:l.length=m.length:=by rw [Aa,Aa] at h;omega
  repeat' (first|refine zs ?_|fail)
  refine ag (ι:=Nat) (λi=>⟨0,[(0,.d (.slice 5 (l.map aa))),(1,.d (.slice 5 (m.map aa))),(5,.d (.int .i64 i))],[]⟩)
   (λi=>i<=l.length/\ea Upd.same l m=ea Upd.same (l.drop i) (m.drop i)) (λi=>l.length-i) 0 ⟨Ak _,rfl⟩
   (er id) ?_
  rintro i ⟨h1,h2⟩;repeat' (first|refine zs ?_|fail)
  refine bf rfl (λh=>?_) (λh=>?_)
  ·have hi:i<l.length:=by rw [Aa] at h;omega
   have hm:i<m.length:=by omega
   have hd:=tr Upd.same l m i hi hm;repeat' (first|refine zs ?_|refine z22 ?_ (hc:=by apply sameUpdate_fn)|fail)
   refine d7 rfl (λhb=>?_) (λhb=>?_)
   ·have hp:Upd.same l[i] m[i]=false:=by simpa using hb
    repeat' (first|refine zr ?_|fail)
    exact a7 rfl (by rw [h2,hd,hp];rfl)
   ·have hp:Upd.same l[i] m[i]=true:=by simpa using hb
    repeat' (first|refine zs ?_|fail)
    exact⟨i+1,⟨hi,by rw [h2,hd,hp];rfl⟩,er id,by omega⟩
  ·repeat' (first|refine zr ?_|fail)
   exact a7 rfl (by rw [h2,yj _ _ _ _ (by rw [Aa] at h;omega) (by rw [Aa] at h;omega)])
theorem wg (a b:Rpl):Fn 40 [jf a,jf b] (λr=>r = .d (.bool (ea Upd.same a.has b.has && ea Upd.same a.waits b.waits))):=by
 refine fqE Tryz.func40 ?_;intro O w0 E0 β0;have w1:=qj a.has b.has;have w2:=qj a.waits b.waits;cases hb:ea Upd.same a.has b.has with
 | true =>
  rw [hb] at w1;repeat' (first|refine zr ?_|refine z21 ?_ (hc:=by apply w1)|refine z21 ?_ (hc:=by apply w2)|fail)
  exact a7 rfl rfl
 | false =>
  rw [hb] at w1;repeat' (first|refine zr ?_|refine z21 ?_ (hc:=by apply w1)|fail)
  exact a7 rfl rfl
theorem hasU_idx (l:List Upd) (i:UId):decide (kr (λu=>u.id.same i) l<0) = !hasU l i:=by
 have h:=ol (λu:Upd=>u.id.same i) l;unfold hasU;rw [<- h];cases hd:decide (kr (λu:Upd=>u.id.same i) l ≥ 0) with
 | true=>rw [decide_eq_true_eq] at hd;exact decide_eq_false (by omega)
 | false=>rw [decide_eq_false_iff_not] at hd;exact decide_eq_true (by omega)
theorem xr (has:List Upd) (u:Upd) (hl:has.length<=4398046511104) (h:u.parents.length+u.takes.length<=1000000):Fn 90 [.d (.slice 5 (has.map aa)),gc u] (λr=>r = .d (.bool (readyU has u))):=by
 refine fqE Tryz.func90 ?_;intro O w0 E0 β0;have w1:=underOf_fn u h;have hr:readyU has u=(cv u).all (hasU has):=rfl;have hlen:(cv u).length<=1000000:=by unfold cv;rw [Af];omega
 generalize cv u=ids at w1 hr hlen;have li:(ids.map ck).length=ids.length:=Aa _;repeat' (first|refine zs ?_|refine z21 ?_ (hc:=by apply w1)|fail)
 refine ag (ι:=Nat) (λi=>⟨0,[(0,.d (.slice 5 (has.map aa))),(5,.d (.slice 2 (ids.map ck))),(6,.d (.int .i64 i))],[]⟩)
  (λi=>i<=ids.length/\readyU has u=(ids.drop i).all (hasU has)) (λi=>ids.length-i) 0 ⟨Ak _,hr⟩ (er id) ?_
 rintro i ⟨g1,g2⟩;dsimp only at g1 g2 ⊢;by_cases hi:i<ids.length
 ·have w2:=qp has ids[i] hl;have hd:=hasU_idx has ids[i];rw [Am hi,List.all_cons] at g2;cases hb:hasU has ids[i] with
  | true =>
   rw [hb] at hd g2;have hd:=of_decide_eq_false hd;rw [Df] at g2;clear w1;repeat' (first|refine zs ?_|refine z21 ?_ (hc:=by apply w2)|(refine zm ?_ ?_<;>intro hg)|(exfalso;omega))
   exact⟨i+1,⟨hi,g2⟩,er id,by omega⟩
  | false =>
   rw [hb] at hd g2;have hd:=of_decide_eq_true hd;rw [Dw] at g2;rw [g2];clear w1;repeat' (first|refine zr ?_|refine z21 ?_ (hc:=by apply w2)|(refine zm ?_ ?_<;>intro hg)|(exfalso;omega))
   exact a7 rfl rfl
 ·rw [As (by omega)] at g2;rw [g2];repeat' (first|refine zr ?_|(refine zm ?_ ?_<;>intro hg)|(exfalso;omega))
  exact a7 rfl rfl
theorem inOrder_fn (l:List Upd) (u:Upd) (hl:l.length<=1000000):Fn 89 [.d (.slice 5 (l.map aa)),gc u] (λr=>r = .d (.slice 5 ((po l u).map aa))):=by
 refine fqE Tryz.func89 ?_;intro O w0 E0 β0;have ll:(l.map aa).length=l.length:=Aa _;repeat' (first|refine zs ?_|fail)
 refine ak (cd (t:=5) 82 5 rfl) ?_;refine ag (ι:=Nat×Bool×List Upd) (λx=>⟨2,[(0,.d (.slice 5 (l.map aa))),(3,.loc 0 0),(5,.row 1),(6,.d (.bool x.2.1)),(7,.d (.int .i64 x.1))],
   [(0,.blk 82 [.d (.int .i64 u.id.author),.d (.int .i64 u.id.number),.d (.slice 2 (u.parents.map ck)),.d (.slice 2 (u.says.map ae)),.d (.slice 2 (u.takes.map ck))]),(1,.row 82 5 (x.2.2.map aa))]⟩)
  (λx=>x.1<=l.length/\po l u=x.2.2++(match x.2.1 with|true=>l.drop x.1|false=>po (l.drop x.1) u)/\x.2.2.length<=x.1+(match x.2.1 with|true=>1|false=>0)) (λx=>l.length-x.1) (0,false,[]) ⟨Ak _,rfl,Ak _⟩
  (er id) ?_
 rintro⟨i,b,out⟩ ⟨g1,g2,g3⟩;dsimp only at g1 g2 g3 ⊢;have lo:(out.map aa).length=out.length:=Aa _;by_cases hi:i<l.length
 ·have w:=idOrder_fn u.id l[i].id;rw [Am hi] at g2;cases b with
  | true =>
   dsimp only at g2 g3;repeat' (first|refine zs ?_|(refine zm ?_ ?_<;>intro hg)|(exfalso;omega))
   exact⟨(i+1,true,out++[l[i]]),⟨hi,by rw [g2];simp,by rw [Af,Au];dsimp only;omega⟩,ai (λj=>match j with|1=>2|j=>j) ⟨rfl,rfl,rfl,rfl,rfl,trivial⟩ ⟨rfl,by rw [Ar];rfl,trivial⟩ rfl rfl rfl rfl rfl rfl,by show l.length-(i+1)<l.length-i;omega⟩
  | false =>
   dsimp only at g2 g3;rw [po] at g2;by_cases hlt:bw u.id l[i].id<0
   ·rw [if_pos hlt] at g2;repeat' (first|refine zs ?_|refine z22 ?_ (hc:=by apply w)|(refine zm ?_ ?_<;>intro hg)|(exfalso;omega))
    exact⟨(i+1,true,out++[u]++[l[i]]),⟨hi,by rw [g2];simp,by rw [Af,Af,Au,Au];dsimp only;omega⟩,ai (λj=>match j with|1=>3|j=>j) ⟨rfl,rfl,rfl,rfl,rfl,trivial⟩ ⟨rfl,by rw [Ar,Ar];rfl,trivial⟩ rfl rfl rfl rfl rfl rfl,by show l.length-(i+1)<l.length-i;omega⟩
   ·rw [if_neg hlt] at g2;repeat' (first|refine zs ?_|refine z22 ?_ (hc:=by apply w)|(refine zm ?_ ?_<;>intro hg)|(exfalso;omega))
    exact⟨(i+1,false,out++[l[i]]),⟨hi,by rw [g2];simp,by rw [Af,Au];dsimp only;omega⟩,ai (λj=>match j with|1=>2|j=>j) ⟨rfl,rfl,rfl,rfl,rfl,trivial⟩ ⟨rfl,by rw [Ar];rfl,trivial⟩ rfl rfl rfl rfl rfl rfl,by show l.length-(i+1)<l.length-i;omega⟩
 ·rw [As (by omega)] at g2;cases b with
  | true =>
   dsimp only at g2;rw [Bt] at g2;repeat' (first|refine zs ?_|(refine zm ?_ ?_<;>intro hg)|(exfalso;omega))
   refine ak (bh 4 rfl rfl rfl) ?_;repeat' (apply c9)
   exact⟨.inl rfl,_,rfl,rfl,by rw [g2];rfl⟩
  | false =>
   dsimp only at g2 g3;repeat' (first|refine zs ?_|(refine zm ?_ ?_<;>intro hg)|(exfalso;omega))
   refine ak (bh 4 rfl rfl rfl) ?_;repeat' (apply c9)
   exact⟨.inl rfl,_,rfl,rfl,by rw [g2,Ar];rfl⟩
abbrev rplB (r:Rpl):HB:=.blk 72 [.d (.slice 5 (r.has.map aa)),.d (.slice 5 (r.waits.map aa))]
def hasT (l:List Upd) (i:UId):Bool:=l.any λv=>v.takes.any λj=>j.same i
theorem keptL_snoc (has l:List Upd) (x:Upd):kw has (l++[x])=kw has l++(match hasT has x.id with|true=>[]|false=>[x]):=by
 unfold kw hasT;rw [Du,B7,List.any_flatMap];cases has.any λv=>v.takes.any λj=>j.same x.id<;>rfl
theorem hasT_snoc {l:List Upd} {k:Nat} (hk:k<l.length) (i:UId):hasT (l.take (k+1)) i=(hasT (l.take k) i || l[k].takes.any λj=>j.same i):=by
 unfold hasT;rw [An hk,List.any_append];simp
theorem factsOf_fn (r:Rpl) (hl:r.has.length<=1000000) (hsy:(r.has.flatMap Upd.says).length<=1000000):Fn 146 [jf r] (λres=>res = .d (.slice 2 ((a8 ((keptU r.has).flatMap Upd.says)).map ae))):=by
 refine fqE Tryz.func146 ?_;intro O w0 E0 β0;have ll:(r.has.map aa).length=r.has.length:=Aa _;repeat' (first|refine zs ?_|fail)
 refine ak (cd (t:=3) 37 2 rfl) ?_;refine ag (ι:=Nat) (λi=>⟨2,[(1,.loc 0 0),(3,.row 1),(4,.d (.int .i64 i))],[(0,rplB r),(1,.row 37 2 (((kw r.has (r.has.take i)).flatMap Upd.says).map ae))]⟩)
  (λi=>i<=r.has.length) (λi=>r.has.length-i) 0 (Ak _) (er id) ?_
 intro i g1;by_cases hi:i<r.has.length
 ·have hst:=keptL_snoc r.has (r.has.take i) r.has[i];rw [<- An hi] at hst;repeat' (first|refine zs ?_|(refine zm ?_ ?_<;>intro hg)|(exfalso;omega))
  refine ag (ι:=Nat) (λk=>⟨2,[(1,.loc 0 0),(3,.row 1),(4,.d (.int .i64 i)),(5,.d (.bool (hasT (r.has.take k) r.has[i].id))),(6,.d (.int .i64 k))],[(0,rplB r),(1,.row 37 2 (((kw r.has (r.has.take i)).flatMap Upd.says).map ae))]⟩)
   (λk=>k<=r.has.length) (λk=>r.has.length-k) 0 (Ak _) (er id) ?_
  intro k g2;by_cases hk:k<r.has.length
  ·have hsn:=hasT_snoc hk r.has[i].id;have w:=hasId_fn r.has[k].takes r.has[i].id;cases hb:hasT (r.has.take k) r.has[i].id with
   | true =>
    rw [hb,Bool.true_or] at hsn;repeat' (first|refine zs ?_|(refine zm ?_ ?_<;>intro hg)|(exfalso;omega))
    exact⟨k+1,hk,ai id ⟨rfl,rfl,rfl,by rw [hsn];rfl,rfl,trivial⟩ ⟨rfl,rfl,trivial⟩ rfl rfl rfl rfl rfl rfl,by omega⟩
   | false =>
    rw [hb,Bool.false_or] at hsn;rw [<- hsn] at w;repeat' (first|refine zs ?_|refine z22 ?_ (hc:=by apply w)|(refine zm ?_ ?_<;>intro hg)|(exfalso;omega))
    exact⟨k+1,hk,er id,by omega⟩
  ·rw [Ai (by omega:r.has.length<=k)];cases hb:hasT r.has r.has[i].id with
   | true =>
    rw [hb] at hst;dsimp only at hst;rw [Bt] at hst;repeat' (first|refine zs ?_|(refine zm ?_ ?_<;>intro hg)|(exfalso;omega))
    exact⟨i+1,hi,ai id ⟨rfl,rfl,rfl,trivial⟩ ⟨rfl,by rw [hst];rfl,trivial⟩ rfl rfl rfl rfl rfl rfl,by omega⟩
   | false =>
    rw [hb] at hst;dsimp only at hst;repeat' (first|refine zs ?_|(refine zm ?_ ?_<;>intro hg)|(exfalso;omega))
    have lo:=wj r.has (i+1);have ls:(r.has[i].says.map ae).length=r.has[i].says.length:=Aa _;have hf:(kw r.has (r.has.take (i+1))).flatMap Upd.says=(kw r.has (r.has.take i)).flatMap Upd.says++r.has[i].says:=by rw [hst,Di];simp
    rw [hf,Af] at lo;refine ds_tradeC rfl ⟨by rw [Aa,ls];omega,by unfold maxLen;rw [Aa,ls];omega⟩ rfl rfl rfl rfl ?_;repeat' (first|refine zs ?_|fail)
    exact⟨i+1,hi,ai (λj=>match j with|1=>2|j=>j) ⟨rfl,rfl,rfl,trivial⟩ ⟨rfl,by rw [hf,Ar];rfl,trivial⟩ rfl rfl rfl rfl rfl rfl,by omega⟩
 ·rw [Ai (by omega:r.has.length<=i)];have w:=sc ((kw r.has r.has).flatMap Upd.says) (by have:=wj r.has r.has.length;rw [Ai (Ah _)] at this;omega);refine ak (bh 3 rfl rfl rfl) ?_;repeat' (first|refine zr ?_|refine z21 ?_ (hc:=by apply w)|(refine zm ?_ ?_<;>intro hg)|(exfalso;omega))
  exact⟨.inl rfl,_,rfl,rfl,rfl⟩
end Go.Proofs.YtapciiffpnociadGreat
