/- Several texts in one: GxInc DagJ DagK VwC DagL WirD WirF WirG WirH WirJ WirI WirK WirL WirM DagR DagS DagT DagU DagV DagW DagX GosP DagY MoP ScoA TokT. Condition: none. -/
import Derived.Test.YtapciiffpnociaaGreatP12
import Derived.Test.YtapciiffpnociaaGreatP13
import Derived.Test.YtapciiffpnociaaGreatP15
import Derived.Test.YtapciiffpnociaaGreatP10
import Derived.Test.YtapciiffpnociaaGreatP02
import Derived.Test.YtapciiffpnociaaGreatP11
import Derived.Test.YtapciiffpnociaaGreatP09
namespace Go.Proofs.YtapciiffpnociaaGreat
open Go Go.RowKit
open Go.Maps (Keyed)
theorem mapSet_set (x:MK) (n m:Int):∀ l,bu (bu l x n) x m=bu l x m
 | []=>by simp [bu,MK.eqb_self]
 | (k,v)::l=>by
  have h1:bu ((k,v)::l) x n=if k.eqb x then (k,n)::l else (k,v)::bu l x n:=rfl
  have h2:bu ((k,v)::l) x m=if k.eqb x then (k,m)::l else (k,v)::bu l x m:=rfl
  rw [h1,h2]
  by_cases hk:k.eqb x=true
  ·rw [if_pos hk,if_pos hk]
   show (if k.eqb x then (k,m)::l else _)=_
   rw [if_pos hk]
  ·rw [if_neg hk,if_neg hk]
   show (if k.eqb x then _ else (k,v)::bu (bu l x n) x m)=_
   rw [if_neg hk,mapSet_set x n m l]
def leftN (listed:Array Bool):Nat:=listed.toList.countP fun b=>!b
theorem left_set {listed:Array Bool} {i:Nat} (hi:i < listed.size) (h:listed.getD i true=false):leftN (listed.setIfInBounds i true) + 1=leftN listed:=by
 unfold leftN
 have hi':i < listed.toList.length:=by simpa using hi
 have hc:=List.countP_set (p:=fun b=>!b) (a:=true) hi'
 rw [Array.toList_setIfInBounds,hc]
 have hg:listed.toList[i]=false:=by
  simp [hi] at h
  simpa using h
 rw [hg]
 clear hc
 have hpos:0 < listed.toList.countP (fun b=>!b):=List.countP_pos_iff.2 ⟨false,by rw [← hg];exact List.getElem_mem hi',rfl⟩
 simp only [Bool.not_false,Bool.not_true,if_true,Bool.false_eq_true,if_false,Nat.add_zero]
 omega
theorem left_zero {listed:Array Bool} (h:leftN listed=0):∀ i,i < listed.size→listed.getD i true=true:=by
 intro i hi
 unfold leftN at h
 rw [List.countP_eq_zero] at h
 have:=h listed[i] (by simp)
 simp [hi] at this ⊢
 exact this
theorem wpAny_inv {P:Program} {l:List Oper} {Q:Exit→Act→World→Prop} (J:Array Bool→Act→World→Prop)
  (hstep:∀ (listed:Array Bool) a w i,listed.size=l.length→J listed a w→i∈Region.ready .any l.toArray listed→wpOp P l.toArray Q i (J (listed.setIfInBounds i true)) a w)
  (hend:∀ (listed:Array Bool) a w,listed.size=l.length→J listed a w→Region.ready .any l.toArray listed=[]→Q .normal a w) :
  ∀ (fuel:Nat) (listed:Array Bool) a w,listed.size=l.length→leftN listed=fuel→J listed a w→wpAny P .any l.toArray Q fuel listed a w
 | 0,listed,a,w,hs,hc,h=>by
  have hr:Region.ready .any l.toArray listed=[]:=List.eq_nil_iff_forall_not_mem.2 fun j hj=>by
   obtain⟨h1,o,ho,_⟩:=mem_ready.1 hj
   have hj:j < listed.size:=by rw [hs];have:=(Array.getElem?_eq_some_iff.1 ho).1;simpa using this
   rw [left_zero hc j hj] at h1
   cases h1
  exact⟨hr,hend listed a w hs h hr⟩
 | fuel + 1,listed,a,w,hs,hc,h=>by
  refine⟨fun hr=>hend listed a w hs h hr,fun i hi=>?_⟩
  obtain⟨h1,o,ho,_⟩:=mem_ready.1 hi
  have hj:i < listed.size:=by rw [hs];have:=(Array.getElem?_eq_some_iff.1 ho).1;simpa using this
  have hlt:=left_set hj h1
  have key:∀ a' w',J (listed.setIfInBounds i true) a' w'→wpAny P .any l.toArray Q fuel (listed.setIfInBounds i true) a' w':=fun a' w' h' =>
   wpAny_inv J hstep hend fuel _ a' w' (by simp [hs]) (by omega) h'
  have h2:=hstep listed a w i hs h hi
  unfold wpOp at h2 ⊢
  rw [ho] at h2 ⊢
  simp only at h2 ⊢
  split
  ·rename_i hw
   rw [if_pos hw] at h2
   exact h2.imp (fun h2=>Oper.wp_mono key h2) id
  ·rename_i hw
   rw [if_neg hw] at h2
   exact key _ _ h2
def needB (l:List Oper) (i j:Nat):Bool:=match l[i]? with
 | some o=>o.after.toList.any fun e=>Region.binds .any e && Nat.beq e.on j
 | none=>false
theorem need_spec {l:List Oper} {i j:Nat} {listed:Array Bool} (h:needB l i j=true) (hi:i∈Region.ready .any l.toArray listed):listed.getD j false=true:=by
 obtain⟨_,o,ho,hall⟩:=mem_ready.1 hi
 have ho':l[i]? = some o:=by simpa using ho
 unfold needB at h
 rw [ho'] at h
 obtain⟨e,he,h⟩:=List.any_eq_true.1 h
 rw [Bool.and_eq_true] at h
 have:=hall e (by simpa using he) h.1
 rwa [Nat.eq_of_beq_eq_true h.2] at this
theorem ready_all {l:List Oper} {listed:Array Bool} (hs:listed.size=l.length) (hd:jg l=true) (hr:Region.ready .any l.toArray listed=[]):∀ j,j < l.length→listed.getD j false=true:=by
 intro j
 induction j using Nat.strongRecOn with
 | ind j ih =>
  intro hj
  cases hc:listed.getD j false with
  | true=>rfl
  | false =>
   exfalso
   have hm:j∈Region.ready .any l.toArray listed:=mem_ready.2 ⟨by rw [ii (by omega)];exact hc,l[j],by simp [hj],fun e he hb=>by
    have hlt:=down_spec hd j l[j] (List.getElem?_eq_getElem hj) e he hb
    exact ih e.on hlt (by omega)⟩
   rw [hr] at hm
   cases hm
theorem getD_set {listed:Array Bool} {i j:Nat} (hi:i < listed.size):(listed.setIfInBounds i true).getD j false=if i=j then true else listed.getD j false:=by
 by_cases h:i=j
 ·subst h;simp [hi]
 ·rw [if_neg h,getD_set_ne false h]
theorem Models.junk {Γ:Ctx} {k:Nat→Prop} {L:Sl} {H:Hp} {e:Env} {a:Act} {w:World} (m:Models Γ k L H e a w) {d:Nat} {v:Value} (hd:Nat.blt d Γ.n=true) (hj:L.get d = .junk):Models Γ k L H e (a.put (some d) v) w:=by
 have m2:=m.put (s:=.junk) (v:=v) (Nat.le_of_ble_eq_true hd) trivial
 refine⟨m2.toHeap,m2.defers,m2.len,fun t=>?_⟩
 have:=m2.slot t
 rw [Sl.get_cons] at this
 split at this
 ·rename_i h;subst h;rw [hj];trivial
 ·exact this
def StampOf (w:World) (b:Nat) (key:MK) (s:Int):Prop:=∃ (es:Array MapEntry) (clock:Nat) (x:MapEntry),w.heap[b]? = some (.map es clock)∧x∈es.toList∧x.key=key.val∧(x.born:Int)=s
structure IncS (Γ:Ctx) (k:Nat) (L:Sl) (H H1 H2:Hp) (e:Env) (i:Nat) (d0 d1 d2 d3 d4 d5:Nat) (key:MK) (n:Int) (c:Nat→Bool) (a:Act) (w:World):Prop where
 m:Models Γ (lo k) L (if c 6 then H2 else if c 4 then H1 else H) e a w
 v0:c 0=true→a.tmps.getD d0 undef = .map (some (e.β i))
 v1:c 1=true→a.tmps.getD d1 undef=key.val
 v2:c 2=true→a.tmps.getD d2 undef = .int .i64 n
 v3:c 3=true→a.tmps.getD d3 undef = .int .i64 (n + 1)
 v4:c 4=true→c 6=false→∃ u s,a.tmps.getD d4 undef = .tuple #[u,.int .i64 s]∧StampOf w (e.β i) key s
 v5:c 5=true→c 6=false→∃ s,a.tmps.getD d5 undef = .int .i64 s∧StampOf w (e.β i) key s
theorem i7 {a:Act} {d:Nat} {v:Value} (h:d < a.tmps.size):(a.put (some d) v).tmps.getD d undef=v:=by simp [Act.put,h]
theorem bx {a:Act} {d t:Nat} {v:Value} (h:d≠t):(a.put (some d) v).tmps.getD t undef=a.tmps.getD t undef:=by
 simp only [Act.put,Array.getD_eq_getD_getElem?,Array.getElem?_setIfInBounds_ne h]
theorem Models.mapTurn {Γ:Ctx} {k:Nat→Prop} {L:Sl} {H:Hp} {e:Env} {a:Act} {w:World} {i:Nat} {kd:Bool} {kvs kvs':List (MK × Int)} (m:Models Γ k L H e a w) (hH:Hp.get H i=some (.map kd kvs)) {es':Array MapEntry} {clock':Nat}
  (hes':es'.toList.map (fun x=>(x.key,x.val))=kvs'.map (fun p=>(p.1.val,Value.int .i64 p.2))) (hst:Stamps es' clock') (hk:kvs'.Pairwise fun p q=>p.1≠q.1) (hwf:∀ p∈kvs',p.1.ok kd∧(Lit.int .i64 p.2).wf=true) :
  Models Γ k L (Hp.set H i (.map kd kvs')) e a { w with heap:=w.heap.setIfInBounds (e.β i) (.map es' clock') }:=by
 have hlt:=m.toHeap.lt (e.β i) (List.mem_filterMap.2 ⟨_,Hp.mem_of hH,rfl⟩)
 refine m.turn (w':={ w with heap:=w.heap.setIfInBounds (e.β i) (.map es' clock') }) (b':=.map kd kvs') hH (by simp) rfl rfl rfl (fun _=>Nat.le_refl _) (fun c hc hne=>?_) rfl ⟨⟨es',clock',?_,hes',hst⟩,hk,hwf⟩
 ·have hne':e.β i≠c:=fun h=>hne (by simp [HB.owned,h])
  exact Array.getElem?_setIfInBounds_ne hne'
 ·show (w.heap.setIfInBounds (e.β i) (.map es' clock'))[e.β i]? = _
  simp [hlt]
theorem mapSet_wf {kd:Bool} {kvs:List (MK × Int)} {key:MK} {n:Int} (hwf:∀ p∈kvs,p.1.ok kd∧(Lit.int .i64 p.2).wf=true) (hok:key.ok kd) (hn:(Lit.int .i64 n).wf=true):∀ p∈bu kvs key n,p.1.ok kd∧(Lit.int .i64 p.2).wf=true:=fun p hp=>by
 rcases mapSet_keys key n kvs p hp with h|h
 ·rw [h];exact⟨hok,hn⟩
 ·exact hwf p h
theorem entry_run {P:Program} {t:TypeId} {kd:Bool} {kvs:List (MK × Int)} {key:MK} (T:MapT P t kd) {w:World} {b:Nat} (hM:MapIs w b kd kvs) (hok:key.ok kd) :
  ∃ (es':Array MapEntry) (clock':Nat) (u:Value) (s:Int),(Instr.mapEntry t (.map (some b)) key.val).run P w = .ok (.tuple #[u,.int .i64 s]) { w with heap:=w.heap.setIfInBounds b (.map es' clock') } ∧
   es'.toList.map (fun x=>(x.key,x.val))=(bu kvs key ((mapGet? kvs key).getD 0)).map (fun p=>(p.1.val,Value.int .i64 p.2))∧Stamps es' clock'∧∃ x∈es'.toList,x.key=key.val∧(x.born:Int)=s:=by
 obtain⟨kt,et,ht,K,hof,hz⟩:=T.ty
 obtain⟨⟨es,clock,hb,hes,hst⟩,hkeys,hwf⟩:=hM
 obtain⟨l,hl⟩:=hof key hok
 rcases map_find K hof hes hkeys hwf hok w with ⟨h1,h0,h2⟩|⟨j,x0,n0,h1,h2,h3,h4,h5,_⟩
 ·refine⟨es.push ⟨key.val,.int .i64 0,clock⟩,clock + 1,.int .i64 0,clock,?_,?_,stamps_push hst,⟨key.val,.int .i64 0,clock⟩,by simp,rfl,rfl⟩
  ·simp [Instr.mapEntry,run_underlying ht,MapKept.run_getObj_map hb,K.check w false hl,h1,hz w,MapKept.run_setObj_map _ hb,Result.andThen,goInt]
  ·rw [h0,mapSet_new h2,Array.toList_push,List.map_append,List.map_append,hes]
   rfl
 ·have hj2:es[j]? = some x0:=by simpa using h2
  have hjl:j < es.size:=(Array.getElem?_eq_some_iff.1 hj2).1
  have hx0:es[j]=x0:=(Array.getElem?_eq_some_iff.1 hj2).2
  have hst2:(Instr.keyThatStays x0.key key.val).run P w = .ok key.val w:=by
   rw [h3]
   exact K.stays w hl
  refine⟨es.modify j fun x=>{ x with key:=key.val },clock,.int .i64 n0,x0.born,?_,?_,stamps_modify hst fun _=>rfl,{ x0 with key:=key.val },?_,rfl,rfl⟩
  ·simp [Instr.mapEntry,run_underlying ht,MapKept.run_getObj_map hb,K.check w false hl,h1,hst2,hj2,MapKept.run_setObj_map _ hb,Result.andThen,goInt]
  ·obtain⟨p,q1,q2,q3⟩:=entries_get hes h2
   rw [h4] at q1
   cases q1
   rw [h5,Option.getD_some,mapSet_old hkeys h4,List.map_set,← hes]
   apply List.ext_getElem?
   intro q
   by_cases hq:q=j
   ·subst hq
    simp [hjl,hx0,q3]
   ·simp [Ne.symm hq]
  ·refine List.mem_iff_getElem?.2 ⟨j,?_⟩
   simp [hj2]
theorem store_run {P:Program} {t:TypeId} {kd:Bool} {kvs:List (MK × Int)} {key:MK} {m:Int} {w:World} {b:Nat} (hM:MapIs w b kd kvs) {s:Int} (hs:StampOf w b key s) :
  ∃ (es':Array MapEntry) (clock':Nat),(Instr.entryStore t (.map (some b)) (.int .i64 s) (.int .i64 m)).run P w = .ok () { w with heap:=w.heap.setIfInBounds b (.map es' clock') } ∧
   es'.toList.map (fun x=>(x.key,x.val))=(bu kvs key m).map (fun p=>(p.1.val,Value.int .i64 p.2))∧Stamps es' clock':=by
 obtain⟨⟨es,clock,hb,hes,hst⟩,hkeys,hwf⟩:=hM
 obtain⟨es2,clock2,x,hb2,hx,hxk,hxs⟩:=hs
 rw [hb] at hb2
 cases hb2
 obtain⟨j,hj⟩:=List.mem_iff_getElem?.1 hx
 have hj2:es[j]? = some x:=by simpa using hj
 have hjl:j < es.size:=(Array.getElem?_eq_some_iff.1 hj2).1
 have hxj:es[j]=x:=(Array.getElem?_eq_some_iff.1 hj2).2
 have hfind:es.findIdx? (fun e=>(e.born:Int) == s)=some j:=by
  rw [Array.findIdx?_eq_some_iff_getElem]
  refine⟨hjl,by rw [hxj];simpa using hxs,fun q hq=>?_⟩
  have hne:=List.pairwise_iff_getElem.1 hst.1 q j (by simp;omega) (by simpa using hjl) hq
  simp only [Array.getElem_toList] at hne
  rw [hxj] at hne
  intro hc
  have hc:((es[q]).born:Int)=s:=by simpa using hc
  omega
 obtain⟨p,q1,q2,q3⟩:=entries_get hes hj
 have hpk:p.1=key:=MK.val_inj (by rw [← q2,hxk])
 obtain⟨pk,n⟩:=p
 subst hpk
 refine⟨es.modify j fun e=>{ e with val:=.int .i64 m },clock,?_,?_,stamps_modify hst fun _=>rfl⟩
 ·simp [Instr.entryStore,MapKept.run_getObj_map hb,asInt,asIntOf,hfind,MapKept.run_setObj_map _ hb,Result.andThen]
 ·rw [mapSet_old hkeys q1,List.map_set,← hes]
  apply List.ext_getElem?
  intro q
  by_cases hq:q=j
  ·subst hq
   simp [hjl,hxj,q2]
  ·simp [Ne.symm hq]
theorem Hp.get_set_self {i:Nat} {b b':HB} {H:Hp} (h:Hp.get H i=some b):Hp.get (Hp.set H i b') i=some b':=by rw [Hp.get_set i b' H b h,if_pos rfl]
theorem Hp.set_set {i:Nat} {b b':HB}:∀ {H:Hp},Hp.set (Hp.set H i b) i b' = Hp.set H i b'
 | []=>rfl
 | (d,s)::H=>by
  simp only [Hp.set]
  cases hb:Nat.beq d i with
  | true=>simp only [Hp.set,hb]
  | false=>simp only [Hp.set,hb,Hp.set_set]
theorem ly (n p:Nat):(Array.replicate n false).getD p false=false:=by
 simp only [Array.getD_eq_getD_getElem?,Array.getElem?_replicate]
 split <;> rfl
theorem wpOp_run {P:Program} {l:List Oper} {Q:Exit→Act→World→Prop} {i:Nat} {o:Oper} {a:Act} {w w':World} {K:Act→World→Prop} {v:Value} (ho:l[i]? = some o) (hg:o.guard=none) (hr:(execOp a.eval o).run P w = .ok (.value v) w') (hk:K (a.put o.dst v) w') :
  wpOp P l.toArray Q i K a w:=by
 unfold wpOp
 have ho':l.toArray[i]? = some o:=by simpa using ho
 rw [ho']
 have hw:Region.wanted o (yielded l.toArray a.tmps)=true:=by unfold Region.wanted;rw [hg]
 simp only [hw,if_true]
 refine .inl ?_
 unfold Oper.wp
 rw [hr]
 exact hk
theorem wpOp_skip {P:Program} {l:List Oper} {Q:Exit→Act→World→Prop} {i:Nat} {o:Oper} {a:Act} {w w':World} {K:Act→World→Prop} (ho:l[i]? = some o) (hg:o.guard=none) (hr:(execOp a.eval o).run P w = .ok .skip w') (hk:K (a.put o.dst undef) w') :
  wpOp P l.toArray Q i K a w:=by
 unfold wpOp
 have ho':l.toArray[i]? = some o:=by simpa using ho
 rw [ho']
 have hw:Region.wanted o (yielded l.toArray a.tmps)=true:=by unfold Region.wanted;rw [hg]
 simp only [hw,if_true]
 refine .inl ?_
 unfold Oper.wp
 rw [hr]
 exact hk
theorem Models.know {Γ:Ctx} {k:Nat→Prop} {L:Sl} {H:Hp} {e:Env} {a:Act} {w:World} (m:Models Γ k L H e a w) {d:Nat} {s:SV} (h:Rel (Γ.X e H) e w s (a.tmps.getD d undef)):Models Γ k ((d,s)::L) H e a w :=
 ⟨m.toHeap,m.defers,m.len,fun t=>by
  rw [Sl.get_cons]
  split
  ·rename_i ht;subst ht;exact h
  ·exact m.slot t⟩
theorem setAt_fn {listed:Array Bool} {i:Nat} (hi:i < listed.size):(fun j=>(listed.setIfInBounds i true).getD j false)=fun j=>if i=j then true else listed.getD j false:=funext fun _=>getD_set hi
theorem set_closed {l:List Oper} {listed:Array Bool} {i:Nat} (hi:i∈Region.ready .any l.toArray listed) (hs:i < listed.size) (h:∀ p q,needB l p q=true→listed.getD p false=true→listed.getD q false=true) :
  ∀ p q,needB l p q=true→(listed.setIfInBounds i true).getD p false=true→(listed.setIfInBounds i true).getD q false=true:=by
 intro p q hn hp
 rw [getD_set hs] at hp ⊢
 split
 ·rfl
 ·split at hp
  ·rename_i hpi;subst hpi;exact need_spec hn hi
  ·exact h p q hn hp
section
variable {Γ : Ctx} {k i d0 d1 d2 d3 d4 d5 tx : Nat} {L : Sl} {H : Hp} {y : Operand} {t t1 t3 t3' ty0 ty1 ty2 ty3 ty4 ty5 ty6 : TypeId} {p0 p1 p2 p3 p4 p5 p6 : String} {af0 af1 af2 af3 af4 af5 af6 : Array Edge} {kd : Bool} {kvs : List (MK × Int)} {key : MK} {sv : SV}
theorem dw_inc {id:Nat} {Q:f9} {l:List Oper} (hl:l=[⟨some d0,.move (.tmp tx),ty0,p0,af0,none⟩,⟨some d1,.load t1 y,ty1,p1,af1,none⟩,⟨some d2,.lookup t (.tmp d0) (.tmp d1) false,ty2,p2,af2,none⟩,⟨some d3,.binOp .add t3 (.tmp d2) (.const (.int .i64 1)) t3',ty3,p3,af3,none⟩,
   ⟨some d4,.mapEntry t (.tmp d0) (.tmp d1),ty4,p4,af4,none⟩,⟨some d5,.extract (.tmp d4) 1,ty5,p5,af5,none⟩,⟨none,.entryStore t (.tmp d0) (.tmp d5) (.tmp d3),ty6,p6,af6,none⟩])
  (hm:Γ.P.follows .mixedOrders=true) (hdown:jg l=true) (hnd:dt l=true)
  (hne:(needB l 2 0 && needB l 2 1 && needB l 3 2 && needB l 4 0 && needB l 4 1 && needB l 5 4 && needB l 6 3 && needB l 6 5)=true)
  (hdist:bm [d0,d1,d2,d3,d4,d5]=true) (hlt:(Nat.blt d0 Γ.n && Nat.blt d1 Γ.n && Nat.blt d2 Γ.n && Nat.blt d3 Γ.n && Nat.blt d4 Γ.n && Nat.blt d5 Γ.n)=true)
  (j0:L.get d0 = .junk) (j1:L.get d1 = .junk) (j2:L.get d2 = .junk) (j3:L.get d3 = .junk) (j4:L.get d4 = .junk) (j5:L.get d5 = .junk)
  (T:MapT Γ.P t kd) (hx:L.get tx = .mp i) (hH:Hp.get H i=some (.map kd kvs)) (hy:Ev Γ (lo k) L H (.load t1 y) ty1 sv) (hkey:keyC sv=some key) (hkd:key.kd=kd)
  (hadd:∀ H',Ev Γ (lo k) ((d2,.d (.int .i64 ((mapGet? kvs key).getD 0)))::L) H' (.binOp .add t3 (.tmp d2) (.const (.int .i64 1)) t3') ty3 (.d (.int .i64 ((mapGet? kvs key).getD 0 + 1))))
  (hQ:Q .normal k L (Hp.set H i (.map kd (bu kvs key ((mapGet? kvs key).getD 0 + 1))))):DW Γ (.region id l.toArray true) Q k L H:=by
 have hlen:l.length=7:=by rw [hl];rfl
 simp only [Bool.and_eq_true] at hne hlt
 obtain⟨⟨⟨⟨⟨⟨⟨n20,n21⟩,n32⟩,n40⟩,n41⟩,n54⟩,n63⟩,n65⟩:=hne
 obtain⟨⟨⟨⟨⟨b0,b1⟩,b2⟩,b3⟩,b4⟩,b5⟩:=hlt
 have hdd:∀ (p q:Nat),p < q→(hp:p < [d0,d1,d2,d3,d4,d5].length)→(hq:q < [d0,d1,d2,d3,d4,d5].length)→[d0,d1,d2,d3,d4,d5][p]≠[d0,d1,d2,d3,d4,d5][q]:=fun p q h hp hq=>List.pairwise_iff_getElem.1 (dq _ hdist) p q hp hq h
 have a01:d0≠d1:=fun h=>hdd 0 1 (by decide) (by simp) (by simp) (by simp [h])
 have a02:d0≠d2:=fun h=>hdd 0 2 (by decide) (by simp) (by simp) (by simp [h])
 have a03:d0≠d3:=fun h=>hdd 0 3 (by decide) (by simp) (by simp) (by simp [h])
 have a04:d0≠d4:=fun h=>hdd 0 4 (by decide) (by simp) (by simp) (by simp [h])
 have a05:d0≠d5:=fun h=>hdd 0 5 (by decide) (by simp) (by simp) (by simp [h])
 have a12:d1≠d2:=fun h=>hdd 1 2 (by decide) (by simp) (by simp) (by simp [h])
 have a13:d1≠d3:=fun h=>hdd 1 3 (by decide) (by simp) (by simp) (by simp [h])
 have a14:d1≠d4:=fun h=>hdd 1 4 (by decide) (by simp) (by simp) (by simp [h])
 have a15:d1≠d5:=fun h=>hdd 1 5 (by decide) (by simp) (by simp) (by simp [h])
 have a23:d2≠d3:=fun h=>hdd 2 3 (by decide) (by simp) (by simp) (by simp [h])
 have a24:d2≠d4:=fun h=>hdd 2 4 (by decide) (by simp) (by simp) (by simp [h])
 have a25:d2≠d5:=fun h=>hdd 2 5 (by decide) (by simp) (by simp) (by simp [h])
 have a34:d3≠d4:=fun h=>hdd 3 4 (by decide) (by simp) (by simp) (by simp [h])
 have a35:d3≠d5:=fun h=>hdd 3 5 (by decide) (by simp) (by simp) (by simp [h])
 have a45:d4≠d5:=fun h=>hdd 4 5 (by decide) (by simp) (by simp) (by simp [h])
 generalize hn:(mapGet? kvs key).getD 0=n at hadd hQ
 intro e a w mm
 refine wpIn_mono (wpIn_region_any hm (wpAny_in (gr (Γ:=Γ) (K:=Q .normal)) hnd _ _ _ _ ?_)) (lift_mono (fun ex k' L' H' (⟨h1,h2⟩:fg (Q .normal) ex k' L' H')=>h1▸h2))
 have m0:=mm.below (w':={ w with drawn:=w.drawn + 1 }) ((Beld.refl _ _ _).drew)
 have hMM:MapIs w (e.β i) kd kvs:=(mm.heap _ (Hp.mem_of hH)).2
 have hkeys:=hMM.keys
 have hwf:=hMM.wf
 have hkok:key.ok kd:=by
  obtain⟨v,_,hrel⟩:=hy e a w mm
  rw [← hkd]
  exact (keyC_rel hkey hrel).2
 have hnwf:(Lit.int .i64 n).wf=true:=by rw [← hn];exact (look_run T false hMM hkok).2
 have hnwf1:(Lit.int .i64 (n + 1)).wf=true:=by
  have hm3:Models Γ (lo k) ((d2,.d (.int .i64 n))::L) H e (a.put (some d2) (.int .i64 n)) w:=mm.put (Nat.le_of_ble_eq_true b2) (RepC.int hnwf)
  obtain⟨v,_,hrel⟩:=hadd H e _ w hm3
  have hrel:RepC _ _ _ _:=hrel
  cases hrel;assumption
 have hH1:Hp.get (Hp.set H i (.map kd (bu kvs key n))) i=some (.map kd (bu kvs key n)):=Hp.get_set_self hH
 have hHH:Hp.set (Hp.set H i (.map kd (bu kvs key n))) i (.map kd (bu kvs key (n + 1)))=Hp.set H i (.map kd (bu kvs key (n + 1))):=Hp.set_set
 refine wpAny_inv (fun listed a w=>(∀ p q,needB l p q=true→listed.getD p false=true→listed.getD q false=true)∧IncS Γ k L H (Hp.set H i (.map kd (bu kvs key n))) (Hp.set H i (.map kd (bu kvs key (n + 1)))) e i d0 d1 d2 d3 d4 d5 key n (fun j=>listed.getD j false) a w)
  ?_ ?_ _ _ a _ (by simp) (by simp [leftN,List.countP_replicate]) ⟨fun p q _ h=>(by rw [ly] at h;cases h),⟨by simp only [ly];exact m0,fun h=>(by rw [ly] at h;cases h),fun h=>(by rw [ly] at h;cases h),fun h=>(by rw [ly] at h;cases h),fun h=>(by rw [ly] at h;cases h),fun h=>(by rw [ly] at h;cases h),fun h=>(by rw [ly] at h;cases h)⟩⟩
 ·rintro listed a w q hs ⟨hcl,hI⟩ hq
  have hq1:=(mem_ready.1 hq).1
  have hq7:q < 7:=by
   obtain⟨_,o,ho,_⟩:=mem_ready.1 hq
   have:=(Array.getElem?_eq_some_iff.1 ho).1
   simpa [hlen] using this
  have hqs:q < listed.size:=by rw [hs,hlen];exact hq7
  rw [ii hqs] at hq1
  have hcl2:=set_closed hq hqs hcl
  have hneed:=fun {p:Nat} (h:needB l q p=true)=>need_spec h hq
  have h6:q≠6→listed.getD 6 false=false:=fun hne=>by
   cases hc:listed.getD 6 false with
   | false=>rfl
   | true =>
    exfalso
    have c3:=hcl 6 3 n63 hc
    have c5:=hcl 6 5 n65 hc
    have c2:=hcl 3 2 n32 c3
    have c4:=hcl 5 4 n54 c5
    have c0:=hcl 2 0 n20 c2
    have c1:=hcl 2 1 n21 c2
    have:q=0∨q=1∨q=2∨q=3∨q=4∨q=5:=by omega
    rcases this with rfl|rfl|rfl|rfl|rfl|rfl <;> simp_all
  have hsz:∀ d,Nat.blt d Γ.n=true→d < a.tmps.size:=fun d hd=>by rw [hI.m.len];exact Nat.le_of_ble_eq_true hd
  have hM:MapIs w (e.β i) kd (if listed.getD 6 false=true then bu kvs key (n + 1) else if listed.getD 4 false=true then bu kvs key n else kvs):=by
   have hm:=hI.m
   split
   ·rename_i hc;rw [if_pos hc] at hm;exact (hm.heap _ (Hp.mem_of (Hp.get_set_self hH))).2
   ·rename_i hc
    rw [if_neg hc] at hm
    split
    ·rename_i hc;rw [if_pos hc] at hm;exact (hm.heap _ (Hp.mem_of hH1)).2
    ·rename_i hc;rw [if_neg hc] at hm;exact (hm.heap _ (Hp.mem_of hH)).2
  have hcase:q=0∨q=1∨q=2∨q=3∨q=4∨q=5∨q=6:=by omega
  rw [setAt_fn hqs]
  rcases hcase with rfl|rfl|rfl|rfl|rfl|rfl|rfl
  ·have c6:=h6 (by decide)
   have c4:listed.getD 4 false=false:=by
    cases hc:listed.getD 4 false with
    | false=>rfl
    | true=>have:=hcl 4 0 n40 hc;rw [hq1] at this;cases this
   obtain⟨hm,v0,v1,v2,v3,v4,v5⟩:=hI
   simp only [c6,c4,Bool.false_eq_true,if_false] at hm
   have hs0:=hm.slot tx
   rw [hx] at hs0
   refine wpOp_run (v:=.map (some (e.β i))) (w':=w) (by rw [hl];rfl) rfl ?_ ⟨hcl2,⟨?_,fun _=>i7 (hsz _ b0),?_,?_,?_,?_,?_⟩⟩
   ·have:a.eval (.tmp tx) = .map (some (e.β i)):=hs0.2
    simp only [execOp,this,Sem.run_pure]
   ·simp only [c6,c4,show ¬ (0=6) by decide,show ¬ (0=4) by decide,Bool.false_eq_true,if_false]
    exact hm.junk b0 j0
   ·simp only [show ¬ (0=1) by decide,if_false];intro h;rw [bx a01];exact v1 h
   ·simp only [show ¬ (0=2) by decide,if_false];intro h;rw [bx a02];exact v2 h
   ·simp only [show ¬ (0=3) by decide,if_false];intro h;rw [bx a03];exact v3 h
   ·simp only [show ¬ (0=4) by decide,if_false,c4];intro h;cases h
   ·simp only [show ¬ (0=5) by decide,if_false];intro h;have:=hcl 5 4 n54 h;rw [c4] at this;cases this
  ·have c6:=h6 (by decide)
   have c4:listed.getD 4 false=false:=by
    cases hc:listed.getD 4 false with
    | false=>rfl
    | true=>have:=hcl 4 1 n41 hc;rw [hq1] at this;cases this
   obtain⟨hm,v0,v1,v2,v3,v4,v5⟩:=hI
   simp only [c6,c4,Bool.false_eq_true,if_false] at hm
   obtain⟨v,hr,hrel⟩:=hy e a w hm
   obtain⟨hv,_⟩:=keyC_rel hkey hrel
   refine wpOp_run (v:=v) (w':=w) (by rw [hl];rfl) rfl (hr _ _ _ _ w (Below.refl _ _)) ⟨hcl2,⟨?_,?_,fun _=>?_,?_,?_,?_,?_⟩⟩
   ·simp only [c6,c4,show ¬ (1=6) by decide,show ¬ (1=4) by decide,Bool.false_eq_true,if_false]
    exact hm.junk b1 j1
   ·simp only [show ¬ (1=0) by decide,if_false];intro h;rw [bx a01.symm];exact v0 h
   ·rw [i7 (hsz _ b1),hv]
   ·simp only [show ¬ (1=2) by decide,if_false];intro h;rw [bx a12];exact v2 h
   ·simp only [show ¬ (1=3) by decide,if_false];intro h;rw [bx a13];exact v3 h
   ·simp only [show ¬ (1=4) by decide,if_false,c4];intro h;cases h
   ·simp only [show ¬ (1=5) by decide,if_false];intro h;have:=hcl 5 4 n54 h;rw [c4] at this;cases this
  ·have c6:=h6 (by decide)
   obtain⟨hm,v0,v1,v2,v3,v4,v5⟩:=hI
   have e0:a.eval (.tmp d0) = .map (some (e.β i)):=v0 (hneed n20)
   have e1:a.eval (.tmp d1)=key.val:=v1 (hneed n21)
   have hok:key.ok kd:=hkok
   have hrun:=(look_run T false hM hok).1
   have hget:(mapGet? (if listed.getD 6 false=true then bu kvs key (n + 1) else if listed.getD 4 false=true then bu kvs key n else kvs) key).getD 0=n:=by
    rw [c6,if_neg (by decide)]
    split
    ·rw [mapGet_set,if_pos (MK.eqb_self _)];rfl
    ·exact hn
   rw [hget] at hrun
   refine wpOp_run (v:=.int .i64 n) (w':=w) (by rw [hl];rfl) rfl ?_ ⟨hcl2,⟨?_,?_,?_,fun _=>i7 (hsz _ b2),?_,?_,?_⟩⟩
   ·simp only [execOp,e0,e1,Sem.run_bind,Sem.run_pure,hrun,Result.andThen_ok];rfl
   ·simp only [show ¬ (2=6) by decide,show ¬ (2=4) by decide,if_false]
    exact hm.junk b2 j2
   ·simp only [show ¬ (2=0) by decide,if_false];intro h;rw [bx a02.symm];exact v0 h
   ·simp only [show ¬ (2=1) by decide,if_false];intro h;rw [bx a12.symm];exact v1 h
   ·simp only [show ¬ (2=3) by decide,if_false];intro h;rw [bx a23];exact v3 h
   ·simp only [show ¬ (2=4) by decide,show ¬ (2=6) by decide,if_false];intro h g;rw [bx a24];exact v4 h g
   ·simp only [show ¬ (2=5) by decide,show ¬ (2=6) by decide,if_false];intro h g;rw [bx a25];exact v5 h g
  ·have c6:=h6 (by decide)
   obtain⟨hm,v0,v1,v2,v3,v4,v5⟩:=hI
   have e2:a.tmps.getD d2 undef = .int .i64 n:=v2 (hneed n32)
   have hm2:Models Γ (lo k) ((d2,.d (.int .i64 n))::L) (if listed.getD 6 false=true then Hp.set H i (.map kd (bu kvs key (n + 1))) else if listed.getD 4 false=true then Hp.set H i (.map kd (bu kvs key n)) else H) e a w:=by
    exact hm.know (by rw [e2];exact RepC.int hnwf)
   obtain⟨v,hr,hrel⟩:=hadd _ e a w hm2
   have hv:v = .int .i64 (n + 1):=by
    have hrel:RepC _ _ _ _:=hrel
    cases hrel;rfl
   refine wpOp_run (v:=v) (w':=w) (by rw [hl];rfl) rfl (hr _ _ _ _ w (Below.refl _ _)) ⟨hcl2,⟨?_,?_,?_,?_,fun _=>?_,?_,?_⟩⟩
   ·simp only [show ¬ (3=6) by decide,show ¬ (3=4) by decide,if_false]
    exact hm.junk b3 j3
   ·simp only [show ¬ (3=0) by decide,if_false];intro h;rw [bx a03.symm];exact v0 h
   ·simp only [show ¬ (3=1) by decide,if_false];intro h;rw [bx a13.symm];exact v1 h
   ·simp only [show ¬ (3=2) by decide,if_false];intro h;rw [bx a23.symm];exact v2 h
   ·rw [i7 (hsz _ b3),hv]
   ·simp only [show ¬ (3=4) by decide,show ¬ (3=6) by decide,if_false];intro h g;rw [bx a34];exact v4 h g
   ·simp only [show ¬ (3=5) by decide,show ¬ (3=6) by decide,if_false];intro h g;rw [bx a35];exact v5 h g
  ·have c6:=h6 (by decide)
   have c5:listed.getD 5 false=false:=by
    cases hc:listed.getD 5 false with
    | false=>rfl
    | true=>have:=hcl 5 4 n54 hc;rw [hq1] at this;cases this
   obtain⟨hm,v0,v1,v2,v3,v4,v5⟩:=hI
   simp only [c6,hq1,Bool.false_eq_true,if_false] at hm hM
   have e0:a.eval (.tmp d0) = .map (some (e.β i)):=v0 (hneed n40)
   have e1:a.eval (.tmp d1)=key.val:=v1 (hneed n41)
   obtain⟨es',clock',u,s,hrun,hes',hst',x,hx1,hx2,hx3⟩:=entry_run T hM hkok
   rw [hn] at hes'
   have hm2:=hm.mapTurn hH hes' hst' (mapSet_pairs _ _ _ hkeys) (mapSet_wf hwf hkok hnwf)
   have hlt2:=hm.toHeap.lt (e.β i) (List.mem_filterMap.2 ⟨_,Hp.mem_of hH,rfl⟩)
   have hsto:StampOf { w with heap:=w.heap.setIfInBounds (e.β i) (.map es' clock') } (e.β i) key s:=⟨es',clock',x,by simp [hlt2],hx1,hx2,hx3⟩
   refine wpOp_run (v:=.tuple #[u,.int .i64 s]) (w':={ w with heap:=w.heap.setIfInBounds (e.β i) (.map es' clock') }) (by rw [hl];rfl) rfl ?_ ⟨hcl2,⟨?_,?_,?_,?_,?_,fun _ _=>⟨u,s,i7 (hsz _ b4),hsto⟩,?_⟩⟩
   ·simp only [execOp,e0,e1,Sem.run_bind,Sem.run_pure,hrun,Result.andThen_ok]
   ·simp only [c6,show ¬ (4=6) by decide,Bool.false_eq_true,if_false,if_true]
    exact hm2.junk b4 j4
   ·simp only [show ¬ (4=0) by decide,if_false];intro h;rw [bx a04.symm];exact v0 h
   ·simp only [show ¬ (4=1) by decide,if_false];intro h;rw [bx a14.symm];exact v1 h
   ·simp only [show ¬ (4=2) by decide,if_false];intro h;rw [bx a24.symm];exact v2 h
   ·simp only [show ¬ (4=3) by decide,if_false];intro h;rw [bx a34.symm];exact v3 h
   ·simp only [show ¬ (4=5) by decide,if_false,c5];intro h;cases h
  ·have c6:=h6 (by decide)
   obtain⟨hm,v0,v1,v2,v3,v4,v5⟩:=hI
   obtain⟨u,s,e4,hsto⟩:=v4 (hneed n54) c6
   have e4':a.eval (.tmp d4) = .tuple #[u,.int .i64 s]:=e4
   refine wpOp_run (v:=.int .i64 s) (w':=w) (by rw [hl];rfl) rfl ?_ ⟨hcl2,⟨?_,?_,?_,?_,?_,?_,fun _ _=>⟨s,i7 (hsz _ b5),hsto⟩⟩⟩
   ·simp [execOp,e4',Instr.extract]
   ·simp only [show ¬ (5=6) by decide,show ¬ (5=4) by decide,if_false]
    exact hm.junk b5 j5
   ·simp only [show ¬ (5=0) by decide,if_false];intro h;rw [bx a05.symm];exact v0 h
   ·simp only [show ¬ (5=1) by decide,if_false];intro h;rw [bx a15.symm];exact v1 h
   ·simp only [show ¬ (5=2) by decide,if_false];intro h;rw [bx a25.symm];exact v2 h
   ·simp only [show ¬ (5=3) by decide,if_false];intro h;rw [bx a35.symm];exact v3 h
   ·simp only [show ¬ (5=4) by decide,show ¬ (5=6) by decide,if_false];intro h g;rw [bx a45.symm];exact v4 h g
  ·have c3:=hneed n63
   have c5:=hneed n65
   have c4:=hcl 5 4 n54 c5
   have c2:=hcl 3 2 n32 c3
   have c0:=hcl 2 0 n20 c2
   obtain⟨hm,v0,v1,v2,v3,v4,v5⟩:=hI
   simp only [hq1,c4,Bool.false_eq_true,if_false,if_true] at hm hM
   have e0:a.eval (.tmp d0) = .map (some (e.β i)):=v0 c0
   have e3:a.eval (.tmp d3) = .int .i64 (n + 1):=v3 c3
   obtain⟨s,e5,hsto⟩:=v5 c5 hq1
   have e5':a.eval (.tmp d5) = .int .i64 s:=e5
   obtain⟨es',clock',hrun,hes',hst'⟩:=store_run (t:=t) (m:=n + 1) hM hsto
   rw [mapSet_set] at hes'
   have hm2:=hm.mapTurn hH1 hes' hst' (mapSet_pairs _ _ _ hkeys) (mapSet_wf hwf hkok hnwf1)
   rw [hHH] at hm2
   refine wpOp_skip (w':={ w with heap:=w.heap.setIfInBounds (e.β i) (.map es' clock') }) (by rw [hl];rfl) rfl ?_ ⟨hcl2,⟨?_,?_,?_,?_,?_,?_,?_⟩⟩
   ·simp only [execOp,e0,e3,e5',Sem.run_bind,Sem.run_pure]
    rw [hrun]
    rfl
   ·simp only [if_true];exact hm2
   ·simp only [show ¬ (6=0) by decide,if_false];exact v0
   ·simp only [show ¬ (6=1) by decide,if_false];exact v1
   ·simp only [show ¬ (6=2) by decide,if_false];exact v2
   ·simp only [show ¬ (6=3) by decide,if_false];exact v3
   ·simp only [if_true];intro _ h;cases h
   ·simp only [if_true];intro _ h;cases h
 ·rintro listed a w hs ⟨hcl,hI⟩ hr
  have hall:=ready_all hs hdown hr
  have h6:=hall 6 (by omega)
  have:=hI.m
  rw [if_pos h6] at this
  exact .inl ⟨_,_,_,e,this,rfl,hQ⟩
end
def incM (m:List (MK × Int)) (i:UId):List (MK × Int):=bu m (ka i) ((mapGet? m (ka i)).getD 0 + 1)
def CntIs (m:List (MK × Int)) (l:List UId):Prop:=∀ i:UId,(mapGet? m (ka i)).getD 0=((l.countP fun j=>j.same i:Nat):Int)
theorem CntIs.nil:CntIs [] []:=fun _=>rfl
theorem CntIs.inc {m:List (MK × Int)} {l:List UId} (h:CntIs m l) (i:UId):CntIs (incM m i) (l++[i]):=fun j=>by
 unfold incM
 rw [mapGet_set,keyI_eqb,List.countP_append,List.countP_cons,List.countP_nil]
 have hi:=h i
 have hj:=h j
 cases hb:i.same j with
 | true =>
  have:=same_iff.1 hb
  subst this
  simp only [if_true,Option.getD_some]
  omega
 | false =>
  simp only [Bool.false_eq_true,if_false]
  omega
theorem CntIs.le {m:List (MK × Int)} {l:List UId} (h:CntIs m l) (i:UId):0≤(mapGet? m (ka i)).getD 0∧(mapGet? m (ka i)).getD 0≤l.length:=by
 rw [h i]
 have:l.countP (fun j=>j.same i)≤l.length:=List.countP_le_length
 omega
theorem CntIs.zero {m:List (MK × Int)} {l:List UId} (h:CntIs m l) (i:UId):(mapGet? m (ka i)).getD 0=0↔(l.any fun j=>j.same i)=false:=by
 rw [h i]
 constructor
 ·intro h0
  have:l.countP (fun j=>j.same i)=0:=by omega
  exact List.any_eq_false.2 fun x hx=>List.countP_eq_zero.1 this x hx
 ·intro h0
  have:l.countP (fun j=>j.same i)=0:=List.countP_eq_zero.2 fun x hx=>List.any_eq_false.1 h0 x hx
  omega
attribute [local irreducible] DW DS DL DQ Ev FnOk FnP em b9 DT
def keptL (has l:List Upd):List Upd:=l.filter fun u=>!((has.flatMap Upd.takes).any fun j=>j.same u.id)
abbrev keptU (has:List Upd):List Upd:=keptL has has
theorem says_sub {l l':List Upd} (h:l.Sublist l'):(l.flatMap Upd.says).length≤(l'.flatMap Upd.says).length:=by
 induction h with
 | slnil=>exact Nat.le_refl _
 | cons a _ ih=>rw [List.flatMap_cons,List.length_append];omega
 | cons_cons a _ ih=>rw [List.flatMap_cons,List.flatMap_cons,List.length_append,List.length_append];omega
theorem said_len (has:List Upd) (i:Nat):((keptL has (has.take i)).flatMap Upd.says).length≤(has.flatMap Upd.says).length :=
 says_sub (List.filter_sublist.trans (List.take_sublist i has))
set_option maxHeartbeats 8000000 in
theorem saidV_fn (r:Rpl) (hl:r.has.length≤100000) (hp:(r.has.flatMap Upd.takes).length≤100000) (hsy:(r.has.flatMap Upd.says).length≤100000) (hsa:∀ u∈r.has,∀ f∈u.says,f.args.length≤1000000):FnOk false Tryz.prog tab cn 52 [.agg [.row 0,.row 1]] 2 2 [(0,.row 53 5 (r.has.map a7)),(1,.row 53 5 (r.waits.map a7))] (fun k res H=>k=2∧res = .d (.slice 2 ((bq ((keptU r.has).flatMap Upd.says)).map a6))∧H=[(0,.row 53 5 (r.has.map a7)),(1,.row 53 5 (r.waits.map a7))]):=by
 refine co _ Tryz.func52 rfl rfl (by kernel_rfl) ?_
 intro O w0 E0 β0
 have lh:(r.has.map a7).length=r.has.length:=List.length_map _
 repeat' (first|refine z0 ?_|apply ag|apply ae|refine z16 ?_|apply aa|refine z1 ?_|fail)
 refine ds_mapNew false rfl rfl ?_
 repeat' (first|refine z0 ?_|apply ag|apply ae|refine z16 ?_|apply ah|apply aa)
 refine bh (ι:=Nat × List (MK × Int)) (fun x=>⟨4,[(1,.loc 2 0),(3,.mp 3),(13,.row 0),(14,.d (.int .i64 (r.has.map a7).length)),(15,.d (.int .i64 x.1))],
   [(0,.row 53 5 (r.has.map a7)),(1,.row 53 5 (r.waits.map a7)),(2,.blk 29 [.row 0,.row 1]),(3,.map false x.2)]⟩)
  (fun x=>x.1≤r.has.length∧CntIs x.2 ((r.has.take x.1).flatMap Upd.takes)) (fun x=>r.has.length - x.1) (0,[]) ⟨Nat.zero_le _,.nil⟩ (ap id ⟨rfl,rfl,rfl,rfl,rfl,trivial⟩ ⟨rfl,rfl,rfl,rfl,trivial⟩ rfl rfl rfl rfl rfl rfl) ?_
 rintro⟨p,m⟩ ⟨h1,h2⟩
 dsimp only at h1 h2 ⊢
 by_cases hi:p < r.has.length
 ·have lq:(r.has[p].takes.map dj).length=r.has[p].takes.length:=List.length_map _
  have hsum:((r.has.take p).flatMap Upd.takes).length + r.has[p].takes.length≤(r.has.flatMap Upd.takes).length:=by
   have e:r.has.flatMap Upd.takes=(r.has.take p).flatMap Upd.takes++(r.has[p].takes++(r.has.drop (p + 1)).flatMap Upd.takes):=by
    conv=>lhs;rw [← List.take_append_drop p r.has,List.drop_eq_getElem_cons hi,List.flatMap_append,List.flatMap_cons]
   rw [e,List.length_append,List.length_append]
   omega
  repeat' (first|refine z0 ?_|apply ag|apply ae|refine z16 ?_|apply ah|apply ai|apply au|apply aa|apply aq|refine z17 ?_|refine z1 ?_|refine z3 ?_|(refine z23 ?_ ?_ <;> intro hg)|fail)
  all_goals try (exfalso;omega)
  refine bh (ι:=Nat × List (MK × Int)) (fun x=>⟨4,[(1,.loc 2 0),(3,.mp 3),(13,.row 0),(14,.d (.int .i64 (r.has.map a7).length)),(15,.d (.int .i64 p)),(20,.d (.slice 2 (r.has[p].takes.map dj))),(21,.d (.int .i64 (r.has[p].takes.map dj).length)),(22,.d (.int .i64 x.1))],
    [(0,.row 53 5 (r.has.map a7)),(1,.row 53 5 (r.waits.map a7)),(2,.blk 29 [.row 0,.row 1]),(3,.map false x.2)]⟩)
   (fun x=>x.1≤r.has[p].takes.length∧CntIs x.2 ((r.has.take p).flatMap Upd.takes++r.has[p].takes.take x.1)) (fun x=>r.has[p].takes.length - x.1) (0,m) ⟨Nat.zero_le _,by simpa using h2⟩ (ap id ⟨rfl,rfl,rfl,rfl,rfl,rfl,rfl,rfl,trivial⟩ ⟨rfl,rfl,rfl,rfl,trivial⟩ rfl rfl rfl rfl rfl rfl) ?_
  rintro⟨q,m⟩ ⟨g1,g2⟩
  dsimp only at g1 g2 ⊢
  by_cases hq:q < r.has[p].takes.length
  ·repeat' ((fail_if_success (apply bz 8));(first|refine z0 ?_|apply ag|apply ae|refine z16 ?_|apply ah|apply ai|apply au|apply aa|apply aq|apply bg|refine z17 ?_|refine z1 ?_|refine z3 ?_|(refine z23 ?_ ?_ <;> intro hg)|fail))
   all_goals try (exfalso;omega)
   have hle:=g2.le r.has[p].takes[q]
   rw [List.length_append,List.length_take] at hle
   have hinc:=g2.inc r.has[p].takes[q]
   rw [List.append_assoc,← List.take_succ_eq_append_getElem hq] at hinc
   refine dw_inc rfl (by kernel_rfl) (by kernel_rfl) rfl (by kernel_rfl) rfl rfl rfl rfl rfl rfl rfl rfl mapId_t rfl rfl (evC_sound rfl trivial rfl) rfl rfl (fun H'=>ev_add rfl rfl ⟨?_,?_⟩) ?_
   ·show _≤(mapGet? m (ka r.has[p].takes[q])).getD 0 + 1;omega
   ·show (mapGet? m (ka r.has[p].takes[q])).getD 0 + 1≤_;omega
   repeat' (first|refine z0 ?_|apply ag|refine z16 ?_|apply aa|apply bg)
   exact⟨(q + 1,incM m r.has[p].takes[q]),⟨hq,hinc⟩,ap id ⟨rfl,rfl,rfl,rfl,rfl,rfl,rfl,rfl,trivial⟩ ⟨rfl,rfl,rfl,rfl,trivial⟩ rfl rfl rfl rfl rfl rfl,by show _ - (q + 1) < _ - q;omega⟩
  ·repeat' (first|refine z0 ?_|apply ag|refine z5 ?_|apply ae|refine z16 ?_|refine z20 ?_|apply ah|apply ai|apply au|apply aa|apply aq|apply bg|refine z17 ?_|refine z1 ?_|refine z3 ?_|(refine z23 ?_ ?_ <;> intro hg)|fail)
   all_goals try (exfalso;omega)
   refine⟨(p + 1,m),⟨hi,?_⟩,ap id ⟨rfl,rfl,rfl,rfl,rfl,trivial⟩ ⟨rfl,rfl,rfl,rfl,trivial⟩ rfl rfl rfl rfl rfl rfl,by show _ - (p + 1) < _ - p;omega⟩
   have e9:r.has[p].takes.take q=r.has[p].takes:=List.take_of_length_le (by omega)
   rw [e9] at g2
   rw [List.take_succ_eq_append_getElem hi,List.flatMap_append]
   simpa using g2
 ·repeat' (first|refine z0 ?_|apply ag|apply ae|refine z16 ?_|apply ah|apply ai|apply au|apply aa|apply aq|refine z17 ?_|refine z1 ?_|refine z3 ?_|(refine z23 ?_ ?_ <;> intro hg)|fail)
  all_goals try (exfalso;omega)
  rw [List.take_of_length_le (by omega)] at h2
  refine ba (ea (t:=8) 58 2 rfl) ?_
  refine bh (ι:=Nat) (fun i=>⟨4,[(3,.mp 2),(8,.row 3),(35,.row 0),(36,.d (.int .i64 (r.has.map a7).length)),(37,.d (.int .i64 i))],
    [(0,.row 53 5 (r.has.map a7)),(1,.row 53 5 (r.waits.map a7)),(2,.map false m),(3,.row 58 2 (((keptL r.has (r.has.take i)).flatMap Upd.says).map a6))]⟩)
   (fun i=>i≤r.has.length) (fun i=>r.has.length - i) 0 (Nat.zero_le _) (ap (fun j=>match j with|2=>3|3=>4|j=>j) ⟨rfl,rfl,rfl,rfl,rfl,trivial⟩ ⟨rfl,rfl,rfl,rfl,trivial⟩ rfl rfl rfl rfl rfl rfl) ?_
  intro i gi
  by_cases hi:i < r.has.length
  ·have lo:=said_len r.has (i + 1)
   have ls:(r.has[i].says.map a6).length=r.has[i].says.length:=List.length_map _
   repeat' (first|refine z0 ?_|apply ag|apply ae|refine z16 ?_|apply ah|apply ai|apply au|apply aa|apply aq|refine z17 ?_|refine z1 ?_|refine z3 ?_|(refine z23 ?_ ?_ <;> intro hg)|fail)
   all_goals try (exfalso;omega)
   refine ds_lookup (kd:=false) (kvs:=m) (key:=ka r.has[i].id) mapId_t rfl rfl rfl rfl rfl rfl ?_
   have hz:=h2.zero r.has[i].id
   have hst:keptL r.has (r.has.take (i + 1))=keptL r.has (r.has.take i)++keptL r.has [r.has[i]]:=by unfold keptL;rw [List.take_succ_eq_append_getElem hi,List.filter_append]
   repeat' (first|refine z0 ?_|apply ag|refine z16 ?_|apply ai|apply aa|apply bg|(refine z23 ?_ ?_ <;> intro hg)|fail)
   ·have hd:keptL r.has [r.has[i]]=[r.has[i]]:=by unfold keptL;rw [List.filter_cons,hz.1 (by assumption)];rfl
    rw [hd] at hst
    have hf:(keptL r.has (r.has.take (i + 1))).flatMap Upd.says=(keptL r.has (r.has.take i)).flatMap Upd.says++r.has[i].says:=by rw [hst,List.flatMap_append];simp
    rw [hf,List.length_append] at lo
    refine ds_tradeC rfl ⟨by rw [List.length_map,ls];omega,by unfold maxLen;rw [List.length_map,ls];omega⟩ rfl rfl rfl rfl ?_
    repeat' (first|refine z0 ?_|apply ag|refine z16 ?_|apply aa|apply bg)
    exact⟨i + 1,hi,ap (fun j=>match j with|3=>_|j=>j) ⟨rfl,rfl,rfl,rfl,rfl,trivial⟩ ⟨rfl,rfl,rfl,by rw [hf,List.map_append];rfl,trivial⟩ rfl rfl rfl rfl rfl rfl,by omega⟩
   ·have hd:keptL r.has [r.has[i]]=[]:=by
     unfold keptL
     rw [List.filter_cons,if_neg,List.filter_nil]
     intro h
     rw [Bool.not_eq_true'] at h
     exact absurd (hz.2 h) (by assumption)
    rw [hd,List.append_nil] at hst
    exact⟨i + 1,hi,ap id ⟨rfl,rfl,rfl,rfl,rfl,trivial⟩ ⟨rfl,rfl,rfl,by rw [hst];rfl,trivial⟩ rfl rfl rfl rfl rfl rfl,by omega⟩
  ·rw [List.take_of_length_le (by omega)]
   have w:=set_fn ((keptL r.has r.has).flatMap Upd.says) (by have:=said_len r.has r.has.length;rw [List.take_of_length_le (Nat.le_refl _)] at this;omega) (fun f hf=>by
    obtain⟨u,hu,hf⟩:=List.mem_flatMap.1 hf
    have:=hsa u (List.mem_filter.1 hu).1 f hf
    omega)
   refine ba (dp 8 rfl rfl rfl) ?_
   repeat' (first|refine z0 ?_|apply ag|apply ae|refine z16 ?_|apply ah|apply ai|apply au|apply aj|apply aa|apply aq|refine z17 ?_|refine z21 ?_ (hc:=by apply w)|refine z1 ?_|refine z3 ?_|(refine z23 ?_ ?_ <;> intro hg)|fail)
   all_goals try (exfalso;omega)
   exact⟨.inl rfl,_,rfl,id,2,_,[(0,.row 53 5 (r.has.map a7)),(1,.row 53 5 (r.waits.map a7))],rfl,⟨rfl,rfl,trivial⟩,rfl,rfl,rfl,rfl,rfl,rfl,rfl,rfl,rfl⟩
theorem flat_len {α:Type} (f:Upd→List α) (n:Nat):∀ (l:List Upd),(∀ u∈l,(f u).length≤n)→(l.flatMap f).length≤l.length * n
 | [],_=>Nat.zero_le _
 | u::l,h=>by
  rw [List.flatMap_cons,List.length_append,List.length_cons,Nat.add_mul,Nat.one_mul]
  have h1:=h u (List.mem_cons_self ..)
  have h2:=flat_len f n l fun v hv=>h v (List.mem_cons_of_mem _ hv)
  omega


theorem nums {n:Int} (h:numB n=true):-4294967296≤n∧n < 4294967296:=by
 unfold numB inR at h
 simp only [Bool.and_eq_true,decide_eq_true_eq] at h
 omega





set_option maxHeartbeats 8000000 in
theorem sameUpdate_fn (a b:Upd):Fn 27 [jc a,jc b] (fun r=>r = .d (.bool (a.same b))):=by
 refine ak _ Tryz.func27 rfl rfl (by kernel_rfl) ?_
 intro O w0 E0 β0
 have h1:=sameIds_fn a.parents b.parents
 have h2:=jn a.says b.says
 have h3:=sameIds_fn a.takes b.takes
 unfold Upd.same
 have e:a.id.same b.id=(decide (a.id.author=b.id.author) && (decide (a.id.number=b.id.number) && true)):=by unfold UId.same;rw [Bool.and_true]
 rw [e]
 generalize fx UId.same a.parents b.parents=x1 at h1 ⊢
 generalize fx Fct.same a.says b.says=x2 at h2 ⊢
 generalize fx UId.same a.takes b.takes=x3 at h3 ⊢
 repeat' (first|refine z0 ?_|refine z12 ?_|apply ag|apply ae|refine z16 ?_|apply aj|apply aa|refine z21 ?_ (hc:=by apply h1)|refine z21 ?_ (hc:=by apply h2)|refine z21 ?_ (hc:=by apply h3)|refine z1 ?_|((fail_if_success (apply bk;exact rfl));apply jr;exact rfl;exact rfl;exact rfl;all_goals intro hg))
 all_goals exact cm rfl (by simp_all)
set_option maxHeartbeats 8000000 in
theorem fact_fn (p:Int) (l:List Int):Fn 16 [.d (.int .i64 p),.d (.slice 1 (l.map bi))] (fun r=>r=ey ⟨p,l⟩):=by
 refine ak _ Tryz.func16 rfl rfl (by kernel_rfl) ?_
 intro O w0 E0 β0
 repeat' (first|refine z0 ?_|apply ag|apply ae|refine z16 ?_|apply aj|apply aa|refine z1 ?_|refine z3 ?_|fail)
 exact⟨.inl rfl,_,rfl,rfl,rfl⟩
def firstU:Upd:=⟨⟨0,1⟩,[],[⟨0,[1,2]⟩,⟨0,[2,3]⟩],[]⟩
def secondU:Upd:=⟨⟨1,1⟩,[⟨0,1⟩],[⟨0,[4,5]⟩],[⟨0,1⟩]⟩
set_option maxHeartbeats 8000000 in
theorem wpairs_fn:Fn 18 [] (fun r=>r = .d (.slice 2 (firstU.says.map a6))):=by
 refine ak _ Tryz.func18 rfl rfl (by kernel_rfl) ?_
 intro O w0 E0 β0
 have h1:=fact_fn 0 [1,2]
 have h2:=fact_fn 0 [2,3]
 repeat' (first|refine z0 ?_|apply ag|apply ae|refine z16 ?_|apply aj|apply aa|refine z21 ?_ (hc:=by apply h1)|refine z21 ?_ (hc:=by apply h2)|refine z4 ?_|fail)
 exact⟨.inl rfl,_,rfl,rfl,rfl⟩
set_option maxHeartbeats 8000000 in
theorem first_fn:Fn 12 [] (fun r=>r=jc firstU):=by
 refine ak _ Tryz.func12 rfl rfl (by kernel_rfl) ?_
 intro O w0 E0 β0
 repeat' (first|refine z0 ?_|apply ag|apply ae|refine z16 ?_|apply aa|refine z21 ?_ (hc:=by apply wpairs_fn)|refine z1 ?_|refine z3 ?_|fail)
 refine ba (bp 0 2 2 rfl rfl rfl) ?_
 refine ba (bp 0 4 2 rfl rfl rfl) ?_
 repeat' (apply aj)
 exact⟨.inl rfl,_,rfl,rfl,rfl⟩
set_option maxHeartbeats 8000000 in
theorem second_fn:Fn 13 [] (fun r=>r=jc secondU):=by
 refine ak _ Tryz.func13 rfl rfl (by kernel_rfl) ?_
 intro O w0 E0 β0
 have h1:=fact_fn 0 [4,5]
 repeat' (first|refine z0 ?_|apply ag|apply ae|refine z16 ?_|apply aj|apply aa|refine z21 ?_ (hc:=by apply h1)|refine z1 ?_|refine z3 ?_|refine z4 ?_|fail)
 exact⟨.inl rfl,_,rfl,rfl,rfl⟩
set_option maxHeartbeats 8000000 in
theorem sameUpdates_fn (l m:List (Upd)):Fn 15 [.d (.slice 5 (l.map a7)),.d (.slice 5 (m.map a7))] (fun r=>r = .d (.bool (fx Upd.same l m))):=by
 refine ak _ Tryz.func15 rfl rfl (by kernel_rfl) ?_
 intro O w0 E0 β0
 refine cp (t:=0) rfl fun hb=>?_
 repeat' (first|refine z0 ?_|apply ag|apply ae|refine z16 ?_|apply aa)
 refine cd rfl (fun h=>?_) (fun h=>?_)
 ·have hne:l.length≠m.length:=by rw [List.length_map,List.length_map] at h;omega
  repeat' (first|refine z0 ?_|apply ag|apply ae|refine z16 ?_|apply aj|apply aa|apply av)
  exact cm rfl (sameL_len _ _ _ hne).symm
 ·have hlen:l.length=m.length:=by rw [List.length_map,List.length_map] at h;omega
  repeat' (first|refine z0 ?_|apply ag|apply ae|refine z16 ?_|apply ah|apply ai|apply aa)
  refine bh (ι:=Nat) (fun i=>⟨0,[(0,.d (.slice 5 (l.map a7))),(1,.d (.slice 5 (m.map a7))),(5,.d (.int .i64 i))],[]⟩)
   (fun i=>i≤l.length∧fx Upd.same l m=fx Upd.same (l.drop i) (m.drop i)) (fun i=>l.length - i) 0 ⟨Nat.zero_le _,rfl⟩
   (ap id ⟨rfl,rfl,rfl,trivial⟩ trivial rfl rfl rfl rfl rfl rfl) ?_
  rintro i ⟨h1,h2⟩
  repeat' (first|refine z0 ?_|apply ag|apply ae|refine z16 ?_|apply aa)
  refine cd rfl (fun h=>?_) (fun h=>?_)
  ·have hi:i < l.length:=by rw [List.length_map] at h;omega
   have hm:i < m.length:=by omega
   have hd:=sameL_drop Upd.same l m i hi hm
   repeat' (first|refine z5 ?_|refine z10 ?_|apply ae|refine z20 ?_|apply ah|apply ai|apply aa|refine z22 ?_ (hc:=by apply sameUpdate_fn)|fail)
   refine c7 rfl (fun hb=>?_) (fun hb=>?_)
   ·have hp:Upd.same l[i] m[i]=false:=by simpa using hb
    repeat' (first|refine z0 ?_|apply ag|apply ae|refine z16 ?_|apply aj|apply aa|apply av|apply br)
    exact cm rfl (by rw [h2,hd,hp];rfl)
   ·have hp:Upd.same l[i] m[i]=true:=by simpa using hb
    repeat' (first|refine z0 ?_|apply ag|refine z16 ?_|apply ai|apply aa|apply bg)
    exact⟨i + 1,⟨hi,by rw [h2,hd,hp];rfl⟩,ap id ⟨rfl,rfl,rfl,trivial⟩ trivial rfl rfl rfl rfl rfl rfl,by omega⟩
  ·repeat' (first|refine z0 ?_|apply ag|apply ae|refine z16 ?_|apply au|apply aj|apply aa|apply aq|refine z17 ?_|fail)
   exact cm rfl (by rw [h2,sameL_end _ _ _ _ (by rw [List.length_map] at h;omega) (by rw [List.length_map] at h;omega)])


theorem roundB_iff {has:List Upd} (hs:StrU has) (hr:∀ u∈has,readyU has u=true):roundB has=true↔∃ u∈has,¬ Der has u.id:=by
 unfold roundB
 rw [List.any_eq_true]
 constructor
 ·rintro⟨u,hu,h⟩
  exact⟨u,hu,fun hd=>der_no_round hs hd u hu rfl ((behM_iff hs _ _).1 h)⟩
 ·rintro⟨u,hu,h⟩
  refine Classical.byContradiction fun hn=>h (no_round_der hr (fun v hv hre=>hn ⟨v,hv,(behM_iff hs _ _).2 hre⟩) u hu)
def markOf (has:List Upd) (F:List Bool) (j:UId):Bool:=match has.findIdx? fun u=>u.id.same j with
 | some n=>F.getD n false
 | none=>false
theorem findIdxS_at {has:List Upd} (hs:StrU has) {i:Nat} (hi:i < has.length):has.findIdx? (fun u=>u.id.same (has[i]'hi).id)=some i:=by
 rw [List.findIdx?_eq_some_iff_getElem]
 refine⟨hi,same_iff.2 rfl,fun j hj=>?_⟩
 rw [same_iff]
 intro he
 have h1:=hs.uniq (List.getElem_mem (by omega)) (List.getElem_mem hi) he
 have:=(List.getElem_inj hs.nodup).1 h1
 omega
theorem markOf_at {has:List Upd} (hs:StrU has) (F:List Bool) {i:Nat} (hi:i < has.length):markOf has F (has[i]'hi).id=F.getD i false:=by unfold markOf;rw [findIdxS_at hs hi]
def FreeOk (has:List Upd) (F:List Bool):Prop:=F.length=has.length∧∀ (i:Nat) (hi:i < has.length),F.getD i false=true→Der has (has[i]'hi).id
theorem FreeOk.mark {has:List Upd} {F:List Bool} (h:FreeOk has F) {j:UId} (hm:markOf has F j=true):Der has j:=by
 unfold markOf at hm
 split at hm
 ·rename_i n hf
  obtain⟨hn,hs,_⟩:=List.findIdx?_eq_some_iff_getElem.1 hf
  rw [← same_iff.1 hs]
  exact h.2 n hn hm
 ·cases hm
theorem FreeOk.set {has:List Upd} {F:List Bool} (h:FreeOk has F) {i:Nat} (hi:i < has.length) (ha:(df (has[i]'hi)).all (markOf has F)=true):FreeOk has (F.set i true):=by
 refine⟨by rw [List.length_set];exact h.1,fun j hj hm=>?_⟩
 by_cases he:i=j
 ·subst he
  exact .mk _ (List.getElem_mem hi) fun k hk=>h.mark (List.all_eq_true.1 ha k hk)
 ·refine h.2 j hj ?_
  rw [List.getD,List.getElem?_set_ne he] at hm
  exact hm
def Closed (has:List Upd) (F:List Bool):Prop:=∀ (i:Nat) (hi:i < has.length),F.getD i false=false→(df (has[i]'hi)).all (markOf has F)=false
theorem Closed.der {has:List Upd} (hs:StrU has) {F:List Bool} (h:Closed has F) {j:UId} (hd:Der has j):markOf has F j=true:=by
 induction hd with
 | mk u hu _ ih =>
  obtain⟨i,hi,rfl⟩:=List.mem_iff_getElem.1 hu
  rw [markOf_at hs F hi]
  cases hb:F.getD i false with
  | true=>rfl
  | false =>
   have:=h i hi hb
   rw [List.all_eq_true.2 ih] at this
   cases this


theorem eraseIdx_at {α:Type} (a b:List α) (x:α):(a++x::b).eraseIdx a.length=a++b:=by
 rw [List.eraseIdx_append_of_length_le (Nat.le_refl _),Nat.sub_self,List.eraseIdx_cons_zero]
theorem RplGo.moveAt {A:List Upd} {h a b:List Upd} {x:Upd} (hg:RplGo A ⟨h,a++x::b⟩) (hr:readyU h x=true):RplGo A ⟨insU h x,a++b⟩:=by
 have hm:=hg.move (u:=x) (by simp) hr
 have hi:a.length < (a++x::b).length:=by rw [List.length_append,List.length_cons];omega
 have he:(a++x::b)[a.length]=x:=by rw [List.getElem_append_right (Nat.le_refl _)];simp
 have:=erase_filter hg.sw hi
 dsimp only at hm this
 rw [he] at this
 rw [← this,eraseIdx_at] at hm
 exact hm
theorem RplOk.nodup {A:List Upd} {r:Rpl} (h:RplOk A r):r.both.Nodup :=
 List.nodup_append.2 ⟨h.sh.nodup,h.sw.nodup,fun u hu v hv he=>h.apart u hu v hv (by rw [he])⟩
structure ToldOk (A:List Upd) (r:Rpl):Prop where
 ok:RplOk A r
 nodup:A.Nodup
theorem ToldOk.len {A:List Upd} {r:Rpl} (h:ToldOk A r):A.length=r.both.length :=
 ((List.perm_ext_iff_of_nodup h.nodup h.ok.nodup).2 fun u=>(h.ok.all u).trans List.mem_append.symm).length_eq
theorem ToldOk.has {A:List Upd} {r:Rpl} (h:ToldOk A r) (i:UId):hasU A i=hasU r.both i:=hasU_congr (fun u=>(h.ok.all u).trans List.mem_append.symm) i
theorem ToldOk.self {r:Rpl} (h:RplOk r.both r):ToldOk r.both r:=⟨h,h.nodup⟩
theorem ToldOk.step {A:List Upd} {r o:Rpl} (h:ToldOk A r) {u:Upd} (hu:hasU r.both u.id=false) (ho:RplOk (u::r.both) o):ToldOk (u::A) o:=by
 refine⟨ho.congr fun v=>?_,List.nodup_cons.2 ⟨fun hm=>?_,h.nodup⟩⟩
 ·rw [List.mem_cons,List.mem_cons,h.ok.all,List.mem_append]
 ·rw [← h.has,← Bool.not_eq_true,hasU_iff] at hu
  exact hu ⟨u,hm,rfl⟩
def ToldIs (r:Rpl) (l:List Upd) (o:Option Rpl):Prop :=
 match tellA r.both l,o with
 | none,none=>True
 | some A,some o=>ToldOk A o
 | _,_=>False
theorem ToldIs.unique {r:Rpl} {l:List Upd} {o p:Option Rpl} (h:ToldIs r l o) (g:ToldIs r l p):o=p:=by
 unfold ToldIs at h g
 revert h g
 cases tellA r.both l with
 | none=>cases o with
  | none=>cases p with
   | none=>exact fun _ _=>rfl
   | some p=>exact fun _ g=>g.elim
  | some o=>exact fun h=>h.elim
 | some A=>cases o with
  | none=>exact fun h=>h.elim
  | some o=>cases p with
   | none=>exact fun _ g=>g.elim
   | some p=>exact fun h g=>by rw [h.ok.unique g.ok]
theorem firstL_of0 {α:Type} {f:α→Int}:∀ {l:List α},(∀ x∈l,f x=0)→cu f l=0
 | [],_=>rfl
 | x::l,h=>by
  unfold cu
  rw [if_neg (by rw [h x (List.mem_cons_self ..)];simp)]
  exact firstL_of0 fun y hy=>h y (List.mem_cons_of_mem _ hy)
theorem checkR_zero {r:Rpl} (h:RplOk r.both r) (hl:r.has.length + r.waits.length≤200) (hc:∀ u∈r.both,dy u=0):ez r=0:=by
 have hz:cu dy (r.has++r.waits)=0:=firstL_of0 hc
 have hr:∀ u∈r.has,readyU r.has u=true:=fun u hu=>h.ready hu
 have hrb:roundB r.has=false:=by
  rw [← Bool.not_eq_true,roundB_iff h.sh hr]
  rintro⟨u,hu,hd⟩
  exact hd (h.der (h.had u hu))
 unfold ez
 rw [if_neg (by omega),if_neg (by simp [hz]),str_rises h.sh,str_rises h.sw,hrb]
 have h1:(r.waits.any fun u=>hasU r.has u.id)=false:=List.any_eq_false.2 fun u hu hh=>by
  obtain⟨v,hv,he⟩:=hasU_iff.1 hh
  exact h.apart v hv u hu he
 have h2:(r.has.any fun u=>!readyU r.has u)=false:=List.any_eq_false.2 fun u hu=>by rw [hr u hu];simp
 have h3:(r.waits.any fun u=>readyU r.has u)=false:=List.any_eq_false.2 fun u hu=>by rw [h.not_ready hu];simp
 rw [h1,h2,h3]
 simp
theorem rpl0_ok:RplOk [] ⟨[],[]⟩:=⟨.nil,.nil,fun u=>by simp,fun u hu=>by simp at hu,fun u hu=>by simp at hu,fun u hu=>by simp at hu⟩
theorem second_waits:readyU [] secondU=false:=by kernel_rfl
theorem rpl1_ok:RplOk [secondU] ⟨[],[secondU]⟩:=by
 have g:RplGo [secondU] ⟨[],[secondU]⟩:=rpl0_ok.more (u:=secondU) rfl rfl
 exact g.done fun u hu=>by rw [List.mem_singleton.1 hu];exact second_waits
theorem rpl2_ok:RplOk [firstU,secondU] ⟨[firstU,secondU],[]⟩:=by
 have g1:RplGo [firstU,secondU] ⟨[],[firstU,secondU]⟩:=rpl1_ok.more (u:=firstU) (by kernel_rfl) (by kernel_rfl)
 have g2:RplGo [firstU,secondU] ⟨[firstU],[secondU]⟩:=g1.moveAt (a:=[]) (b:=[secondU]) (by kernel_rfl)
 have g3:RplGo [firstU,secondU] ⟨[firstU,secondU],[]⟩:=g2.moveAt (a:=[]) (b:=[]) (by kernel_rfl)
 exact g3.done fun u hu=>by simp at hu
def ApartU (l:List Upd):Prop:=l.Pairwise fun a b=>a.id≠b.id
structure Lv (ρ:Type) where
 rs:List ρ
 hd:List Fct→ρ→List Fct
 mw:List Fct→ρ→Bool
 A:List Fct→Prop
structure LvOk {ρ:Type} (V:Lv ρ):Prop where
 mono:∀ S T,V.A S→V.A T→Strict S→Strict T→(∀ x∈S,x∈T)→∀ r∈V.rs,V.mw T r=true→V.mw S r=true∧∀ x∈V.hd S r,x∈V.hd T r
 grow:∀ S T,V.A S→(∀ x∈S,x∈T)→(∀ x∈T,x∈S∨∃ r∈V.rs,∃ S',V.A S'∧Strict S'∧x∈V.hd S' r)→V.A T
structure Good {ρ:Type} (V:Lv ρ) (m0 T:List Fct):Prop where
 strict:Strict T
 a:V.A T
 sub:∀ x∈m0,x∈T
 few:∀ r∈V.rs,V.mw T r=true
 cl:∀ r∈V.rs,∀ x∈V.hd T r,x∈T
structure Fit {ρ:Type} (V:Lv ρ) (m0 M:List Fct):Prop where
 good:Good V m0 M
 len:M.length≤60
 least:∀ T,Good V m0 T→∀ x∈M,x∈T
structure InvM {ρ:Type} (V:Lv ρ) (m0 m:List Fct):Prop where
 strict:Strict m
 a:V.A m
 sub:∀ x∈m0,x∈m
 len:m.length≤60
 least:∀ T,Good V m0 T→∀ x∈m,x∈T
theorem Strict.nodup {l:List Fct} (h:Strict l):l.Nodup:=h.imp fun h he=>by subst he;exact lt_irrefl h
theorem nodup_len {α:Type}:∀ {a b:List α},a.Nodup→(∀ x∈a,x∈b)→a.length≤b.length
 | [],_,_,_=>Nat.zero_le _
 | x::a,b,hn,hs=>by
  obtain⟨h1,h2⟩:=List.nodup_cons.1 hn
  obtain⟨s,t,rfl⟩:=List.append_of_mem (hs x (List.mem_cons_self ..))
  have:=nodup_len (b:=s++t) h2 fun y hy=>by
   have hy':=hs y (List.mem_cons_of_mem _ hy)
   rcases List.mem_append.1 hy' with h|h
   ·exact List.mem_append_left _ h
   ·rcases List.mem_cons.1 h with rfl|h
    ·exact absurd hy h1
    ·exact List.mem_append_right _ h
  simp only [List.length_append,List.length_cons] at this ⊢
  omega
theorem jf (l:List Fct):(bq l).length≤l.length:=by
 have h:=setF_len l []
 rw [List.length_nil,Nat.add_zero] at h
 exact h
section
variable {ρ : Type} {V : Lv ρ} {m0 m m' : List Fct}
theorem Fit.unique {M M':List Fct} (h:Fit V m0 M) (h':Fit V m0 M'):M=M' :=
 ir h.good.strict h'.good.strict fun x=>⟨h.least M' h'.good x,h'.least M h.good x⟩
theorem kx (h:Strict m0) (ha:V.A m0) (hl:m0.length≤60):InvM V m0 m0:=⟨h,ha,fun _ h=>h,hl,fun _ hT=>hT.sub⟩
theorem no_many (hV:LvOk V) (h:InvM V m0 m) {r:ρ} (hr:r∈V.rs) (hm:V.mw m r=false):¬ ∃ M,Fit V m0 M:=by
 rintro⟨M,hM⟩
 have:=(hV.mono m M h.a hM.good.a h.strict hM.good.strict (h.least M hM.good) r hr (hM.good.few r hr)).1
 rw [hm] at this;cases this
theorem head_in (hV:LvOk V) (h:InvM V m0 m) {r:ρ} (hr:r∈V.rs) {x:Fct} (hx:x∈V.hd m r) {T:List Fct} (hT:Good V m0 T):x∈T :=
 hT.cl r hr x ((hV.mono m T h.a hT.a h.strict hT.strict (h.least T hT) r hr (hT.few r hr)).2 x hx)
theorem inv_put (hV:LvOk V) (h:InvM V m0 m) {H:List Fct} (hH:∀ x∈H,∃ r∈V.rs,∃ m',InvM V m0 m'∧x∈V.hd m' r) (hl:(bq (m++H)).length≤60):InvM V m0 (bq (m++H)):=by
 obtain⟨h1,h2⟩:=bn (m++H)
 refine⟨h1,?_,fun x hx=>(h2 x).2 (List.mem_append_left _ (h.sub x hx)),hl,fun T hT x hx=>?_⟩
 ·refine hV.grow m _ h.a (fun x hx=>(h2 x).2 (List.mem_append_left _ hx)) fun x hx=>?_
  rcases List.mem_append.1 ((h2 x).1 hx) with hx|hx
  ·exact .inl hx
  ·obtain⟨r,hr,m',hm',hx⟩:=hH x hx
   exact .inr ⟨r,hr,m',hm'.a,hm'.strict,hx⟩
 ·rcases List.mem_append.1 ((h2 x).1 hx) with hx|hx
  ·exact h.least T hT x hx
  ·obtain⟨r,hr,m',hm',hx⟩:=hH x hx
   exact head_in hV hm' hr hx hT
theorem no_room (hV:LvOk V) (h:InvM V m0 m) {H:List Fct} (hH:∀ x∈H,∃ r∈V.rs,∃ m',InvM V m0 m'∧x∈V.hd m' r) (hn:H.Nodup) (hd:∀ x∈H,x ∉ m) (hl:60 < m.length + H.length):¬ ∃ M,Fit V m0 M:=by
 rintro⟨M,hM⟩
 have:(m++H).length≤M.length:=by
  refine nodup_len (List.nodup_append.2 ⟨h.strict.nodup,hn,fun x hx y hy he=>?_⟩) fun x hx=>?_
  ·subst he;exact hd x hy hx
  ·rcases List.mem_append.1 hx with hx|hx
   ·exact h.least M hM.good x hx
   ·obtain⟨r,hr,m',hm',hx⟩:=hH x hx
    exact head_in hV hm' hr hx hM.good
 have h2:=hM.len
 rw [List.length_append] at this
 omega
theorem fit_done (h:InvM V m0 m) (hf:∀ r∈V.rs,V.mw m r=true) (hc:∀ r∈V.rs,∀ x∈V.hd m r,x∈m):Fit V m0 m :=
 ⟨⟨h.strict,h.a,h.sub,hf,hc⟩,h.len,h.least⟩
theorem same_len {a b:List Fct} (ha:Strict a) (hb:Strict b) (hs:∀ x∈a,x∈b) (hl:b.length≤a.length):a=b:=by
 refine ir ha hb fun x=>⟨hs x,fun hx=>?_⟩
 apply Classical.byContradiction
 intro hn
 have:=nodup_len (a:=x::a) (b:=b) (List.nodup_cons.2 ⟨hn,ha.nodup⟩) fun y hy=>by
  rcases List.mem_cons.1 hy with rfl|hy
  ·exact hx
  ·exact hs y hy
 rw [List.length_cons] at this
 omega
end
theorem arity_at {p:Prg} {n:Int} (h0:0≤n) (h:n < (p.arity.length:Int)):p.arity.getD n.toNat 0=p.arity[n.toNat]'(by omega):=by
 rw [List.getD,List.getElem?_eq_getElem (by omega)];rfl
theorem inR_spec {n a b:Int} (h:inR n a b=true):a≤n∧n≤b:=by
 unfold inR at h;simpa using h
set_option maxHeartbeats 8000000 in
theorem lit_fn (p:Prg) (l:Ltl) (vars:Int) (h0:0≤vars) (h8:vars≤8):Fn 86 [jl p,elLtl l,.d (.int .i64 vars)] (fun r=>r = .d (.int .i64 (litE p.arity vars l))):=by
 refine ak _ Tryz.func86 rfl rfl (by kernel_rfl) ?_
 intro O w0 E0 β0
 obtain⟨kind,op,pred,terms⟩:=l
 have la:(p.arity.map bi).length=p.arity.length:=List.length_map _
 have lb:(terms.map bw).length=terms.length:=List.length_map _
 refine dw_lenA 0 0 rfl rfl (fun hk=>?_)
 refine dw_lenA 1 3 rfl rfl (fun hk2=>?_)
 have ht:=terms_fn terms vars h0 h8
 have w1:=fb kind 1 4
 have ho:=op_fn kind op
 unfold litE
 dsimp only [elLtl]
 by_cases hk1:inR kind 1 4=true
 ·have hk':=inR_spec hk1
  rw [hk1] at w1
  rw [hk1,if_neg (show ¬ (true=false) by decide)]
  generalize opB kind op=bo at ho ⊢
  by_cases hn:kind=1∨kind=2
  ·have w2:=fb pred 0 (((p.arity.map bi).length:Int) - 1)
   rw [if_pos hn,← la]
   by_cases hp:inR pred 0 (((p.arity.map bi).length:Int) - 1)=true
   ·have hp':=inR_spec hp
    have hA:=arity_at (p:=p) (n:=pred) (by omega) (by omega)
    rw [hp] at w2 ⊢
    rw [if_neg (show ¬ (true=false) by decide),hA]
    clear hk1 hp hA
    rcases hn with rfl|rfl
    all_goals repeat' (first|refine z0 ?_|refine z12 ?_|apply ag|refine z5 ?_|refine z10 ?_|apply ae|refine z16 ?_|refine z20 ?_|apply ah|apply ai|apply aj|refine z19 ?_|apply aa|apply av|apply bg|apply br|refine z21 ?_ (hc:=by apply w1)|refine z21 ?_ (hc:=by apply w2)|refine z21 ?_ (hc:=by apply ho)|refine z21 ?_ (hc:=by apply ht)|refine z1 ?_|(refine z23 ?_ ?_ <;> intro hg)|(apply c7;exact rfl;all_goals intro hg))
    all_goals first
     | exact cg rfl (by simp_all <;> omega)
     | exact cg rfl rfl
   ·rw [Bool.not_eq_true] at hp
    rw [hp] at w2 ⊢
    rw [if_pos rfl]
    clear hk1 hp
    rcases hn with rfl|rfl
    all_goals repeat' (first|refine z0 ?_|refine z12 ?_|apply ag|apply ae|refine z16 ?_|apply ah|apply aj|refine z18 ?_|refine z19 ?_|apply aa|apply av|apply br|refine z21 ?_ (hc:=by apply w1)|refine z21 ?_ (hc:=by apply w2)|refine z21 ?_ (hc:=by apply ho)|refine z1 ?_|(apply c7;exact rfl;all_goals intro hg))
    all_goals first
     | exact cg rfl (by simp_all <;> omega)
  ·rw [if_neg hn]
   clear hk1
   rcases (show kind=3∨kind=4 by omega) with rfl|rfl
   all_goals repeat' (first|refine z0 ?_|refine z12 ?_|apply ag|refine z5 ?_|refine z14 ?_|refine z10 ?_|apply ae|refine z16 ?_|refine z20 ?_|apply ah|apply ai|apply aj|refine z18 ?_|refine z19 ?_|apply aa|apply av|apply bg|apply br|refine z21 ?_ (hc:=by apply w1)|refine z21 ?_ (hc:=by apply ho)|refine z21 ?_ (hc:=by apply ht)|refine z1 ?_|(refine z23 ?_ ?_ <;> intro hg)|(apply c7;exact rfl;all_goals intro hg)|((fail_if_success (apply bk;exact rfl));apply bl;exact rfl;exact rfl;exact rfl;all_goals intro hg))
   all_goals first
    | exact cg rfl (by simp_all <;> omega)
 ·rw [Bool.not_eq_true] at hk1
  rw [hk1] at w1 ⊢
  rw [if_pos rfl]
  repeat' (first|refine z0 ?_|refine z12 ?_|apply ag|apply ae|refine z16 ?_|apply ah|apply aj|refine z18 ?_|apply aa|apply av|apply br|refine z21 ?_ (hc:=by apply w1)|refine z1 ?_|((fail_if_success (apply bk;exact rfl));apply bl;exact rfl;exact rfl;exact rfl;all_goals intro hg))
  all_goals exact cg rfl rfl
def isTok (kind:Int) (s:ByteArray):Bool :=
 if h:0 < s.size then
  decide (s.size≤5000) && decide (kind≠0) && decide ((c8 s.data.toList).1=kind) && decide ((c8 s.data.toList).2=s.size) && decide (er kind s.size s[0]=0)
 else false
theorem tokErr_eq (kind:Int) (n:Nat) (c:UInt8):er kind n c=if kind=0 then 1 else if ((kind=1∨kind=2)∧12 < n)∨(kind=3∧7 < n) then 2 else if kind=3∧1 < n∧c=48 then 1 else 0:=by
 unfold er;rfl
theorem u8i (c d:UInt8):((c.toNat:Int)=(d.toNat:Int))=(c=d):=by
 rw [eq_iff_iff]
 exact⟨fun h=>UInt8.toNat_inj.1 (by omega),fun h=>by rw [h]⟩
theorem u48 (c:UInt8):((c.toNat:Int)=48)=(c=48):=u8i c 48
theorem natc_lt1 (b:Nat):((1:Int) < (b:Int))=(1 < b):=by rw [eq_iff_iff];omega
theorem natc_lt7 (b:Nat):((7:Int) < (b:Int))=(7 < b):=by rw [eq_iff_iff];omega
theorem natc_lt12 (b:Nat):((12:Int) < (b:Int))=(12 < b):=by rw [eq_iff_iff];omega
end Go.Proofs.YtapciiffpnociaaGreat
