/- Several texts in one: GxTail GxOrd RuP RuA RuQ RuB RuR RuC RuD RuE RuG RuK. Condition: none. -/
import Derived.Test.YtapciiffpnociacGreatC07
import Derived.Test.YtapciiffpnociacGreatC08
import Derived.Test.YtapciiffpnociacGreatC10
import Derived.Test.YtapciiffpnociacGreatC11
import Derived.Test.YtapciiffpnociacGreatC01

/- A plain logic over the walk: regions that draw their order, whose last operations can go in one order alone. No program is named here. Condition: none. -/
namespace Go.Proofs.YtapciiffpnociacGreat
open Go Go.RowKit
section
variable {Γ : Ctx} {l : List Oper} {κ c : Nat}
def tailB (l:List Oper) (c:Nat):Bool:=(enumO 0 l).all fun q=>Nat.blt q.1 c || (List.range q.1).all fun i=>reachB l l.length q.1 i
theorem tailB_spec (h:tailB l c=true) {j i:Nat} {o:Oper} (hj:l[j]? = some o) (hc:c≤j) (hi:i < j):reachB l l.length j i=true:=by
 unfold tailB at h
 rw [List.all_eq_true] at h
 have h1:=h (j,o) ((enumO_mem l 0 (j,o)).2 ⟨Nat.zero_le _,by simpa using hj⟩)
 rw [Bool.or_eq_true] at h1
 rcases h1 with h1|h1
 ·have:j < c:=Nat.le_of_ble_eq_true h1
  omega
 ·exact List.all_eq_true.1 h1 i (List.mem_range.2 hi)
theorem enumO_app:∀ (a b:List Oper) (n:Nat),enumO n (a++b)=enumO n a++enumO (n + a.length) b
 | [],b,n=>rfl
 | o::a,b,n=>by
  rw [List.cons_append,enumO,enumO,enumO_app a b (n + 1),List.cons_append,List.length_cons,show n + 1 + a.length=n + (a.length + 1) by omega]
theorem down_spec (hdown:regDownB l=true):∀ j o,l[j]? = some o→∀ e∈o.after,Region.binds .any e=true→e.on < j:=by
 intro j o hj e he hb
 unfold regDownB at hdown
 rw [List.all_eq_true] at hdown
 have h1:=hdown (j,o) ((enumO_mem l 0 (j,o)).2 ⟨Nat.zero_le _,by simpa using hj⟩)
 rw [List.all_eq_true] at h1
 have h2:=h1 e (by simpa using he)
 simp only [hb,Bool.not_true,Bool.false_or] at h2
 exact Nat.le_of_ble_eq_true h2
theorem first_ready (hdown:regDownB l=true) {listed:Array Bool} {q:Nat × Oper} {rem':List (Nat × Oper)} (g:Going l listed (q::rem')):q.1∈Region.ready .any l.toArray listed:=by
 obtain⟨h1,h2⟩:=(g.left q).1 (List.mem_cons_self ..)
 refine mem_ready.2 ⟨h2,q.2,by simpa using h1,fun e' he hb=>?_⟩
 have hlt:=down_spec hdown q.1 q.2 h1 e' he hb
 have hln:e'.on < listed.size:=by rw [g.size];have:=lt_of_some h1;omega
 cases hx:listed.getD e'.on false with
 | true=>rfl
 | false =>
  exfalso
  have hx':listed.getD e'.on true=false:=(getD_flip hln).trans hx
  have hlen':e'.on < l.length:=by rw [← g.size];exact hln
  have hm:=(g.left (e'.on,l[e'.on])).2 ⟨by simp [hlen'],hx'⟩
  rcases List.mem_cons.1 hm with h|h
  ·have:e'.on=q.1:=by rw [← h]
   omega
  ·have:=(List.pairwise_cons.1 g.sorted).1 _ h
   simp at this
   omega
theorem tail_run (hdown:regDownB l=true) (hT:tailB l c=true) {Q:Exit→Act→World→Prop}:∀ (m:Nat) (listed:Array Bool) (a:Act) (w:World),Going l listed (enumO (l.length - m) (l.drop (l.length - m)))→m≤l.length - c→wpList Γ.P l.toArray Q (l.drop (l.length - m)) a w→wpAny Γ.P .any l.toArray Q m listed a w
 | 0,listed,a,w,g,_,h=>by
  have hn:l.drop (l.length - 0)=[]:=List.drop_eq_nil_of_le (by omega)
  rw [hn] at g h
  refine⟨?_,h⟩
  apply List.eq_nil_iff_forall_not_mem.2
  intro j hj
  obtain⟨h1,o,ho,_⟩:=mem_ready.1 hj
  have:=(g.left (j,o)).2 ⟨by simpa using ho,h1⟩
  simp [enumO] at this
 | m + 1,listed,a,w,g,hm,h=>by
  have hj:l.length - (m + 1) < l.length:=by omega
  have hd:l.drop (l.length - (m + 1))=l[l.length - (m + 1)]::l.drop (l.length - m):=by
   rw [List.drop_eq_getElem_cons hj]
   congr 2
   omega
  have hen:enumO (l.length - (m + 1)) (l.drop (l.length - (m + 1)))=(l.length - (m + 1),l[l.length - (m + 1)])::enumO (l.length - m) (l.drop (l.length - m)):=by
   rw [hd,enumO]
   congr 2
   omega
  rw [hen] at g
  rw [hd] at h
  generalize hJ:l.length - (m + 1)=J at *
  have hr:=first_ready hdown g
  refine⟨fun h0=>?_,fun i hi=>?_⟩
  ·rw [h0] at hr;simp at hr
  ·obtain⟨h1,o,ho,hall⟩:=mem_ready.1 hi
   have hio:l[i]? = some o:=by simpa using ho
   have hij:i=J:=by
    have hmem:=(g.left (i,o)).2 ⟨hio,h1⟩
    rcases List.mem_cons.1 hmem with h|h
    ·exact congrArg Prod.fst h
    ·exfalso
     have hlt:J < i:=by simpa using (List.pairwise_cons.1 g.sorted).1 _ h
     have:=reach_done g l.length i o (tailB_spec hT hio (by omega) hlt) hio hall
     have h3:=((g.left (J,l[J])).1 (List.mem_cons_self ..)).2
     have hJs:J < listed.size:=by rw [g.size];exact hj
     rw [getD_flip hJs] at h3
     rw [h3] at this
     cases this
   subst hij
   have g':=Going.rest (pre:=[]) (i:=i) (o:=l[i]) (post:=enumO (l.length - m) (l.drop (l.length - m))) g hi rfl (by rw [List.getElem?_eq_getElem hj])
   unfold wpOp
   have hlk:l.toArray[i]? = some l[i]:=by simp [hj]
   rw [hlk]
   unfold wpList at h
   split at h
   ·rename_i hw
    simp only [hw,if_true]
    exact h.imp (fun h=>Oper.wp_mono (fun a' w' hk=>tail_run hdown hT m _ a' w' g' (by omega) hk) h) id
   ·rename_i hw
    simp only [hw]
    exact tail_run hdown hT m _ _ w g' (by omega) h
theorem tail_sim (hB:regAnyB l=true) (hT:tailB l c=true) (hcl:c≤l.length) {K:FS→Prop} {Q:Exit→Act→World→Prop} (hQ:∀ s e a w,K s→Rep Γ (lo (κ + c)) s e a w→wpList Γ.P l.toArray Q (l.drop c) a w) :
  ∀ (fuel:Nat) (listed:Array Bool) (a:Act) (w:World) (s:FS) (e:Env) (D:Nat→Prop) (rem:List (Nat × Oper)) (lg:Log),Going l listed (rem++enumO c (l.drop c))→(∀ q∈rem,q.1 < c)→rem.length=fuel→Rep Γ D s e a w →
   (∀ x,D x→x < κ + c∧∀ j,x=κ + j→listed.getD j false=true)→DR Γ l κ rem lg K s→wpAny Γ.P .any l.toArray Q (fuel + (l.length - c)) listed a w:=by
 simp only [regAnyB,Bool.and_eq_true] at hB
 obtain⟨hdown,hpair,hcall⟩:=hB
 intro fuel
 induction fuel with
 | zero =>
  intro listed a w s e D rem lg g hrc hlen hr hD hd
  have hrem:rem=[]:=List.eq_nil_of_length_eq_zero hlen
  subst hrem
  rw [Nat.zero_add]
  have hcc:l.length - (l.length - c)=c:=by omega
  refine tail_run hdown hT (l.length - c) listed a w (by rw [hcc];exact g) (Nat.le_refl _) ?_
  rw [hcc]
  cases hd with
  | nil hk =>
   obtain⟨L,H,m,hs⟩:=hr
   obtain⟨e',m'⟩:=m.widenTo (k':=lo (κ + c)) fun x hx=>(hD x hx).1
   exact hQ s e' a w hk ⟨L,H,m',hs⟩
 | succ fuel ih =>
  intro listed a w s e D rem lg g hrc hlen hr hD hd
  rw [show fuel + 1 + (l.length - c)=(fuel + (l.length - c)) + 1 by omega]
  obtain⟨q0,rem0,hq0⟩:∃ q r,rem=q::r:=by
   cases rem with
   | nil=>simp at hlen
   | cons q r=>exact⟨q,r,rfl⟩
  refine⟨fun h0=>?_,fun i hi=>?_⟩
  ·exfalso
   have hg:=g
   rw [hq0,List.cons_append] at hg
   have:=first_ready hdown hg
   rw [h0] at this
   simp at this
  ·obtain⟨h1,o,ho,hall⟩:=mem_ready.1 hi
   have hio:l[i]? = some o:=by simpa using ho
   have hic:i < c:=by
    apply Classical.byContradiction
    intro hn
    have hq0c:q0.1 < c:=hrc q0 (by rw [hq0];exact List.mem_cons_self ..)
    have hrd:=reach_done g l.length i o (tailB_spec hT hio (by omega) (show q0.1 < i by omega)) hio hall
    have h3:=(g.left q0).1 (List.mem_append_left _ (by rw [hq0];exact List.mem_cons_self ..))
    have hs:q0.1 < listed.size:=by rw [g.size];exact lt_of_some h3.1
    have h4:=h3.2
    rw [getD_flip hs,hrd] at h4
    cases h4
   have hmem:(i,o)∈rem:=by
    rcases List.mem_append.1 ((g.left (i,o)).2 ⟨hio,h1⟩) with h|h
    ·exact h
    ·exfalso
     have:=((enumO_mem _ _ _).1 h).1
     simp only at this
     omega
   obtain⟨pre,post,hre⟩:=List.append_of_mem hmem
   have g0:=g
   rw [hre,List.append_assoc,List.cons_append] at g0
   have g':=g0.rest hi rfl hio
   rw [← List.append_assoc] at g'
   have hpull:DR Γ l κ ((i,o)::(pre++post)) lg K s:=by
    refine DR.pull pre lg s (fun q hq=>?_) (hre▸hd)
    have hqr:q∈rem++enumO c (l.drop c):=List.mem_append_left _ (by rw [hre];exact List.mem_append_left _ hq)
    obtain⟨hq1,hq2⟩:=(g.left q).1 hqr
    have hqi:q.1 < i:=by
     have hs:=g0.sorted
     rw [List.pairwise_append] at hs
     have:=hs.2.2 q hq (i,o) (List.mem_cons_self ..)
     simpa using this
    have hqs:q.1 < listed.size:=by rw [g.size];exact lt_of_some hq1
    have hq2':listed.getD q.1 false=false:=(getD_flip hqs).symm.trans hq2
    have e0:path2B l i q.1=false:=path2_false hio hall g.closed hq2'
    have e1:=path2_edge e0
    have e2:edgeB l q.1 i=false:=by
     cases hx:edgeB l q.1 i with
     | false=>rfl
     | true =>
      obtain⟨o',ho',e',he',hb',hon⟩:=edgeB_spec.1 hx
      have:=down_spec hdown q.1 o' ho' e' he' hb'
      omega
    refine⟨e0,e2,?_,fun hcq=>?_⟩
    ·unfold regPairB at hpair
     rw [List.all_eq_true] at hpair
     have p1:=hpair (i,o) ((enumO_mem l 0 (i,o)).2 ⟨Nat.zero_le _,by simpa using hio⟩)
     rw [List.all_eq_true] at p1
     have p2:=p1 q ((enumO_mem l 0 q).2 ⟨Nat.zero_le _,by simpa using hq1⟩)
     have hnb:Nat.ble i q.1=false:=by
      cases hb:Nat.ble i q.1 with
      | false=>rfl
      | true=>have:=Nat.le_of_ble_eq_true hb;omega
     simp only [hnb,Bool.false_or,e1] at p2
     exact p2
    ·cases hci:isCall o with
     | false=>rfl
     | true =>
      have:=calls_done g hcall hq1 hcq i o hio hci hqi hall
      rw [hq2'] at this
      cases this
   cases hpull with
   | cons cc S rd wr hm hl hne hn hk =>
    have hz:¬ D (κ + i):=by
     intro hx
     have:=(hD _ hx).2 i rfl
     have hin:i < listed.size:=by rw [g.size];exact lt_of_some hio
     rw [← getD_flip hin,h1] at this
     cases this
    refine Mv.sound hm hr ⟨κ + c,fun x hx=>(hD x hx).1⟩ hz hio Q _ fun v u a' w' e' hv hr'=>?_
    refine ih (listed.setIfInBounds i true) a' w' _ e' _ (pre++post) _ g' (fun q hq=>hrc q ?_) ?_ hr' (fun x hx=>?_) (hk v u hv)
    ·rw [hre];rcases List.mem_append.1 hq with h|h <;> simp [h]
    ·rw [hre] at hlen
     simp only [List.length_append,List.length_cons] at hlen ⊢
     omega
    ·have hin:i < listed.size:=by rw [g.size];exact lt_of_some hio
     rcases hx with hx|hx
     ·refine⟨(hD x hx).1,fun j hj=>?_⟩
      have:=(hD x hx).2 j hj
      by_cases hij:i=j
      ·subst hij;simp [hin]
      ·rw [getD_set_ne false hij];exact this
     ·subst hx
      refine⟨by omega,fun j hj=>?_⟩
      have:i=j:=by omega
      subst this
      simp [hin]
theorem dw_tail {id k m:Nat} {L:Sl} {H:Hp} {Q:Post} (c:Nat) (hm:Γ.P.follows .mixedOrders=true) (hB:regAnyB l=true) (hT:tailB l c=true) (hcl:Nat.ble c l.length=true) (hnd:noDefer l=true) (hl:lenIs (l.take c) k m)
  (h:DT Γ l k (enumO 0 (l.take c)) [] (endK Γ m (fun k' L' H'=>DS false Γ l (l.drop c) (Q .normal) k' L' H')) L H):DW Γ (.region id l.toArray true) Q k L H:=by
 have hcl:=Nat.le_of_ble_eq_true hcl
 have hmc:k + c=m:=by
  have:=lenIs_spec (l.take c) k m hl
  rw [List.length_take] at this
  omega
 subst hmc
 intro e a w mm
 refine wpIn_mono (wpIn_region_any hm (wpAny_in (letsOut_lift (Γ:=Γ) (K:=Q .normal)) hnd _ _ _ _ ?_)) (lift_mono (fun ex k' L' H' (⟨h1,h2⟩:onNormal (Q .normal) ex k' L' H')=>h1▸h2))
 have m0:=mm.below (w':={ w with drawn:=w.drawn + 1 }) ((Beld.refl _ _ _).drew)
 have hsp:enumO 0 (l.take c)++enumO c (l.drop c)=enumO 0 l:=by
  have:=enumO_app (l.take c) (l.drop c) 0
  rw [List.take_append_drop,List.length_take,Nat.zero_add,Nat.min_eq_left hcl] at this
  exact this.symm
 have hg:Going l (Array.replicate l.length false) (enumO 0 l):=by
  refine⟨by simp,fun j o hj hl=>?_,fun q=>?_,enumO_sorted l 0⟩
  ·have hlt:=lt_of_some hj
   simp [hlt] at hl
  ·rw [enumO_mem l 0 q]
   simp only [Nat.zero_le,Nat.sub_zero,true_and]
   constructor
   ·intro hq;exact⟨hq,by have:=lt_of_some hq;simp [this]⟩
   ·exact fun h=>h.1
 have hlenO:∀ (l:List Oper) b,(enumO b l).length=l.length:=by
  intro l
  induction l with
  | nil=>intro b;rfl
  | cons o l ih=>intro b;simp [enumO,ih]
 have hsize:l.toArray.size=c + (l.length - c):=by simp;omega
 rw [hsize]
 refine tail_sim hB hT hcl (K:=endK Γ (k + c) (fun k' L' H'=>DS false Γ l (l.drop c) (Q .normal) k' L' H')) (Q:=lift Γ (onNormal (Q .normal))) (fun s e a w hk hr=>?_) c _ a _ (ofL L H) e (lo k) (enumO 0 (l.take c)) [] (by rw [hsp,← hsize];simpa using hg) (fun q hq=>?_) (by rw [hlenO,List.length_take];omega) ⟨L,H,m0,rfl⟩ (fun x hx=>⟨Nat.lt_of_lt_of_le hx (Nat.le_add_right _ _),fun j hj=>?_⟩) h
 ·obtain⟨k',L',H',e',m',hq⟩:=hk e a w hr
  exact hq e' a w m'
 ·have h2:=((enumO_mem _ _ _).1 hq).2
  have:=lt_of_some h2
  rw [List.length_take] at this
  omega
 ·have:x < k:=hx
  omega
theorem dw_stopT (id:Nat) {k:Nat} {L:Sl} {H:Hp} {ops:Array Oper} {b:Bool} {Q:Post} (h:DW Γ (.region id ops b) Q k L H):DW Γ (.region id ops b) Q k L H:=h
end
end Go.Proofs.YtapciiffpnociacGreat

/- A plain logic over the walk: regions that draw their order, gone through in an order that is told: first such as can go in many orders, then such as can go in one alone. No program is named here. Condition: none. -/
namespace Go.Proofs.YtapciiffpnociacGreat
open Go Go.RowKit
section
variable {Γ : Ctx} {l : List Oper} {κ : Nat}
structure GoO (l:List Oper) (listed:Array Bool) (rem:List (Nat × Oper)):Prop where
 size:listed.size=l.length
 closed:∀ j o,l[j]? = some o→listed.getD j false=true→∀ e∈o.after,Region.binds .any e=true→listed.getD e.on false=true
 left:∀ q,q∈rem↔l[q.1]? = some q.2∧listed.getD q.1 true=false
 sorted:rem.Pairwise (fun p q=>p.1≠q.1∧edgeB l p.1 q.1=false)
theorem GoO.rest {listed:Array Bool} {rem pre post:List (Nat × Oper)} {i:Nat} {o:Oper} (g:GoO l listed rem) (hr:i∈Region.ready .any l.toArray listed) (he:rem=pre++(i,o)::post) (hi:l[i]? = some o):GoO l (listed.setIfInBounds i true) (pre++post) where
 size:=by simp [g.size]
 closed j oj hj hl e he' hb:=by
  have key:∀ x,listed.getD x false=true→(listed.setIfInBounds i true).getD x false=true:=by
   intro x hx
   by_cases hix:i=x
   ·subst hix
    have:i < listed.size:=by rw [g.size];exact lt_of_some hi
    simp [this]
   ·rw [getD_set_ne false hix];exact hx
  by_cases hij:i=j
  ·subst hij
   obtain⟨_,o',ho',hall⟩:=mem_ready.1 hr
   have ho2:l[i]? = some o':=by simpa using ho'
   rw [hj] at ho2
   cases ho2
   exact key _ (hall e he' hb)
  ·rw [getD_set_ne false hij] at hl
   exact key _ (g.closed j oj hj hl e he' hb)
 left q:=by
  have hs:=g.sorted
  rw [he] at hs
  have hne:∀ q∈pre++post,q.1≠i:=by
   intro q hq hqi
   rw [List.pairwise_append] at hs
   obtain⟨_,h2,h3⟩:=hs
   rcases List.mem_append.1 hq with h|h
   ·exact (h3 q h (i,o) (List.mem_cons_self ..)).1 hqi
   ·exact ((List.pairwise_cons.1 h2).1 q h).1 hqi.symm
  constructor
  ·intro hq
   have h1:q∈rem:=by rw [he];rcases List.mem_append.1 hq with h|h <;> simp [h]
   obtain⟨a,b⟩:=(g.left q).1 h1
   exact⟨a,by rw [getD_set_ne true (Ne.symm (hne q hq))];exact b⟩
  ·rintro⟨a,b⟩
   have hqi:i≠q.1:=by
    intro h
    have:i < listed.size:=by rw [g.size];exact lt_of_some hi
    rw [← h] at b
    simp [this] at b
   rw [getD_set_ne true hqi] at b
   have h1:=(g.left q).2 ⟨a,b⟩
   rw [he] at h1
   simp only [List.mem_append,List.mem_cons] at h1 ⊢
   rcases h1 with h|h|h
   ·exact .inl h
   ·exact absurd (by rw [h]) hqi
   ·exact .inr h
 sorted:=by
  have hs:=g.sorted
  rw [he] at hs
  exact hs.sublist (List.Sublist.append (List.Sublist.refl _) (List.sublist_cons_self _ _))
end
end Go.Proofs.YtapciiffpnociacGreat

/- Plain words on ways of a rule: values of terms, what is matched, what holds. No program is in sight. Condition: none. -/
namespace Go.Proofs.YtapciiffpnociacGreat
abbrev RE:=List (Option Int)
def vOf (e:RE) (t:Trm):Option Int:=if t.var < 0 then some t.n else e.getD t.var.toNat none
def vA (a:List Int) (t:Trm):Int:=if t.var < 0 then t.n else a.getD t.var.toNat 0
def hasE (e:RE):List Bool:=e.map Option.isSome
def outE (e:RE):List Int:=e.map fun x=>x.getD 0
def extE (e:RE) (a:List Int):Prop:=a.length=e.length∧∀ (v:Nat) (x:Int),e[v]? = some (some x)→a[v]? = some x
def matchE:RE→List Trm→List Int→Option RE
 | e,t::ts,n::ns=>match vOf e t with
  | some x=>if x=n then matchE e ts ns else none
  | none=>matchE (e.set t.var.toNat (some n)) ts ns
 | e,_,_=>some e
theorem hasE_len (e:RE):(hasE e).length=e.length:=List.length_map _
theorem outE_len (e:RE):(outE e).length=e.length:=List.length_map _
theorem isT_hasE (e:RE) (t:Trm):isT (hasE e) t=(vOf e t).isSome:=by
 unfold isT vOf hasE
 by_cases h:t.var < 0
 ·simp [h]
 ·simp only [h,decide_false,Bool.false_or,if_false,List.getD,List.getElem?_map]
  cases e[t.var.toNat]? <;> rfl
theorem vOf_out {e:RE} {t:Trm} {x:Int} (h:vOf e t=some x):vA (outE e) t=x:=by
 unfold vOf at h
 unfold vA outE
 by_cases hv:t.var < 0
 ·simp [hv] at h ⊢;exact h
 ·simp only [hv,if_false,List.getD,List.getElem?_map] at h ⊢
  cases he:e[t.var.toNat]? with
  | none=>rw [he] at h;simp at h
  | some y=>rw [he] at h;simp at h;subst h;rfl
theorem vOf_ext {e:RE} {a:List Int} {t:Trm} {x:Int} (h:extE e a) (hx:vOf e t=some x):vA a t=x:=by
 unfold vOf at hx
 unfold vA
 by_cases hv:t.var < 0
 ·simp [hv] at hx ⊢;exact hx
 ·simp only [hv,if_false,List.getD] at hx ⊢
  cases he:e[t.var.toNat]? with
  | none=>rw [he] at hx;simp at hx
  | some y =>
   rw [he] at hx
   simp at hx
   subst hx
   rw [h.2 _ _ he];rfl
theorem vA_same {e:RE} {a:List Int} {t:Trm} (h:extE e a) (hx:(vOf e t).isSome=true):vA a t=vA (outE e) t:=by
 obtain⟨x,hx⟩:=Option.isSome_iff_exists.1 hx
 rw [vOf_ext h hx,vOf_out hx]
theorem set_ext' {e:RE} {a:List Int} {t:Trm} {n:Int} (ho:okT e.length t) (hn:vOf e t=none):extE (e.set t.var.toNat (some n)) a↔extE e a∧vA a t=n:=by
 unfold vOf at hn
 unfold okT at ho
 have hv:¬ t.var < 0:=fun h=>by simp [h] at hn
 simp only [hv,if_false,List.getD] at hn
 have hlt:t.var.toNat < e.length:=by omega
 have he:e[t.var.toNat]? = some none:=by
  rw [List.getElem?_eq_getElem hlt] at hn ⊢
  simpa using hn
 unfold extE vA
 rw [List.length_set]
 simp only [hv,if_false]
 constructor
 ·rintro⟨h1,h2⟩
  have h3:=h2 t.var.toNat n (by rw [List.getElem?_set_self hlt])
  refine⟨⟨h1,fun v x hx=>?_⟩,by rw [List.getD,h3];rfl⟩
  by_cases hq:t.var.toNat=v
  ·subst hq;rw [he] at hx;cases hx
  ·exact h2 v x (by rw [List.getElem?_set_ne hq];exact hx)
 ·rintro⟨⟨h1,h2⟩,h3⟩
  refine⟨h1,fun v x hx=>?_⟩
  by_cases hq:t.var.toNat=v
  ·subst hq
   rw [List.getElem?_set_self hlt] at hx
   simp at hx
   subst hx
   rw [List.getD,List.getElem?_eq_getElem (by omega)] at h3
   rw [List.getElem?_eq_getElem (by omega)]
   simpa using h3
  ·exact h2 v x (by rw [List.getElem?_set_ne hq] at hx;exact hx)
theorem set_has {e:RE} {t:Trm} {n:Int} (hn:vOf e t=none):hasE (e.set t.var.toNat (some n))=setT (hasE e) t:=by
 have hv:¬ t.var < 0:=fun h=>by unfold vOf at hn;simp [h] at hn
 unfold hasE setT
 rw [if_neg hv,List.map_set];rfl
theorem matchE_some:∀ {ts:List Trm} {ns:List Int} {e e':RE},ts.length=ns.length→(∀ t∈ts,okT e.length t)→matchE e ts ns=some e' →
  e'.length=e.length∧(∀ a,extE e' a↔extE e a∧ts.map (vA a)=ns)∧hasE e' = ts.foldl setT (hasE e)
 | [],[],e,e',_,_,h=>by
  simp only [matchE,Option.some.injEq] at h
  subst h
  exact⟨rfl,fun a=>by simp,rfl⟩
 | t::ts,n::ns,e,e',hl,ho,h=>by
  have hl':ts.length=ns.length:=by simpa using hl
  rw [matchE] at h
  cases hv:vOf e t with
  | some x =>
   rw [hv] at h
   simp only at h
   split at h
   ·rename_i hx
    subst hx
    obtain⟨h1,h2,h3⟩:=matchE_some hl' (fun y hy=>ho y (List.mem_cons_of_mem _ hy)) h
    refine⟨h1,fun a=>?_,?_⟩
    ·rw [h2,List.map_cons,List.cons.injEq]
     exact⟨fun⟨g1,g2⟩=>⟨g1,vOf_ext g1 hv,g2⟩,fun⟨g1,_,g2⟩=>⟨g1,g2⟩⟩
    ·rw [h3,List.foldl_cons,setT_same (by rw [isT_hasE,hv];rfl)]
   ·cases h
  | none =>
   rw [hv] at h
   simp only at h
   obtain⟨h1,h2,h3⟩:=matchE_some hl' (fun y hy=>by rw [List.length_set];exact ho y (List.mem_cons_of_mem _ hy)) h
   refine⟨by rw [h1,List.length_set],fun a=>?_,?_⟩
   ·rw [h2,set_ext' (ho t (List.mem_cons_self ..)) hv,List.map_cons,List.cons.injEq,and_assoc]
   ·rw [h3,List.foldl_cons,set_has hv]
 | [],_::_,_,_,hl,_,_=>by simp at hl
 | _::_,[],_,_,hl,_,_=>by simp at hl
theorem matchE_none:∀ {ts:List Trm} {ns:List Int} {e:RE},ts.length=ns.length→(∀ t∈ts,okT e.length t)→matchE e ts ns=none→∀ a,extE e a→ts.map (vA a)≠ns
 | [],[],e,_,_,h,_,_=>by simp [matchE] at h
 | t::ts,n::ns,e,hl,ho,h,a,ha=>by
  have hl':ts.length=ns.length:=by simpa using hl
  rw [matchE] at h
  intro hm
  rw [List.map_cons,List.cons.injEq] at hm
  cases hv:vOf e t with
  | some x =>
   rw [hv] at h
   simp only at h
   split at h
   ·exact matchE_none hl' (fun y hy=>ho y (List.mem_cons_of_mem _ hy)) h a ha hm.2
   ·rename_i hx
    exact hx ((vOf_ext ha hv).symm.trans hm.1)
  | none =>
   rw [hv] at h
   simp only at h
   exact matchE_none hl' (fun y hy=>by rw [List.length_set];exact ho y (List.mem_cons_of_mem _ hy)) h a ((set_ext' (ho t (List.mem_cons_self ..)) hv).2 ⟨ha,hm.1⟩) hm.2
 | [],_::_,_,hl,_,_,_,_=>by simp at hl
 | _::_,[],_,hl,_,_,_,_=>by simp at hl
def testE (op a b:Int):Bool:=if op=1 then decide (a < b) else if op=2 then decide (a≤b) else if op=3 then decide (a=b) else decide (a≠b)
def calcE (op a b:Int):Int:=if op=5 then a + b else if op=6 then a - b else a * b
def calcL (l:Ltl) (a:List Int):Int:=calcE l.op ((l.terms.map (vA a)).getD 0 0) ((l.terms.map (vA a)).getD 1 0)
def holdE (S:List Fct) (l:Ltl) (a:List Int):Bool :=
 if l.kind=1 then hasF S ⟨l.pred,l.terms.map (vA a)⟩
 else if l.kind=2 then !hasF S ⟨l.pred,l.terms.map (vA a)⟩
 else if l.kind=3 then testE l.op ((l.terms.map (vA a)).getD 0 0) ((l.terms.map (vA a)).getD 1 0)
 else numB (calcL l a) && decide (calcL l a=(l.terms.map (vA a)).getD 2 0)
theorem map_same {e:RE} {a:List Int} (h:extE e a) {ts:List Trm} (hr:∀ t∈ts,(vOf e t).isSome=true):ts.map (vA a)=ts.map (vA (outE e)) :=
 List.map_congr_left fun t ht=>vA_same h (hr t ht)
theorem holdE_same {S:List Fct} {l:Ltl} {e:RE} {a:List Int} (h:extE e a) (hr:∀ t∈l.terms,(vOf e t).isSome=true):holdE S l a=holdE S l (outE e):=by
 unfold holdE calcL
 rw [map_same h hr]
structure okL (S:List Fct) (v:Nat) (l:Ltl):Prop where
 kind:1≤l.kind∧l.kind≤4
 terms:∀ t∈l.terms,okT v t
 test2:l.kind=3→l.terms.length=2
 calc3:l.kind=4→l.terms.length=3
 facts:l.kind=1→∀ x∈S,x.pred=l.pred→x.args.length=l.terms.length
def closedB (body:List Ltl) (bs:List Bool):Prop:=∀ l∈body,firesB bs l=true→∀ t∈litTs l,isT bs t=true
def Bd (body:List Ltl) (bs:List Bool):Prop:=∀ cs,leB bs cs→closedB body cs→∀ v,v < cs.length→cs.getD v false=true
theorem full_out {e:RE} (h:∀ v,v < (hasE e).length→(hasE e).getD v false=true) (a:List Int):extE e a↔a=outE e:=by
 rw [hasE_len] at h
 have he:∀ v,v < e.length→∃ x,e[v]? = some (some x):=fun v hv=>by
  have:=h v hv
  unfold hasE at this
  rw [List.getD,List.getElem?_map,List.getElem?_eq_getElem hv] at this
  simp at this
  obtain⟨x,hx⟩:=Option.isSome_iff_exists.1 this
  exact⟨x,by rw [List.getElem?_eq_getElem hv,hx]⟩
 constructor
 ·rintro⟨h1,h2⟩
  refine List.ext_getElem? fun v=>?_
  by_cases hv:v < e.length
  ·obtain⟨x,hx⟩:=he v hv
   rw [h2 v x hx]
   unfold outE
   rw [List.getElem?_map,hx];rfl
  ·rw [List.getElem?_eq_none (by omega),List.getElem?_eq_none (by rw [outE_len];omega)]
 ·rintro rfl
  refine⟨outE_len e,fun v x hx=>?_⟩
  unfold outE
  rw [List.getElem?_map,hx];rfl
theorem full_some {e:RE} (h:∀ v,v < (hasE e).length→(hasE e).getD v false=true) {t:Trm} (ho:okT e.length t):(vOf e t).isSome=true:=by
 rw [← isT_hasE]
 unfold isT
 unfold okT at ho
 by_cases hv:t.var < 0
 ·rw [decide_eq_true hv];rfl
 ·rw [h _ (by rw [hasE_len];omega),Bool.or_true]
end Go.Proofs.YtapciiffpnociacGreat

/- The document's CalcOf, isReady, ArgsOf. Condition: none. -/
namespace Go.Proofs.YtapciiffpnociacGreat
open Go Go.RowKit
theorem numB_iff {n:Int}:numB n=true↔-1000000≤n∧n≤1000000:=by unfold numB inR;simp
attribute [local irreducible] DW DS DL DQ Ev FnOk FnP thenD inBlockD DT
end Go.Proofs.YtapciiffpnociacGreat

/- Plain words on ways of a rule: how the program finds them. Condition: none. -/
namespace Go.Proofs.YtapciiffpnociacGreat
def needT (l:Ltl):List Trm:=if l.kind=4 then l.terms.take 2 else l.terms
def rdyL (e:RE) (l:Ltl):Bool:=(needT l).all fun t=>(vOf e t).isSome
def nextE (e:RE) (left:List Ltl):Nat:=if left.findIdx (rdyL e) < left.length then left.findIdx (rdyL e) else left.findIdx fun l=>decide (l.kind=1)
def litW (S:List Fct) (go:RE→List (List Int)) (l:Ltl) (e:RE):List (List Int) :=
 if l.kind=1 then S.flatMap fun x=>if x.pred=l.pred then (match matchE e l.terms x.args with|some e'=>go e'|none=>[]) else []
 else if l.kind=4 then (if numB (calcL l (outE e)) then (match matchE e (l.terms.drop 2) [calcL l (outE e)] with|some e'=>go e'|none=>[]) else [])
 else if holdE S l (outE e) then go e else []
def findE (S:List Fct):Nat→List Ltl→RE→List (List Int)
 | _,[],e=>[outE e]
 | 0,_::_,_=>[]
 | k + 1,l0::ls,e=>match (l0::ls)[nextE e (l0::ls)]? with
  | none=>[]
  | some l=>litW S (findE S k ((l0::ls).eraseIdx (nextE e (l0::ls)))) l e
theorem mem_erase {α:Type} {l:List α} {i:Nat} (h:i < l.length) (x:α):x∈l↔x=l[i]∨x∈l.eraseIdx i:=by
 rw [List.mem_eraseIdx_iff_getElem]
 constructor
 ·intro hx
  obtain⟨j,hj,rfl⟩:=List.mem_iff_getElem.1 hx
  by_cases hq:j=i
  ·subst hq;exact .inl rfl
  ·exact .inr ⟨j,hj,hq,rfl⟩
 ·rintro (rfl|⟨j,hj,_,rfl⟩)
  ·exact List.getElem_mem h
  ·exact List.getElem_mem hj
theorem next_lt {S:List Fct} {e:RE} {left:List Ltl} (h0:left≠[]) (hok:∀ l∈left,okL S e.length l) (hB:Bd left (hasE e)):nextE e left < left.length:=by
 unfold nextE
 split
 ·assumption
 ·rename_i h1
  refine List.findIdx_lt_length_of_exists ?_
  apply Classical.byContradiction
  intro h2
  have h1':∀ l∈left,rdyL e l=false:=by
   intro l hl
   cases h:rdyL e l with
   | false=>rfl
   | true=>exact absurd (List.findIdx_lt_length_of_exists ⟨l,hl,h⟩) h1
  have hcl:closedB left (hasE e):=by
   intro l hl hf
   exfalso
   unfold firesB at hf
   rw [Bool.or_eq_true,Bool.and_eq_true] at hf
   rcases hf with hf|⟨hf,hg⟩
   ·exact h2 ⟨l,hl,hf⟩
   ·have:=h1' l hl
    unfold rdyL needT at this
    rw [if_pos (of_decide_eq_true hf)] at this
    have hg':(l.terms.take 2).all (fun t=>(vOf e t).isSome)=true:=by
     rw [List.all_eq_true] at hg ⊢
     intro t ht
     rw [← isT_hasE];exact hg t ht
    rw [hg'] at this;cases this
  have hfull:=hB _ (leB.refl _) hcl
  obtain⟨l,hl⟩:=List.exists_mem_of_ne_nil left h0
  have:=h1' l hl
  unfold rdyL at this
  have hall:(needT l).all (fun t=>(vOf e t).isSome)=true:=by
   rw [List.all_eq_true]
   intro t ht
   refine full_some hfull ((hok l hl).terms t ?_)
   unfold needT at ht
   split at ht
   ·exact List.mem_of_mem_take ht
   ·exact ht
  rw [hall] at this;cases this
theorem next_is {e:RE} {left:List Ltl} (h:nextE e left < left.length):rdyL e (left[nextE e left])=true∨(left[nextE e left]).kind=1:=by
 unfold nextE at h ⊢
 split
 ·left;exact List.findIdx_getElem
 ·rename_i h1
  rw [if_neg h1] at h
  right
  have:=List.findIdx_getElem (xs:=left) (p:=fun l=>decide (l.kind=1)) (w:=h)
  exact of_decide_eq_true this
theorem Bd_rest {left:List Ltl} {i:Nat} (hi:i < left.length) {bs cs:List Bool} (hB:Bd left bs) (hle:leB bs cs) (hd:(∀ t∈litTs left[i],isT cs t=true)∨∀ ds,firesB ds left[i]=false):Bd (left.eraseIdx i) cs:=by
 intro ds h1 h2
 refine hB ds (hle.trans h1) fun l hl hf t ht=>?_
 rcases (mem_erase hi l).1 hl with rfl|hl
 ·rcases hd with hd|hd
  ·exact isT_mono h1 (hd t ht)
  ·rw [hd ds] at hf;cases hf
 ·exact h2 l hl hf t ht
theorem holdE_calc {S:List Fct} {l:Ltl} {a:List Int} (h4:l.kind=4) (h3:l.terms.length=3):holdE S l a=true↔numB (calcL l a)=true∧(l.terms.drop 2).map (vA a)=[calcL l a]:=by
 unfold holdE
 rw [if_neg (by omega),if_neg (by omega),if_neg (by omega),Bool.and_eq_true,decide_eq_true_eq]
 match hl:l.terms,h3 with
 | [t1,t2,t3],_ =>
  simp only [List.map_cons,List.map_nil,List.drop_succ_cons,List.drop_zero,List.getD_cons_succ,List.getD_cons_zero,List.cons.injEq,and_true]
  exact and_congr Iff.rfl eq_comm
theorem calcL_same {l:Ltl} {e:RE} {a:List Int} (h:extE e a) (h3:l.terms.length=3) (hr:∀ t∈l.terms.take 2,(vOf e t).isSome=true):calcL l a=calcL l (outE e):=by
 unfold calcL
 match hl:l.terms,h3 with
 | [t1,t2,t3],_ =>
  rw [hl] at hr
  simp only [List.map_cons,List.getD_cons_zero,List.getD_cons_succ]
  rw [vA_same h (hr t1 (by simp)),vA_same h (hr t2 (by simp))]
theorem litW_mem {S:List Fct} {go:RE→List (List Int)} {l:Ltl} {e:RE} (hok:okL S e.length l) (hr:rdyL e l=true∨l.kind=1) (a:List Int) {P:List Int→Prop}
  (hgo:∀ e',e'.length=e.length→leB (hasE e) (hasE e')→((∀ t∈litTs l,isT (hasE e') t=true)∨∀ ds,firesB ds l=false)→(a∈go e'↔extE e' a∧P a)) :
  a∈litW S go l e↔(extE e a∧holdE S l a=true)∧P a:=by
 unfold litW
 by_cases h1:l.kind=1
 ·rw [if_pos h1,List.mem_flatMap]
  have hlit:litTs l=l.terms:=by unfold litTs;rw [if_pos h1]
  have hho:holdE S l a=true↔(⟨l.pred,l.terms.map (vA a)⟩:Fct)∈S:=by unfold holdE;rw [if_pos h1,hasF_iff]
  constructor
  ·rintro⟨x,hx,ha⟩
   split at ha
   ·rename_i hp
    have hlen:=(hok.facts h1 x hx hp).symm
    split at ha
    ·rename_i e' he'
     obtain⟨g1,g2,g3⟩:=matchE_some hlen hok.terms he'
     have g4:=(hgo e' g1 (by rw [g3];exact setTs_le _ _) (.inl (by rw [hlit,g3];exact setTs_is (by rw [hasE_len];exact hok.terms)))).1 ha
     obtain⟨g5,g6⟩:=(g2 a).1 g4.1
     refine⟨⟨g5,hho.2 ?_⟩,g4.2⟩
     rw [g6,← hp];exact hx
    ·simp at ha
   ·simp at ha
  ·rintro⟨⟨ha,hh⟩,hP⟩
   refine⟨_,hho.1 hh,?_⟩
   rw [if_pos rfl]
   have hlen:l.terms.length=(l.terms.map (vA a)).length:=(List.length_map _).symm
   cases he':matchE e l.terms (l.terms.map (vA a)) with
   | none=>exact absurd rfl (matchE_none hlen hok.terms he' a ha)
   | some e' =>
    obtain⟨g1,g2,g3⟩:=matchE_some hlen hok.terms he'
    exact (hgo e' g1 (by rw [g3];exact setTs_le _ _) (.inl (by rw [hlit,g3];exact setTs_is (by rw [hasE_len];exact hok.terms)))).2 ⟨(g2 a).2 ⟨ha,rfl⟩,hP⟩
 ·rw [if_neg h1]
  have hr:=hr.resolve_right h1
  unfold rdyL needT at hr
  by_cases h4:l.kind=4
  ·rw [if_pos h4] at hr ⊢
   have h3:=hok.calc3 h4
   have hr':∀ t∈l.terms.take 2,(vOf e t).isSome=true:=List.all_eq_true.1 hr
   have hdl:(l.terms.drop 2).length=[calcL l (outE e)].length:=by rw [List.length_drop,h3];rfl
   have hdo:∀ t∈l.terms.drop 2,okT e.length t:=fun t ht=>hok.terms t (List.mem_of_mem_drop ht)
   have hlit:litTs l=l.terms.drop 2:=by unfold litTs;rw [if_neg h1]
   rw [holdE_calc h4 h3]
   constructor
   ·intro ha
    split at ha
    ·rename_i hn
     split at ha
     ·rename_i e' he'
      obtain⟨g1,g2,g3⟩:=matchE_some hdl hdo he'
      have g4:=(hgo e' g1 (by rw [g3];exact setTs_le _ _) (.inl (by rw [hlit,g3];exact setTs_is (by rw [hasE_len];exact hdo)))).1 ha
      obtain⟨g5,g6⟩:=(g2 a).1 g4.1
      rw [calcL_same g5 h3 hr']
      exact⟨⟨g5,hn,g6⟩,g4.2⟩
     ·simp at ha
    ·simp at ha
   ·rintro⟨⟨ha,hn,hm⟩,hP⟩
    rw [calcL_same ha h3 hr'] at hn hm
    rw [if_pos hn]
    cases he':matchE e (l.terms.drop 2) [calcL l (outE e)] with
    | none=>exact absurd hm (matchE_none hdl hdo he' a ha)
    | some e' =>
     obtain⟨g1,g2,g3⟩:=matchE_some hdl hdo he'
     exact (hgo e' g1 (by rw [g3];exact setTs_le _ _) (.inl (by rw [hlit,g3];exact setTs_is (by rw [hasE_len];exact hdo)))).2 ⟨(g2 a).2 ⟨ha,hm⟩,hP⟩
  ·rw [if_neg h4] at hr ⊢
   have hr':∀ t∈l.terms,(vOf e t).isSome=true:=List.all_eq_true.1 hr
   have hnf:∀ ds,firesB ds l=false:=fun ds=>by unfold firesB;rw [decide_eq_false h1,decide_eq_false h4];rfl
   have hg:=hgo e rfl (leB.refl _) (.inr hnf)
   constructor
   ·intro ha
    split at ha
    ·rename_i hh
     obtain⟨g1,g2⟩:=hg.1 ha
     exact⟨⟨g1,by rw [holdE_same g1 hr'];exact hh⟩,g2⟩
    ·simp at ha
   ·rintro⟨⟨ha,hh⟩,hP⟩
    rw [if_pos (by rw [← holdE_same ha hr'];exact hh)]
    exact hg.2 ⟨ha,hP⟩
theorem findE_mem (S:List Fct):∀ (k:Nat) (left:List Ltl) (e:RE),left.length≤k→(∀ l∈left,okL S e.length l)→Bd left (hasE e)→∀ a,a∈findE S k left e↔extE e a∧∀ l∈left,holdE S l a=true
 | k,[],e,_,_,hB,a=>by
  have h:findE S k [] e=[outE e]:=by cases k <;> rfl
  rw [h,List.mem_singleton,full_out (hB _ (leB.refl _) (by intro l hl;simp at hl))]
  simp
 | 0,_::_,_,hk,_,_,_=>by simp at hk
 | k + 1,l0::ls,e,hk,hok,hB,a=>by
  have hlt:=next_lt (by simp) hok hB
  have hnx:=next_is hlt
  rw [findE]
  generalize hi:nextE e (l0::ls)=i at hlt hnx
  rw [List.getElem?_eq_getElem hlt]
  generalize hL:l0::ls=left at *
  have hlen:(left.eraseIdx i).length≤k:=by rw [List.length_eraseIdx,if_pos hlt];omega
  have hsub:∀ l∈left.eraseIdx i,l∈left:=fun l hl=>(mem_erase hlt l).2 (.inr hl)
  simp only
  rw [litW_mem (P:=fun a=>∀ l∈left.eraseIdx i,holdE S l a=true) (hok _ (List.getElem_mem hlt)) hnx a fun e' g1 g2 g3=>findE_mem S k (left.eraseIdx i) e' hlen (fun l hl=>by rw [g1];exact hok l (hsub l hl)) (Bd_rest hlt hB g2 g3) a]
  constructor
  ·rintro⟨⟨g1,g2⟩,g3⟩
   exact⟨g1,fun l hl=>((mem_erase hlt l).1 hl).elim (fun h=>h▸g2) (g3 l)⟩
  ·rintro⟨g1,g2⟩
   exact⟨⟨g1,g2 _ (List.getElem_mem hlt)⟩,fun l hl=>g2 l (hsub l hl)⟩
theorem litW_nodup {S:List Fct} {go:RE→List (List Int)} {l:Ltl} {e:RE} (hS:S.Nodup) (hok:okL S e.length l) (hgo:∀ e',e'.length=e.length→leB (hasE e) (hasE e')→((∀ t∈litTs l,isT (hasE e') t=true)∨∀ ds,firesB ds l=false)→(go e').Nodup∧∀ a∈go e',extE e' a):(litW S go l e).Nodup:=by
 unfold litW
 by_cases h1:l.kind=1
 ·rw [if_pos h1]
  have hlit:litTs l=l.terms:=by unfold litTs;rw [if_pos h1]
  have key:∀ x∈S,x.pred=l.pred→∀ e',matchE e l.terms x.args=some e'→(go e').Nodup∧∀ a∈go e',l.terms.map (vA a)=x.args:=by
   intro x hx hp e' he'
   obtain⟨g1,g2,g3⟩:=matchE_some (hok.facts h1 x hx hp).symm hok.terms he'
   obtain⟨g4,g5⟩:=hgo e' g1 (by rw [g3];exact setTs_le _ _) (.inl (by rw [hlit,g3];exact setTs_is (by rw [hasE_len];exact hok.terms)))
   exact⟨g4,fun a ha=>((g2 a).1 (g5 a ha)).2⟩
  refine List.pairwise_flatMap.2 ⟨fun x hx=>?_,hS.imp_of_mem fun {x y} hx hy hne u hu v hv=>?_⟩
  ·split
   ·rename_i hp
    split
    ·rename_i e' he';exact (key x hx hp e' he').1
    ·exact .nil
   ·exact .nil
  ·rintro rfl
   split at hu
   ·rename_i hp
    split at hu
    ·rename_i e' he'
     split at hv
     ·rename_i hq
      split at hv
      ·rename_i f' hf'
       have g1:=(key x hx hp e' he').2 u hu
       have g2:=(key y hy hq f' hf').2 u hv
       apply hne
       obtain⟨xp,xa⟩:=x
       obtain⟨yp,ya⟩:=y
       simp only at hp hq g1 g2
       rw [hp,hq,← g1,← g2]
      ·simp at hv
     ·simp at hv
    ·simp at hu
   ·simp at hu
 ·rw [if_neg h1]
  by_cases h4:l.kind=4
  ·rw [if_pos h4]
   have h3:=hok.calc3 h4
   have hdl:(l.terms.drop 2).length=[calcL l (outE e)].length:=by rw [List.length_drop,h3];rfl
   have hdo:∀ t∈l.terms.drop 2,okT e.length t:=fun t ht=>hok.terms t (List.mem_of_mem_drop ht)
   have hlit:litTs l=l.terms.drop 2:=by unfold litTs;rw [if_neg h1]
   split
   ·split
    ·rename_i e' he'
     obtain⟨g1,g2,g3⟩:=matchE_some hdl hdo he'
     exact (hgo e' g1 (by rw [g3];exact setTs_le _ _) (.inl (by rw [hlit,g3];exact setTs_is (by rw [hasE_len];exact hdo)))).1
    ·exact .nil
   ·exact .nil
  ·rw [if_neg h4]
   have hnf:∀ ds,firesB ds l=false:=fun ds=>by unfold firesB;rw [decide_eq_false h1,decide_eq_false h4];rfl
   split
   ·exact (hgo e rfl (leB.refl _) (.inr hnf)).1
   ·exact .nil
theorem findE_nodup (S:List Fct) (hS:S.Nodup):∀ (k:Nat) (left:List Ltl) (e:RE),left.length≤k→(∀ l∈left,okL S e.length l)→Bd left (hasE e)→(findE S k left e).Nodup
 | k,[],e,_,_,_=>by
  have h:findE S k [] e=[outE e]:=by cases k <;> rfl
  rw [h];exact List.nodup_cons.2 ⟨by simp,.nil⟩
 | 0,_::_,_,hk,_,_=>by simp at hk
 | k + 1,l0::ls,e,hk,hok,hB=>by
  have hlt:=next_lt (by simp) hok hB
  rw [findE]
  generalize hi:nextE e (l0::ls)=i at hlt
  rw [List.getElem?_eq_getElem hlt]
  generalize hL:l0::ls=left at *
  have hlen:(left.eraseIdx i).length≤k:=by rw [List.length_eraseIdx,if_pos hlt];omega
  have hsub:∀ l∈left.eraseIdx i,l∈left:=fun l hl=>(mem_erase hlt l).2 (.inr hl)
  exact litW_nodup hS (hok _ (List.getElem_mem hlt)) fun e' g1 g2 g3=>⟨findE_nodup S hS k _ e' hlen (fun l hl=>by rw [g1];exact hok l (hsub l hl)) (Bd_rest hlt hB g2 g3),
   fun a ha=>((findE_mem S k _ e' hlen (fun l hl=>by rw [g1];exact hok l (hsub l hl)) (Bd_rest hlt hB g2 g3) a).1 ha).1⟩
end Go.Proofs.YtapciiffpnociacGreat

/- The document's LitHolds. Condition: none. -/
namespace Go.Proofs.YtapciiffpnociacGreat
open Go Go.RowKit
attribute [local irreducible] DW DS DL DQ Ev FnOk FnP thenD inBlockD DT
end Go.Proofs.YtapciiffpnociacGreat

/- Plain words on ways of a rule: how the document finds them, and that both find the same. Condition: none. -/
namespace Go.Proofs.YtapciiffpnociacGreat
def recL (e:RE) (l:Ltl):Option RE :=
 if l.kind=4∧(l.terms.take 2).all (fun t=>(vOf e t).isSome)=true∧(l.terms.drop 2).all (fun t=>(vOf e t).isSome)=false then
  (if numB (calcL l (outE e)) then some ((l.terms.drop 2).foldl (fun e t=>e.set t.var.toNat (some (calcL l (outE e)))) e) else none)
 else some e
def recP (body:List Ltl) (e:RE):Option RE:=body.foldlM recL e
def recN (body:List Ltl):Nat→RE→Option RE
 | 0,e=>some e
 | n + 1,e=>(recP body e).bind (recN body n)
def wrongE (S:List Fct) (body:List Ltl) (e:RE):Bool:=body.any fun l=>l.terms.all (fun t=>(vOf e t).isSome) && !holdE S l (outE e)
def fromE (S:List Fct) (body:List Ltl):List Ltl→RE→List (List Int)
 | [],e=>match recN body (body.length + 1) e with
  | none=>[]
  | some e'=>if wrongE S body e' then [] else [outE e']
 | l::ys,e=>match recN body (body.length + 1) e with
  | none=>[]
  | some e'=>if wrongE S body e' then [] else litW S (fromE S body ys) l e'
theorem drop2 {l:Ltl} (h3:l.terms.length=3):∃ t1 t2 t3,l.terms=[t1,t2,t3]:=by
 match h:l.terms,h3 with
 | [t1,t2,t3],_=>exact⟨t1,t2,t3,rfl⟩
theorem recL_some {S:List Fct} {e e':RE} {l:Ltl} (hok:okL S e.length l) (h:recL e l=some e') :
  e'.length=e.length∧(∀ a,holdE S l a=true→(extE e' a↔extE e a))∧hasE e' = (if l.kind=4 then bLit (hasE e) l else hasE e)∧∀ a,extE e' a→extE e a:=by
 unfold recL at h
 by_cases h4:l.kind=4
 ·have h3:=hok.calc3 h4
  obtain⟨t1,t2,t3,hT⟩:=drop2 h3
  have o3:okT e.length t3:=hok.terms t3 (by rw [hT];simp)
  have hdr:l.terms.drop 2=[t3]:=by rw [hT];rfl
  have hlit:litTs l=[t3]:=by unfold litTs;rw [if_neg (by omega),hdr]
  rw [if_pos h4]
  by_cases h12:(l.terms.take 2).all (fun t=>(vOf e t).isSome)=true
  ·have hfire:firesB (hasE e) l=true:=by
    unfold firesB
    rw [decide_eq_true h4,Bool.true_and,Bool.or_eq_true]
    right
    rw [List.all_eq_true] at h12 ⊢
    intro t ht
    rw [isT_hasE];exact h12 t ht
   have hbl:bLit (hasE e) l=setT (hasE e) t3:=by unfold bLit;rw [if_pos hfire,hlit];rfl
   cases hv:vOf e t3 with
   | some x =>
    rw [if_neg (by rw [hdr];simp [hv])] at h
    simp only [Option.some.injEq] at h
    subst h
    exact⟨rfl,fun a _=>Iff.rfl,by rw [hbl,setT_same (by rw [isT_hasE,hv];rfl)],fun a ha=>ha⟩
   | none =>
    rw [if_pos ⟨h4,h12,by rw [hdr];simp [hv]⟩] at h
    split at h
    ·rw [hdr] at h
     simp only [List.foldl_cons,List.foldl_nil,Option.some.injEq] at h
     subst h
     have hx:=fun a=>set_ext' (a:=a) (n:=calcL l (outE e)) o3 hv
     refine⟨List.length_set ..,fun a ha=>?_,by rw [set_has hv,hbl],fun a ha=>((hx a).1 ha).1⟩
     rw [hx a]
     refine⟨fun g=>g.1,fun g=>⟨g,?_⟩⟩
     have:=((holdE_calc h4 h3).1 ha).2
     rw [hdr,calcL_same g h3 (List.all_eq_true.1 h12)] at this
     simpa using this
    ·cases h
  ·rw [if_neg (by rintro⟨_,g,_⟩;exact h12 g)] at h
   simp only [Option.some.injEq] at h
   subst h
   refine⟨rfl,fun a _=>Iff.rfl,?_,fun a ha=>ha⟩
   have hnf:¬ firesB (hasE e) l=true:=by
    unfold firesB
    rw [decide_eq_false (by omega),Bool.false_or,Bool.and_eq_true]
    rintro⟨_,g⟩
    apply h12
    rw [List.all_eq_true] at g ⊢
    intro t ht
    rw [← isT_hasE];exact g t ht
   unfold bLit;rw [if_neg hnf]
 ·rw [if_neg (by rintro⟨g,_⟩;exact h4 g)] at h
  simp only [Option.some.injEq] at h
  subst h
  rw [if_neg h4]
  exact⟨rfl,fun a _=>Iff.rfl,rfl,fun a ha=>ha⟩
theorem recL_none {S:List Fct} {e:RE} {l:Ltl} (hok:okL S e.length l) (h:recL e l=none) (a:List Int) (ha:extE e a):holdE S l a=false:=by
 unfold recL at h
 split at h
 ·rename_i hc
  obtain⟨h4,h12,_⟩:=hc
  split at h
  ·cases h
  ·rename_i hn
   have h3:=hok.calc3 h4
   cases hh:holdE S l a with
   | false=>rfl
   | true =>
    have:=((holdE_calc h4 h3).1 hh).1
    rw [calcL_same ha h3 (List.all_eq_true.1 h12)] at this
    exact absurd this hn
 ·cases h
def calcs (body:List Ltl):List Ltl:=body.filter fun l=>decide (l.kind=4)
theorem calcs_round (l:Ltl) (body:List Ltl) (bs:List Bool):bRound (calcs (l::body)) bs=bRound (calcs body) (if l.kind=4 then bLit bs l else bs):=by
 unfold calcs
 rw [List.filter_cons]
 by_cases h:l.kind=4
 ·simp only [h,decide_true,if_true];rfl
 ·simp only [h,decide_false,if_false];rfl
theorem recP_some {S:List Fct}:∀ {body:List Ltl} {e e':RE},(∀ l∈body,okL S e.length l)→recP body e=some e' →
  e'.length=e.length∧(∀ a,(∀ l∈body,holdE S l a=true)→(extE e' a↔extE e a))∧hasE e' = bRound (calcs body) (hasE e)∧∀ a,extE e' a→extE e a
 | [],e,e',_,h=>by
  simp only [recP,List.foldlM_nil] at h
  cases h
  exact⟨rfl,fun a _=>Iff.rfl,rfl,fun a ha=>ha⟩
 | l::body,e,e',hok,h=>by
  simp only [recP,List.foldlM_cons] at h
  cases h1:recL e l with
  | none=>rw [h1] at h;cases h
  | some e1 =>
   rw [h1] at h
   obtain⟨g1,g2,g3,g4⟩:=recL_some (hok l (List.mem_cons_self ..)) h1
   obtain⟨k1,k2,k3,k4⟩:=recP_some (body:=body) (e:=e1) (fun x hx=>by rw [g1];exact hok x (List.mem_cons_of_mem _ hx)) h
   refine⟨k1.trans g1,fun a ha=>?_,by rw [k3,g3,calcs_round],fun a ha=>g4 a (k4 a ha)⟩
   rw [k2 a fun x hx=>ha x (List.mem_cons_of_mem _ hx),g2 a (ha l (List.mem_cons_self ..))]
theorem recP_none {S:List Fct}:∀ {body:List Ltl} {e:RE},(∀ l∈body,okL S e.length l)→recP body e=none→∀ a,extE e a→¬ ∀ l∈body,holdE S l a=true
 | [],e,_,h,_,_,_=>by simp [recP] at h
 | l::body,e,hok,h,a,ha,hall=>by
  simp only [recP,List.foldlM_cons] at h
  cases h1:recL e l with
  | none =>
   have:=recL_none (hok l (List.mem_cons_self ..)) h1 a ha
   rw [hall l (List.mem_cons_self ..)] at this;cases this
  | some e1 =>
   rw [h1] at h
   obtain⟨g1,g2,_,_⟩:=recL_some (hok l (List.mem_cons_self ..)) h1
   exact recP_none (body:=body) (e:=e1) (fun x hx=>by rw [g1];exact hok x (List.mem_cons_of_mem _ hx)) h a ((g2 a (hall l (List.mem_cons_self ..))).2 ha) fun x hx=>hall x (List.mem_cons_of_mem _ hx)
theorem recN_some {S:List Fct} {body:List Ltl}:∀ {n:Nat} {e e':RE},(∀ l∈body,okL S e.length l)→recN body n e=some e' →
  e'.length=e.length∧(∀ a,(∀ l∈body,holdE S l a=true)→(extE e' a↔extE e a))∧hasE e' = bIter (calcs body) n (hasE e)∧∀ a,extE e' a→extE e a
 | 0,e,e',_,h=>by
  simp only [recN,Option.some.injEq] at h
  subst h
  exact⟨rfl,fun a _=>Iff.rfl,rfl,fun a ha=>ha⟩
 | n + 1,e,e',hok,h=>by
  rw [recN,Option.bind_eq_some_iff] at h
  obtain⟨e1,h1,h2⟩:=h
  obtain⟨g1,g2,g3,g4⟩:=recP_some hok h1
  obtain⟨k1,k2,k3,k4⟩:=recN_some (fun x hx=>by rw [g1];exact hok x hx) h2
  refine⟨k1.trans g1,fun a ha=>by rw [k2 a ha,g2 a ha],by rw [k3,g3];rfl,fun a ha=>g4 a (k4 a ha)⟩
theorem recN_none {S:List Fct} {body:List Ltl}:∀ {n:Nat} {e:RE},(∀ l∈body,okL S e.length l)→recN body n e=none→∀ a,extE e a→¬ ∀ l∈body,holdE S l a=true
 | 0,e,_,h,_,_,_=>by simp [recN] at h
 | n + 1,e,hok,h,a,ha,hall=>by
  rw [recN] at h
  cases h1:recP body e with
  | none=>exact recP_none hok h1 a ha hall
  | some e1 =>
   rw [h1] at h
   obtain⟨g1,g2,_,_⟩:=recP_some hok h1
   exact recN_none (fun x hx=>by rw [g1];exact hok x hx) h a ((g2 a hall).2 ha) hall
theorem recN_closed {S:List Fct} {body:List Ltl} {e e':RE} (hok:∀ l∈body,okL S e.length l) (h:recN body (body.length + 1) e=some e'):closedB (calcs body) (hasE e'):=by
 obtain⟨_,_,h3,_⟩:=recN_some hok h
 have hsub:∀ l∈calcs body,l∈body:=fun l hl=>(List.mem_filter.1 hl).1
 have hokT:∀ l∈calcs body,∀ t∈litTs l,okT (hasE e).length t:=by
  intro l hl t ht
  rw [hasE_len]
  refine (hok l (hsub l hl)).terms t ?_
  unfold litTs at ht
  split at ht
  ·exact ht
  ·exact List.mem_of_mem_drop ht
 have hle:(calcs body).length≤body.length:=List.length_filter_le _ _
 have hr:=bRound_rest hokT
 have hfix:bRound (calcs body) (hasE e')=hasE e':=by
  obtain⟨d,hd⟩:=Nat.exists_eq_add_of_le (show (calcs body).length≤body.length + 1 by omega)
  rw [h3,hd,bIter_add,bIter_fix hr,hr]
 intro l hl hf t ht
 rw [← hfix]
 exact bRound_done (fun l hl t ht=>by
  have:=hokT l hl t ht
  rw [hasE_len] at this ⊢
  rw [(recN_some hok h).1];exact this) l hl hf t ht
theorem wrong_false {S:List Fct} {body:List Ltl} {e:RE} {a:List Int} (ha:extE e a) (hall:∀ l∈body,holdE S l a=true):wrongE S body e=false:=by
 unfold wrongE
 rw [List.any_eq_false]
 intro l hl hc
 rw [Bool.and_eq_true,List.all_eq_true] at hc
 have:=holdE_same (S:=S) ha hc.1
 rw [hall l hl] at this
 rw [← this] at hc
 exact absurd hc.2 (by simp)
theorem fromE_spec (S:List Fct) (hS:S.Nodup) (body:List Ltl):∀ (ys:List Ltl) (e:RE),(∀ l∈ys,l∈body∧l.kind=1)→(∀ l∈body,okL S e.length l)→Bd body (hasE e)→(∀ l∈body,l.kind=1→l∈ys∨∀ t∈l.terms,isT (hasE e) t=true) →
  (∀ a,a∈fromE S body ys e↔extE e a∧∀ l∈body,holdE S l a=true)∧(fromE S body ys e).Nodup
 | [],e,_,hok,hB,hy=>by
  rw [fromE]
  cases hr:recN body (body.length + 1) e with
  | none=>exact⟨fun a=>⟨fun h=>by simp at h,fun⟨h1,h2⟩=>absurd h2 (recN_none hok hr a h1)⟩,.nil⟩
  | some e' =>
   simp only
   obtain⟨g1,g2,g3,g4⟩:=recN_some hok hr
   have hcl:=recN_closed hok hr
   have hle:leB (hasE e) (hasE e'):=by
    rw [g3]
    have:∀ n bs,leB bs (bIter (calcs body) n bs):=by
     intro n
     induction n with
     | zero=>intro bs;exact leB.refl _
     | succ n ih=>intro bs;exact (bRound_le _ _).trans (ih _)
    exact this _ _
   have hfull:∀ v,v < (hasE e').length→(hasE e').getD v false=true:=by
    refine hB _ hle fun l hl hf t ht=>?_
    by_cases h1:l.kind=1
    ·have hl1:litTs l=l.terms:=by unfold litTs;rw [if_pos h1]
     rw [hl1] at ht
     rcases hy l hl h1 with h|h
     ·simp at h
     ·exact isT_mono hle (h t ht)
    ·have h4:l.kind=4:=by
      unfold firesB at hf
      rw [decide_eq_false h1,Bool.false_or,Bool.and_eq_true] at hf
      exact of_decide_eq_true hf.1
     exact hcl l (List.mem_filter.2 ⟨hl,decide_eq_true h4⟩) hf t ht
   have hsome:∀ l∈body,∀ t∈l.terms,(vOf e' t).isSome=true:=fun l hl t ht=>full_some hfull (by rw [g1];exact (hok l hl).terms t ht)
   split
   ·rename_i hw
    refine⟨fun a=>⟨fun h=>by simp at h,fun⟨h1,h2⟩=>?_⟩,.nil⟩
    rw [wrong_false ((g2 a h2).2 h1) h2] at hw;cases hw
   ·rename_i hw
    refine⟨fun a=>?_,List.nodup_cons.2 ⟨by simp,.nil⟩⟩
    rw [List.mem_singleton]
    constructor
    ·rintro rfl
     have hx:=(full_out hfull (outE e')).2 rfl
     refine⟨g4 _ hx,fun l hl=>?_⟩
     cases hh:holdE S l (outE e') with
     | true=>rfl
     | false =>
      exfalso;apply hw
      unfold wrongE
      rw [List.any_eq_true]
      exact⟨l,hl,by rw [hh,Bool.and_eq_true,List.all_eq_true];exact⟨fun t ht=>hsome l hl t ht,rfl⟩⟩
    ·rintro⟨h1,h2⟩
     exact (full_out hfull a).1 ((g2 a h2).2 h1)
 | l::ys,e,hys,hok,hB,hy=>by
  rw [fromE]
  cases hr:recN body (body.length + 1) e with
  | none=>exact⟨fun a=>⟨fun h=>by simp at h,fun⟨h1,h2⟩=>absurd h2 (recN_none hok hr a h1)⟩,.nil⟩
  | some e' =>
   simp only
   obtain⟨g1,g2,g3,g4⟩:=recN_some hok hr
   have hle:leB (hasE e) (hasE e'):=by
    rw [g3]
    have:∀ n bs,leB bs (bIter (calcs body) n bs):=by
     intro n
     induction n with
     | zero=>intro bs;exact leB.refl _
     | succ n ih=>intro bs;exact (bRound_le _ _).trans (ih _)
    exact this _ _
   obtain⟨hl,hl1⟩:=hys l (List.mem_cons_self ..)
   have hlit:litTs l=l.terms:=by unfold litTs;rw [if_pos hl1]
   split
   ·rename_i hw
    refine⟨fun a=>⟨fun h=>by simp at h,fun⟨h1,h2⟩=>?_⟩,.nil⟩
    rw [wrong_false ((g2 a h2).2 h1) h2] at hw;cases hw
   ·have ih:∀ e'',e''.length=e'.length→leB (hasE e') (hasE e'')→((∀ t∈litTs l,isT (hasE e'') t=true)∨∀ ds,firesB ds l=false)→(∀ a,a∈fromE S body ys e''↔extE e'' a∧∀ l∈body,holdE S l a=true)∧(fromE S body ys e'').Nodup:=by
     intro e'' k1 k2 k3
     refine fromE_spec S hS body ys e'' (fun x hx=>hys x (List.mem_cons_of_mem _ hx)) (fun x hx=>by rw [k1,g1];exact hok x hx) (fun cs c1 c2=>hB cs ((hle.trans k2).trans c1) c2) fun x hx hx1=>?_
     rcases hy x hx hx1 with h|h
     ·rcases List.mem_cons.1 h with rfl|h
      ·right
       rcases k3 with k3|k3
       ·rw [hlit] at k3;exact k3
       ·have:=k3 []
        unfold firesB at this
        rw [decide_eq_true hl1] at this
        simp at this
      ·exact .inl h
     ·exact .inr fun t ht=>isT_mono (hle.trans k2) (h t ht)
    have hok':okL S e'.length l:=by rw [g1];exact hok l hl
    refine⟨fun a=>?_,litW_nodup hS hok' fun e'' k1 k2 k3=>⟨(ih e'' k1 k2 k3).2,fun a ha=>(((ih e'' k1 k2 k3).1 a).1 ha).1⟩⟩
    rw [litW_mem (P:=fun a=>∀ l∈body,holdE S l a=true) hok' (.inr hl1) a fun e'' k1 k2 k3=>(ih e'' k1 k2 k3).1 a]
    constructor
    ·rintro⟨⟨h1,_⟩,h2⟩;exact⟨(g2 a h2).1 h1,h2⟩
    ·rintro⟨h1,h2⟩;exact⟨⟨(g2 a h2).2 h1,h2 l hl⟩,h2⟩
end Go.Proofs.YtapciiffpnociacGreat

/- The document's Finder.Wrong. Condition: none. -/
namespace Go.Proofs.YtapciiffpnociacGreat
open Go Go.RowKit
def encW (a:List Int):List D:=[.slice 1 (a.map encI)]
structure okB (S:List Fct) (v:Nat) (body:List Ltl):Prop where
 lit:∀ l∈body,okL S v l
 op:∀ l∈body,l.kind=3→1≤l.op∧l.op≤4
 nums:∀ l∈body,∀ t∈l.terms,-1000000≤t.n∧t.n≤1000000
 facts:∀ x∈S,∀ y∈x.args,-1000000≤y∧y≤1000000
 len:body.length≤4
 vle:v≤8
 tlen:∀ l∈body,l.terms.length≤3
def numE (e:RE):Prop:=∀ (v:Nat) (x:Int),e[v]? = some (some x)→-1000000≤x∧x≤1000000
theorem vA_num {e:RE} (h:numE e) {t:Trm} (ht:-1000000≤t.n∧t.n≤1000000):-1000000≤vA (outE e) t∧vA (outE e) t≤1000000:=by
 unfold vA outE
 split
 ·exact ht
 ·rw [List.getD,List.getElem?_map]
  cases hx:e[t.var.toNat]? with
  | none=>simp
  | some y =>
   cases y with
   | none=>simp
   | some z=>simpa using h _ _ hx
attribute [local irreducible] DW DS DL DQ Ev FnOk FnP thenD inBlockD DT
end Go.Proofs.YtapciiffpnociacGreat

/- The document's Finder.Reckon. Condition: none. -/
namespace Go.Proofs.YtapciiffpnociacGreat
open Go Go.RowKit
theorem numE_set {e:RE} (h:numE e) {v:Nat} {n:Int} (hn:numB n=true):numE (e.set v (some n)):=by
 intro u x hx
 by_cases hq:v=u
 ·subst hq
  by_cases hl:v < e.length
  ·rw [List.getElem?_set_self hl] at hx
   simp at hx;subst hx
   exact numB_iff.1 hn
  ·rw [List.getElem?_eq_none (by rw [List.length_set];omega)] at hx;cases hx
 ·rw [List.getElem?_set_ne hq] at hx
  exact h u x hx
theorem recL_num {S:List Fct} {e e':RE} {l:Ltl} (hok:okL S e.length l) (hn:numE e) (h:recL e l=some e'):numE e':=by
 unfold recL at h
 split at h
 ·rename_i hc
  split at h
  ·rename_i hb
   obtain⟨t1,t2,t3,hT⟩:=drop2 (hok.calc3 hc.1)
   rw [hT] at h
   simp only [List.drop_succ_cons,List.drop_zero,List.foldl_cons,List.foldl_nil,Option.some.injEq] at h
   subst h
   exact numE_set hn hb
  ·cases h
 ·simp only [Option.some.injEq] at h;subst h;exact hn
attribute [local irreducible] DW DS DL DQ Ev FnOk FnP thenD inBlockD DT
end Go.Proofs.YtapciiffpnociacGreat

/- The document's Finder.From. Condition: none. -/
namespace Go.Proofs.YtapciiffpnociacGreat
open Go Go.RowKit
theorem recP_num {S:List Fct}:∀ {body:List Ltl} {e e':RE},(∀ l∈body,okL S e.length l)→numE e→recP body e=some e'→numE e'
 | [],e,e',_,hn,h=>by simp only [recP,List.foldlM_nil] at h;cases h;exact hn
 | l::body,e,e',hok,hn,h=>by
  simp only [recP,List.foldlM_cons] at h
  cases h1:recL e l with
  | none=>rw [h1] at h;cases h
  | some e1 =>
   rw [h1] at h
   have g1:=(recL_some (hok l (List.mem_cons_self ..)) h1).1
   exact recP_num (body:=body) (e:=e1) (fun x hx=>by rw [g1];exact hok x (List.mem_cons_of_mem _ hx)) (recL_num (hok l (List.mem_cons_self ..)) hn h1) h
theorem recN_num' {S:List Fct} {body:List Ltl}:∀ {n:Nat} {e e':RE},(∀ l∈body,okL S e.length l)→numE e→recN body n e=some e'→numE e'
 | 0,e,e',_,hn,h=>by simp only [recN,Option.some.injEq] at h;subst h;exact hn
 | n + 1,e,e',hok,hn,h=>by
  rw [recN,Option.bind_eq_some_iff] at h
  obtain⟨e1,h1,h2⟩:=h
  have g1:=(recP_some hok h1).1
  exact recN_num' (fun x hx=>by rw [g1];exact hok x hx) (recP_num hok hn h1) h2
theorem recN_num {S:List Fct} {body:List Ltl} {n:Nat} {e e':RE} (hok:okB S e.length body) (hn:numE e) (h:recN body n e=some e'):numE e':=recN_num' hok.lit hn h
attribute [local irreducible] DW DS DL DQ Ev FnOk FnP thenD inBlockD DT
end Go.Proofs.YtapciiffpnociacGreat

/- Plain words: ways in order are one list. Condition: none. -/
namespace Go.Proofs.YtapciiffpnociacGreat
def SortW (l:List (List Int)):Prop:=l.Pairwise fun a b=>ordL a b≤0
theorem ordL_le_trans {a b c:List Int} (h:ordL a b≤0) (g:ordL b c≤0):ordL a c≤0:=by
 by_cases h1:ordL a b=0
 ·rw [ordL_eq0 h1];exact g
 ·by_cases g1:ordL b c=0
  ·rw [← ordL_eq0 g1];exact h
  ·have:=ordL_trans (l:=a) (m:=b) (n:=c) (by omega) (by omega)
   omega
theorem ordL_antisymm {a b:List Int} (h:ordL a b≤0) (g:ordL b a≤0):a=b:=by
 rw [ordL_anti] at g
 exact ordL_eq0 (by omega)
theorem sortW_unique:∀ {a b:List (List Int)},SortW a→SortW b→a.Perm b→a=b
 | [],b,_,_,h=>by rw [List.nil_perm.1 h]
 | x::a,b,ha,hb,h=>by
  match b,h,hb with
  | [],h,_=>simp at h
  | y::b,h,hb =>
   obtain⟨a1,a2⟩:=List.pairwise_cons.1 ha
   obtain⟨b1,b2⟩:=List.pairwise_cons.1 hb
   have hxy:x=y:=by
    rcases List.mem_cons.1 (h.mem_iff.1 List.mem_cons_self) with h1|h1
    ·exact h1
    ·rcases List.mem_cons.1 (h.mem_iff.2 (List.mem_cons_self (a:=y) (l:=b))) with h2|h2
     ·exact h2.symm
     ·exact ordL_antisymm (a1 y h2) (b1 x h1)
   subst hxy
   rw [sortW_unique a2 b2 (List.perm_cons x |>.1 h)]
theorem same_members {a b:List (List Int)} (ha:a.Nodup) (hb:b.Nodup) (h:∀ x,x∈a↔x∈b):a.Perm b:=(List.perm_ext_iff_of_nodup ha hb).2 h
end Go.Proofs.YtapciiffpnociacGreat

/- Plain words: what a right program's rules are like, and that both find the same ways. Condition: none. -/
namespace Go.Proofs.YtapciiffpnociacGreat
def factE (arity:List Int) (x:Fct):Int :=
 if inR x.pred 0 ((arity.length:Int) - 1)=false then 5
 else if (x.args.length:Int)≠arity.getD x.pred.toNat 0 then 1
 else if x.args.any (fun n=>!numB n) then 3
 else 0
structure FctOk (arity:List Int) (x:Fct):Prop where
 pred:0≤x.pred∧x.pred < arity.length
 len:(x.args.length:Int)=arity.getD x.pred.toNat 0
 nums:∀ n∈x.args,-1000000≤n∧n≤1000000
theorem numB_in {n:Int} (h:numB n=true):-1000000≤n∧n≤1000000:=by unfold numB inR at h;simpa using h
theorem factE_ok {arity:List Int} {x:Fct} (h:factE arity x=0):FctOk arity x:=by
 unfold factE at h
 split at h;· cases h
 rename_i h1
 split at h;· cases h
 rename_i h2
 split at h;· cases h
 rename_i h3
 refine⟨by unfold inR at h1;simp at h1;omega,by simpa using h2,fun n hn=>?_⟩
 have h3':x.args.any (fun n=>!numB n)=false:=by simpa using h3
 rw [List.any_eq_false] at h3'
 have:=h3' n hn
 exact numB_in (by simpa using this)
theorem firstL_all0 {α:Type} {f:α→Int}:∀ {l:List α},firstL f l=0→∀ x∈l,f x=0
 | [],_,_,h=>by simp at h
 | y::l,h,x,hx=>by
  unfold firstL at h
  split at h
  ·rename_i h1;exact absurd h h1
  ·rename_i h1
   rcases List.mem_cons.1 hx with rfl|hx
   ·exact Classical.byContradiction h1
   ·exact firstL_all0 h x hx
theorem firstI_all0 {f:Nat→Int}:∀ {k i:Nat},firstI f i k=0→∀ j,i≤j→j < i + k→f j=0
 | 0,_,_,j,h1,h2=>by omega
 | k + 1,i,h,j,h1,h2=>by
  unfold firstI at h
  split at h
  ·rename_i h3;exact absurd h h3
  ·rename_i h3
   by_cases hj:j=i
   ·subst hj;exact Classical.byContradiction h3
   ·exact firstI_all0 h j (by omega) (by omega)
theorem termE_zero {vars:Int} {t:Trm} (h:termE vars t=0):t.var < vars∧-1≤t.var∧(-1000000≤t.n∧t.n≤1000000):=by
 unfold termE at h
 split at h;· cases h
 rename_i h1
 split at h;· cases h
 rename_i h2
 have h1':inR t.var (-1) (vars - 1)=true:=by simpa using h1
 have h3:numB t.n=true:=by
  cases hn:numB t.n with
  | true=>rfl
  | false=>exact absurd (.inl hn) h2
 unfold inR at h1'
 simp at h1'
 exact⟨by omega,by omega,numB_in h3⟩
structure RulR (arity:List Int) (r:Rul):Prop where
 pred:0≤r.pred∧r.pred < arity.length
 tlen:(r.terms.length:Int)=arity.getD r.pred.toNat 0
 vars:0≤r.vars∧r.vars≤8
 terms:∀ t∈r.terms,t.var < r.vars∧-1≤t.var∧(-1000000≤t.n∧t.n≤1000000)
 fold:0≤r.fold∧r.fold≤4
 folded:r.fold≠0→0 < r.terms.length∧0 < r.body.length
 body:r.body.length≤4
 lits:∀ l∈r.body,litE arity r.vars l=0
 safe:safeB r=true
theorem ruleE_right {arity:List Int} {r:Rul} (h:ruleE arity r=0):RulR arity r:=by
 unfold ruleE at h
 split at h;· cases h
 rename_i h1
 split at h;· cases h
 rename_i h2
 split at h;· cases h
 rename_i h3
 split at h
 ·rename_i h4;exact absurd h h4
 rename_i h4
 split at h;· cases h
 rename_i h5
 split at h;· cases h
 rename_i h6
 split at h;· cases h
 rename_i h7
 split at h
 ·rename_i h8;exact absurd h h8
 rename_i h8
 split at h;· cases h
 rename_i h9
 have h1':inR r.pred 0 ((arity.length:Int) - 1)=true:=by simpa using h1
 have h3':inR r.vars 0 8=true:=by simpa using h3
 have h5':inR r.fold 0 4=true:=by simpa using h5
 unfold inR at h1' h3' h5'
 simp at h1' h3' h5'
 refine⟨by omega,by simpa using h2,by omega,fun t ht=>?_,by omega,fun hf=>?_,by omega,fun l hl=>?_,by simpa using h9⟩
 ·have:firstL (termE r.vars) r.terms=0:=by unfold termsE at h4;simpa using h4
  exact termE_zero (firstL_all0 this t ht)
 ·have:¬ (r.terms.length=0∨r.body.length=0):=fun hc=>h6 ⟨hf,hc⟩
  omega
 ·have:firstL (litE arity r.vars) r.body=0:=by simpa using h8
  exact firstL_all0 this l hl
theorem progE_rule {nameB:ByteArray→Bool} {p:Prg} (h:progE nameB p=0):(∀ r∈p.rules,RulR p.arity r)∧(∀ i,0≤p.arity.getD i 0∧p.arity.getD i 0≤3)∧p.arity.length≤10∧p.rules.length≤12:=by
 unfold progE at h
 split at h;· cases h
 rename_i h1
 split at h;· cases h
 rename_i h2
 split at h
 ·rename_i h3;exact absurd h h3
 rename_i h3
 refine⟨fun r hr=>ruleE_right (firstL_all0 h r hr),fun i=>?_,by omega,by omega⟩
 by_cases hi:i < p.names.length
 ·have h3':firstI (nameE nameB p) 0 p.names.length=0:=by simpa using h3
  have:=firstI_all0 h3' i (Nat.zero_le _) (by omega)
  unfold nameE at this
  split at this;· cases this
  rename_i h4
  have h4':inR (p.arity.getD i 0) 0 3=true:=by simpa using h4
  unfold inR at h4'
  simp only [Bool.and_eq_true,decide_eq_true_eq] at h4'
  exact h4'
 ·rw [List.getD,List.getElem?_eq_none (by omega)]
  exact⟨by simp,by simp⟩
theorem litE_right {arity:List Int} {vars:Int} {l:Ltl} (h:litE arity vars l=0):(1≤l.kind∧l.kind≤4)∧opB l.kind l.op=true∧((l.kind=1∨l.kind=2)→(0≤l.pred∧l.pred < arity.length)∧(l.terms.length:Int)=arity.getD l.pred.toNat 0)∧(¬ (l.kind=1∨l.kind=2)→l.pred=0∧(l.terms.length:Int)=l.kind - 1)∧∀ t∈l.terms,t.var < vars∧-1≤t.var∧(-1000000≤t.n∧t.n≤1000000):=by
 unfold litE at h
 split at h;· cases h
 rename_i h1
 split at h;· cases h
 rename_i h2
 have h1':inR l.kind 1 4=true:=by simpa using h1
 unfold inR at h1'
 simp at h1'
 have h2':opB l.kind l.op=true:=by simpa using h2
 split at h
 ·rename_i hk
  split at h;· cases h
  rename_i h3
  split at h;· cases h
  rename_i h4
  have h3':inR l.pred 0 ((arity.length:Int) - 1)=true:=by simpa using h3
  unfold inR at h3'
  simp at h3'
  exact⟨by omega,h2',fun _=>⟨by omega,by simpa using h4⟩,fun hn=>absurd hk hn,fun t ht=>termE_zero (firstL_all0 h t ht)⟩
 ·rename_i hk
  split at h;· cases h
  rename_i h3
  refine⟨by omega,h2',fun hc=>absurd hc hk,fun _=>?_,fun t ht=>termE_zero (firstL_all0 h t ht)⟩
  exact⟨Classical.byContradiction fun hc=>h3 (.inl hc),Classical.byContradiction fun hc=>h3 (.inr hc)⟩
theorem lit_okL {arity:List Int} {vars:Int} {l:Ltl} {S:List Fct} (h:litE arity vars l=0) (hv:0≤vars) (hS:∀ x∈S,FctOk arity x):okL S vars.toNat l:=by
 obtain⟨h1,h2,h3,h4,h5⟩:=litE_right h
 refine⟨h1,fun t ht=>?_,fun hk=>?_,fun hk=>?_,fun hk x hx hp=>?_⟩
 ·have:=h5 t ht;unfold okT;omega
 ·have:=h4 (by omega);omega
 ·have:=h4 (by omega);omega
 ·have g1:=(h3 (.inl hk)).2
  have g2:=(hS x hx).len
  rw [hp] at g2;omega
theorem setT_into {bs cs:List Bool} {t:Trm} (h:leB bs cs) (ht:isT cs t=true):leB (setT bs t) cs:=by
 refine⟨(setT_len bs t).trans h.1,fun i hi=>?_⟩
 unfold setT at hi
 split at hi
 ·exact h.2 i hi
 ·rename_i hv
  by_cases hq:t.var.toNat=i
  ·subst hq
   unfold isT at ht
   rw [decide_eq_false hv,Bool.false_or] at ht
   exact ht
  ·rw [List.getD,List.getElem?_set_ne hq,← List.getD] at hi
   exact h.2 i hi
theorem setTs_into {cs:List Bool}:∀ {l:List Trm} {bs:List Bool},leB bs cs→(∀ t∈l,isT cs t=true)→leB (l.foldl setT bs) cs
 | [],_,h,_=>h
 | t::l,_,h,ht=>setTs_into (l:=l) (setT_into h (ht t (List.mem_cons_self ..))) fun x hx=>ht x (List.mem_cons_of_mem _ hx)
theorem bLit_into {body:List Ltl} {bs cs:List Bool} {l:Ltl} (hl:l∈body) (h:leB bs cs) (hc:closedB body cs):leB (bLit bs l) cs:=by
 unfold bLit
 split
 ·rename_i hf;exact setTs_into h (hc l hl (fires_mono h hf))
 ·exact h
theorem bRound_into {body:List Ltl} {cs:List Bool} (hc:closedB body cs):∀ (ls:List Ltl) {bs:List Bool},(∀ l∈ls,l∈body)→leB bs cs→leB (bRound ls bs) cs
 | [],_,_,h=>h
 | l::ls,_,hs,h=>bRound_into hc ls (fun x hx=>hs x (List.mem_cons_of_mem _ hx)) (bLit_into (hs l (List.mem_cons_self ..)) h hc)
theorem bIter_into {body:List Ltl} {cs:List Bool} (hc:closedB body cs):∀ (n:Nat) {bs:List Bool},leB bs cs→leB (bIter body n bs) cs
 | 0,_,h=>h
 | n + 1,_,h=>bIter_into hc n (bRound_into hc body (fun _ hl=>hl) h)
theorem safe_Bd {r:Rul} (h:safeB r=true):Bd r.body (List.replicate r.vars.toNat false):=by
 intro cs h1 h2 v hv
 refine (bIter_into h2 (r.body.length + 1) h1).2 v ?_
 unfold safeB boundL at h
 rw [List.all_eq_true] at h
 have hl:v < (bIter r.body (r.body.length + 1) (List.replicate r.vars.toNat false)).length:=by rw [bIter_len,h1.1];exact hv
 rw [List.getD,List.getElem?_eq_getElem hl]
 exact h _ (List.getElem_mem hl)
abbrev e0 (v:Nat):RE:=List.replicate v none
theorem hasE_e0 (v:Nat):hasE (e0 v)=List.replicate v false:=by unfold hasE e0;rw [List.map_replicate];rfl
theorem outE_e0 (v:Nat):outE (e0 v)=List.replicate v 0:=by unfold outE e0;rw [List.map_replicate];rfl
def yesOf (body:List Ltl):List Ltl:=body.filter fun l=>decide (l.kind=1)
theorem ways_perm {S:List Fct} {v:Nat} {body:List Ltl} (hS:S.Nodup) (hok:∀ l∈body,okL S v l) (hB:Bd body (List.replicate v false)) :
  (findE S body.length body (e0 v)).Perm (fromE S body (yesOf body) (e0 v))∧(fromE S body (yesOf body) (e0 v)).Nodup∧(∀ a,a∈fromE S body (yesOf body) (e0 v)↔a.length=v∧∀ l∈body,holdE S l a=true):=by
 have hl:(e0 v).length=v:=List.length_replicate
 have hok':∀ l∈body,okL S (e0 v).length l:=fun l h=>by rw [hl];exact hok l h
 have hB':Bd body (hasE (e0 v)):=by rw [hasE_e0];exact hB
 obtain⟨g1,g2⟩:=fromE_spec S hS body (yesOf body) (e0 v) (fun l h=>⟨(List.mem_filter.1 h).1,of_decide_eq_true (List.mem_filter.1 h).2⟩) hok' hB' (fun l h h1=>.inl (List.mem_filter.2 ⟨h,decide_eq_true h1⟩))
 have g3:=findE_mem S body.length body (e0 v) (Nat.le_refl _) hok' hB'
 have g4:=findE_nodup S hS body.length body (e0 v) (Nat.le_refl _) hok' hB'
 refine⟨same_members g4 g2 fun a=>(g3 a).trans (g1 a).symm,g2,fun a=>(g1 a).trans (and_congr_left fun _=>?_)⟩
 unfold extE
 rw [hl]
 refine⟨fun h=>h.1,fun h=>⟨h,fun u x hx=>?_⟩⟩
 unfold e0 at hx
 rw [List.getElem?_replicate] at hx
 split at hx <;> simp at hx
def waysL (S:List Fct) (v:Nat) (body:List Ltl):List (List Int):=(fromE S body (yesOf body) (e0 v)).mergeSort fun a b=>decide (ordL a b≤0)
theorem waysL_perm (S:List Fct) (v:Nat) (body:List Ltl):(waysL S v body).Perm (fromE S body (yesOf body) (e0 v)):=List.mergeSort_perm _ _
theorem waysL_sort (S:List Fct) (v:Nat) (body:List Ltl):SortW (waysL S v body):=by
 have:=List.pairwise_mergeSort (le:=fun a b=>decide (ordL a b≤0)) (fun a b c h g=>decide_eq_true (ordL_le_trans (of_decide_eq_true h) (of_decide_eq_true g))) (fun a b=>by
  rw [Bool.or_eq_true,decide_eq_true_eq,decide_eq_true_eq,ordL_anti b a];omega) (fromE S body (yesOf body) (e0 v))
 exact this.imp fun h=>of_decide_eq_true h
theorem waysL_eq {S:List Fct} {v:Nat} {body:List Ltl} {o:List (List Int)} (h:SortW o) (hp:o.Perm (fromE S body (yesOf body) (e0 v))):o=waysL S v body :=
 sortW_unique h (waysL_sort S v body) (hp.trans (waysL_perm S v body).symm)
end Go.Proofs.YtapciiffpnociacGreat
