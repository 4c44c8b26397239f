/- Several texts in one: GxTail DagC DagD. Condition: none. -/
import Derived.Test.YtapciiffpnociaaGreatP08
import Derived.Test.YtapciiffpnociaaGreatP12
namespace Go.Proofs.YtapciiffpnociaaGreat
open Go Go.RowKit
section
variable {Γ : Ctx} {l : List Oper} {κ c : Nat}
def tailB (l:List Oper) (c:Nat):Bool:=(d6 0 l).all fun q=>Nat.blt q.1 c || (List.range q.1).all fun i=>reachB l l.length q.1 i
theorem tailB_spec (h:tailB l c=true) {j i:Nat} {o:Oper} (hj:l[j]? = some o) (hc:c≤j) (hi:i < j):reachB l l.length j i=true:=by
 unfold tailB at h
 rw [List.all_eq_true] at h
 have h1:=h (j,o) ((ej l 0 (j,o)).2 ⟨Nat.zero_le _,by simpa using hj⟩)
 rw [Bool.or_eq_true] at h1
 rcases h1 with h1|h1
 ·have:j < c:=Nat.le_of_ble_eq_true h1
  omega
 ·exact List.all_eq_true.1 h1 i (List.mem_range.2 hi)
theorem enumO_app:∀ (a b:List Oper) (n:Nat),d6 n (a++b)=d6 n a++d6 (n + a.length) b
 | [],b,n=>rfl
 | o::a,b,n=>by
  rw [List.cons_append,d6,d6,enumO_app a b (n + 1),List.cons_append,List.length_cons,show n + 1 + a.length=n + (a.length + 1) by omega]
theorem down_spec (hdown:jg l=true):∀ j o,l[j]? = some o→∀ e∈o.after,Region.binds .any e=true→e.on < j:=by
 intro j o hj e he hb
 unfold jg at hdown
 rw [List.all_eq_true] at hdown
 have h1:=hdown (j,o) ((ej l 0 (j,o)).2 ⟨Nat.zero_le _,by simpa using hj⟩)
 rw [List.all_eq_true] at h1
 have h2:=h1 e (by simpa using he)
 simp only [hb,Bool.not_true,Bool.false_or] at h2
 exact Nat.le_of_ble_eq_true h2
theorem first_ready (hdown:jg l=true) {listed:Array Bool} {q:Nat × Oper} {rem':List (Nat × Oper)} (g:Going l listed (q::rem')):q.1∈Region.ready .any l.toArray listed:=by
 obtain⟨h1,h2⟩:=(g.left q).1 (List.mem_cons_self ..)
 refine mem_ready.2 ⟨h2,q.2,by simpa using h1,fun e' he hb=>?_⟩
 have hlt:=down_spec hdown q.1 q.2 h1 e' he hb
 have hln:e'.on < listed.size:=by rw [g.size];have:=cz h1;omega
 cases hx:listed.getD e'.on false with
 | true=>rfl
 | false =>
  exfalso
  have hx':listed.getD e'.on true=false:=(ii hln).trans hx
  have hlen':e'.on < l.length:=by rw [← g.size];exact hln
  have hm:=(g.left (e'.on,l[e'.on])).2 ⟨by simp [hlen'],hx'⟩
  rcases List.mem_cons.1 hm with h|h
  ·have:e'.on=q.1:=by rw [← h]
   omega
  ·have:=(List.pairwise_cons.1 g.sorted).1 _ h
   simp at this
   omega
theorem tail_run (hdown:jg l=true) (hT:tailB l c=true) {Q:Exit→Act→World→Prop}:∀ (m:Nat) (listed:Array Bool) (a:Act) (w:World),Going l listed (d6 (l.length - m) (l.drop (l.length - m)))→m≤l.length - c→wpList Γ.P l.toArray Q (l.drop (l.length - m)) a w→wpAny Γ.P .any l.toArray Q m listed a w
 | 0,listed,a,w,g,_,h=>by
  have hn:l.drop (l.length - 0)=[]:=List.drop_eq_nil_of_le (by omega)
  rw [hn] at g h
  refine⟨?_,h⟩
  apply List.eq_nil_iff_forall_not_mem.2
  intro j hj
  obtain⟨h1,o,ho,_⟩:=mem_ready.1 hj
  have:=(g.left (j,o)).2 ⟨by simpa using ho,h1⟩
  simp [d6] at this
 | m + 1,listed,a,w,g,hm,h=>by
  have hj:l.length - (m + 1) < l.length:=by omega
  have hd:l.drop (l.length - (m + 1))=l[l.length - (m + 1)]::l.drop (l.length - m):=by
   rw [List.drop_eq_getElem_cons hj]
   congr 2
   omega
  have hen:d6 (l.length - (m + 1)) (l.drop (l.length - (m + 1)))=(l.length - (m + 1),l[l.length - (m + 1)])::d6 (l.length - m) (l.drop (l.length - m)):=by
   rw [hd,d6]
   congr 2
   omega
  rw [hen] at g
  rw [hd] at h
  generalize hJ:l.length - (m + 1)=J at *
  have hr:=first_ready hdown g
  refine⟨fun h0=>?_,fun i hi=>?_⟩
  ·rw [h0] at hr;simp at hr
  ·obtain⟨h1,o,ho,hall⟩:=mem_ready.1 hi
   have hio:l[i]? = some o:=by simpa using ho
   have hij:i=J:=by
    have hmem:=(g.left (i,o)).2 ⟨hio,h1⟩
    rcases List.mem_cons.1 hmem with h|h
    ·exact congrArg Prod.fst h
    ·exfalso
     have hlt:J < i:=by simpa using (List.pairwise_cons.1 g.sorted).1 _ h
     have:=reach_done g l.length i o (tailB_spec hT hio (by omega) hlt) hio hall
     have h3:=((g.left (J,l[J])).1 (List.mem_cons_self ..)).2
     have hJs:J < listed.size:=by rw [g.size];exact hj
     rw [ii hJs] at h3
     rw [h3] at this
     cases this
   subst hij
   have g':=Going.rest (pre:=[]) (i:=i) (o:=l[i]) (post:=d6 (l.length - m) (l.drop (l.length - m))) g hi rfl (by rw [List.getElem?_eq_getElem hj])
   unfold wpOp
   have hlk:l.toArray[i]? = some l[i]:=by simp [hj]
   rw [hlk]
   unfold wpList at h
   split at h
   ·rename_i hw
    simp only [hw,if_true]
    exact h.imp (fun h=>Oper.wp_mono (fun a' w' hk=>tail_run hdown hT m _ a' w' g' (by omega) hk) h) id
   ·rename_i hw
    simp only [hw]
    exact tail_run hdown hT m _ _ w g' (by omega) h
theorem tail_sim (hB:regAnyB l=true) (hT:tailB l c=true) (hcl:c≤l.length) {K:FS→Prop} {Q:Exit→Act→World→Prop} (hQ:∀ s e a w,K s→Rep Γ (lo (κ + c)) s e a w→wpList Γ.P l.toArray Q (l.drop c) a w) :
  ∀ (fuel:Nat) (listed:Array Bool) (a:Act) (w:World) (s:FS) (e:Env) (D:Nat→Prop) (rem:List (Nat × Oper)) (lg:Log),Going l listed (rem++d6 c (l.drop c))→(∀ q∈rem,q.1 < c)→rem.length=fuel→Rep Γ D s e a w →
   (∀ x,D x→x < κ + c∧∀ j,x=κ + j→listed.getD j false=true)→DR Γ l κ rem lg K s→wpAny Γ.P .any l.toArray Q (fuel + (l.length - c)) listed a w:=by
 simp only [regAnyB,Bool.and_eq_true] at hB
 obtain⟨hdown,hpair,hcall⟩:=hB
 intro fuel
 induction fuel with
 | zero =>
  intro listed a w s e D rem lg g hrc hlen hr hD hd
  have hrem:rem=[]:=List.eq_nil_of_length_eq_zero hlen
  subst hrem
  rw [Nat.zero_add]
  have hcc:l.length - (l.length - c)=c:=by omega
  refine tail_run hdown hT (l.length - c) listed a w (by rw [hcc];exact g) (Nat.le_refl _) ?_
  rw [hcc]
  cases hd with
  | nil hk =>
   obtain⟨L,H,m,hs⟩:=hr
   obtain⟨e',m'⟩:=m.widenTo (k':=lo (κ + c)) fun x hx=>(hD x hx).1
   exact hQ s e' a w hk ⟨L,H,m',hs⟩
 | succ fuel ih =>
  intro listed a w s e D rem lg g hrc hlen hr hD hd
  rw [show fuel + 1 + (l.length - c)=(fuel + (l.length - c)) + 1 by omega]
  obtain⟨q0,rem0,hq0⟩:∃ q r,rem=q::r:=by
   cases rem with
   | nil=>simp at hlen
   | cons q r=>exact⟨q,r,rfl⟩
  refine⟨fun h0=>?_,fun i hi=>?_⟩
  ·exfalso
   have hg:=g
   rw [hq0,List.cons_append] at hg
   have:=first_ready hdown hg
   rw [h0] at this
   simp at this
  ·obtain⟨h1,o,ho,hall⟩:=mem_ready.1 hi
   have hio:l[i]? = some o:=by simpa using ho
   have hic:i < c:=by
    apply Classical.byContradiction
    intro hn
    have hq0c:q0.1 < c:=hrc q0 (by rw [hq0];exact List.mem_cons_self ..)
    have hrd:=reach_done g l.length i o (tailB_spec hT hio (by omega) (show q0.1 < i by omega)) hio hall
    have h3:=(g.left q0).1 (List.mem_append_left _ (by rw [hq0];exact List.mem_cons_self ..))
    have hs:q0.1 < listed.size:=by rw [g.size];exact cz h3.1
    have h4:=h3.2
    rw [ii hs,hrd] at h4
    cases h4
   have hmem:(i,o)∈rem:=by
    rcases List.mem_append.1 ((g.left (i,o)).2 ⟨hio,h1⟩) with h|h
    ·exact h
    ·exfalso
     have:=((ej _ _ _).1 h).1
     simp only at this
     omega
   obtain⟨pre,post,hre⟩:=List.append_of_mem hmem
   have g0:=g
   rw [hre,List.append_assoc,List.cons_append] at g0
   have g':=g0.rest hi rfl hio
   rw [← List.append_assoc] at g'
   have hpull:DR Γ l κ ((i,o)::(pre++post)) lg K s:=by
    refine DR.pull pre lg s (fun q hq=>?_) (hre▸hd)
    have hqr:q∈rem++d6 c (l.drop c):=List.mem_append_left _ (by rw [hre];exact List.mem_append_left _ hq)
    obtain⟨hq1,hq2⟩:=(g.left q).1 hqr
    have hqi:q.1 < i:=by
     have hs:=g0.sorted
     rw [List.pairwise_append] at hs
     have:=hs.2.2 q hq (i,o) (List.mem_cons_self ..)
     simpa using this
    have hqs:q.1 < listed.size:=by rw [g.size];exact cz hq1
    have hq2':listed.getD q.1 false=false:=(ii hqs).symm.trans hq2
    have e0:path2B l i q.1=false:=path2_false hio hall g.closed hq2'
    have e1:=path2_edge e0
    have e2:edgeB l q.1 i=false:=by
     cases hx:edgeB l q.1 i with
     | false=>rfl
     | true =>
      obtain⟨o',ho',e',he',hb',hon⟩:=edgeB_spec.1 hx
      have:=down_spec hdown q.1 o' ho' e' he' hb'
      omega
    refine⟨e0,e2,?_,fun hcq=>?_⟩
    ·unfold regPairB at hpair
     rw [List.all_eq_true] at hpair
     have p1:=hpair (i,o) ((ej l 0 (i,o)).2 ⟨Nat.zero_le _,by simpa using hio⟩)
     rw [List.all_eq_true] at p1
     have p2:=p1 q ((ej l 0 q).2 ⟨Nat.zero_le _,by simpa using hq1⟩)
     have hnb:Nat.ble i q.1=false:=by
      cases hb:Nat.ble i q.1 with
      | false=>rfl
      | true=>have:=Nat.le_of_ble_eq_true hb;omega
     simp only [hnb,Bool.false_or,e1] at p2
     exact p2
    ·cases hci:isCall o with
     | false=>rfl
     | true =>
      have:=calls_done g hcall hq1 hcq i o hio hci hqi hall
      rw [hq2'] at this
      cases this
   cases hpull with
   | cons cc S rd wr hm hl hne hn hk =>
    have hz:¬ D (κ + i):=by
     intro hx
     have:=(hD _ hx).2 i rfl
     have hin:i < listed.size:=by rw [g.size];exact cz hio
     rw [← ii hin,h1] at this
     cases this
    refine Mv.sound hm hr ⟨κ + c,fun x hx=>(hD x hx).1⟩ hz hio Q _ fun v u a' w' e' hv hr'=>?_
    refine ih (listed.setIfInBounds i true) a' w' _ e' _ (pre++post) _ g' (fun q hq=>hrc q ?_) ?_ hr' (fun x hx=>?_) (hk v u hv)
    ·rw [hre];rcases List.mem_append.1 hq with h|h <;> simp [h]
    ·rw [hre] at hlen
     simp only [List.length_append,List.length_cons] at hlen ⊢
     omega
    ·have hin:i < listed.size:=by rw [g.size];exact cz hio
     rcases hx with hx|hx
     ·refine⟨(hD x hx).1,fun j hj=>?_⟩
      have:=(hD x hx).2 j hj
      by_cases hij:i=j
      ·subst hij;simp [hin]
      ·rw [getD_set_ne false hij];exact this
     ·subst hx
      refine⟨by omega,fun j hj=>?_⟩
      have:i=j:=by omega
      subst this
      simp [hin]
theorem jq {id k m:Nat} {L:Sl} {H:Hp} {Q:f9} (c:Nat) (hm:Γ.P.follows .mixedOrders=true) (hB:regAnyB l=true) (hT:tailB l c=true) (hcl:Nat.ble c l.length=true) (hnd:dt l=true) (hl:lenIs (l.take c) k m)
  (h:DT Γ l k (d6 0 (l.take c)) [] (endK Γ m (fun k' L' H'=>DS false Γ l (l.drop c) (Q .normal) k' L' H')) L H):DW Γ (.region id l.toArray true) Q k L H:=by
 have hcl:=Nat.le_of_ble_eq_true hcl
 have hmc:k + c=m:=by
  have:=lenIs_spec (l.take c) k m hl
  rw [List.length_take] at this
  omega
 subst hmc
 intro e a w mm
 refine wpIn_mono (wpIn_region_any hm (wpAny_in (gr (Γ:=Γ) (K:=Q .normal)) hnd _ _ _ _ ?_)) (lift_mono (fun ex k' L' H' (⟨h1,h2⟩:fg (Q .normal) ex k' L' H')=>h1▸h2))
 have m0:=mm.below (w':={ w with drawn:=w.drawn + 1 }) ((Beld.refl _ _ _).drew)
 have hsp:d6 0 (l.take c)++d6 c (l.drop c)=d6 0 l:=by
  have:=enumO_app (l.take c) (l.drop c) 0
  rw [List.take_append_drop,List.length_take,Nat.zero_add,Nat.min_eq_left hcl] at this
  exact this.symm
 have hg:Going l (Array.replicate l.length false) (d6 0 l):=by
  refine⟨by simp,fun j o hj hl=>?_,fun q=>?_,enumO_sorted l 0⟩
  ·have hlt:=cz hj
   simp [hlt] at hl
  ·rw [ej l 0 q]
   simp only [Nat.zero_le,Nat.sub_zero,true_and]
   constructor
   ·intro hq;exact⟨hq,by have:=cz hq;simp [this]⟩
   ·exact fun h=>h.1
 have hlenO:∀ (l:List Oper) b,(d6 b l).length=l.length:=by
  intro l
  induction l with
  | nil=>intro b;rfl
  | cons o l ih=>intro b;simp [d6,ih]
 have hsize:l.toArray.size=c + (l.length - c):=by simp;omega
 rw [hsize]
 refine tail_sim hB hT hcl (K:=endK Γ (k + c) (fun k' L' H'=>DS false Γ l (l.drop c) (Q .normal) k' L' H')) (Q:=lift Γ (fg (Q .normal))) (fun s e a w hk hr=>?_) c _ a _ (ofL L H) e (lo k) (d6 0 (l.take c)) [] (by rw [hsp,← hsize];simpa using hg) (fun q hq=>?_) (by rw [hlenO,List.length_take];omega) ⟨L,H,m0,rfl⟩ (fun x hx=>⟨Nat.lt_of_lt_of_le hx (Nat.le_add_right _ _),fun j hj=>?_⟩) h
 ·obtain⟨k',L',H',e',m',hq⟩:=hk e a w hr
  exact hq e' a w m'
 ·have h2:=((ej _ _ _).1 hq).2
  have:=cz h2
  rw [List.length_take] at this
  omega
 ·have:x < k:=hx
  omega
theorem bz (id:Nat) {k:Nat} {L:Sl} {H:Hp} {ops:Array Oper} {b:Bool} {Q:f9} (h:DW Γ (.region id ops b) Q k L H):DW Γ (.region id ops b) Q k L H:=h
end
theorem laidD:laidOutB Tryz.prog=true:=by kernel_rfl
theorem mapId_t:MapT Tryz.prog 138 false:=mapT_pair laidD (by kernel_rfl)
abbrev wkH (has:List Upd) (m:List (MK × Int)):Hp:=[(0,.blk 168 [.d (.slice 5 (has.map a7)),.mp 1]),(1,.map false m)]
theorem pos_is {l:List Upd} (hs:StrU l) {i:UId} (h:hasU l i=true):∃ hl:posU l i < l.length,(l[posU l i]'hl).id=i:=by
 obtain⟨u,hu,rfl⟩:=hasU_iff.1 h
 obtain⟨p,hp,rfl⟩:=List.mem_iff_getElem.1 hu
 have hpos:posU l l[p].id=p:=by
  refine posU_at (Nat.le_of_lt hp) (fun q hq hlt=>List.pairwise_iff_getElem.1 hs q p hq hp hlt) fun q hq hle=>?_
  by_cases he:p=q
  ·subst he;rw [ordId_self];exact Int.le_refl _
  ·have h1:=List.pairwise_iff_getElem.1 hs p q hp hq (by omega)
   have h2:=ordId_anti l[q].id l[p].id
   omega
 exact⟨by omega,by simp only [hpos]⟩
attribute [local irreducible] DW DS DL DQ Ev FnOk FnP em b9 DT
set_option maxHeartbeats 8000000 in
theorem walk_fn (has:List Upd) (hl:has.length≤1000000) (hs:StrU has) (hk:∀ u∈has,u.parents.length + u.takes.length≤1000000):∀ (n:Nat) (m:List (MK × Int)) (i:UId),leftM has m < n →
  FnOk false Tryz.prog tab cn 121 [.loc 0 0,elId i] 2 2 (wkH has m) (fun k2 r H2=>k2=2∧r = .tup []∧H2=wkH has (ff has n m i))
 | 0,_,_,h=>absurd h (Nat.not_lt_zero _)
 | n + 1,m,i,h=>by
  have ll:(has.map a7).length=has.length:=List.length_map _
  refine co _ Tryz.func121 rfl rfl (by kernel_rfl) ?_
  intro O w0 E0 β0
  have w1:=at_fn has i hl hs
  cases hh:hasU has i with
  | false =>
   rw [hh] at w1
   have hw:ff has (n + 1) m i=m:=by unfold ff;rw [if_pos (.inl hh)]
   rw [hw]
   repeat' (first|apply ag|refine z5 ?_|refine z14 ?_|refine z10 ?_|apply ae|refine z16 ?_|refine z20 ?_|apply aj|refine z18 ?_|apply aa|apply av|refine z22 ?_ (hc:=by apply w1)|refine z1 ?_|fail)
   exact⟨.inl rfl,_,rfl,id,2,_,wkH has m,rfl,⟨rfl,rfl,trivial⟩,rfl,rfl,rfl,rfl,rfl,rfl,rfl,rfl,rfl⟩
  | true =>
   rw [hh] at w1
   obtain⟨hpl,hpi⟩:=pos_is hs hh
   repeat' ((fail_if_success (apply bz 2));(first|apply ag|refine z5 ?_|refine z10 ?_|apply ae|refine z16 ?_|refine z20 ?_|apply aa|refine z22 ?_ (hc:=by apply w1)|refine z1 ?_|fail))
   refine jq 8 (by kernel_rfl) (by kernel_rfl) (by kernel_rfl) rfl rfl rfl ?_
   repeat' (first|refine z5 ?_|refine z10 ?_|fail)
   refine ds_lookup (kd:=false) (kvs:=m) (key:=ka i) mapId_t rfl rfl rfl rfl rfl rfl ?_
   repeat' (first|refine z0 ?_|apply ag|apply aa)
   by_cases hm:(mapGet? m (ka i)).getD 0=1
   ·have hw:ff has (n + 1) m i=m:=by unfold ff;rw [if_pos (.inr (decide_eq_true hm))]
    rw [hw]
    repeat' (first|refine z5 ?_|apply ae|refine z20 ?_|apply ai|apply aj|apply aa|apply av|(refine z23 ?_ ?_ <;> intro hg)|fail)
    all_goals try (exfalso;exact absurd hm (by assumption))
    exact⟨.inl rfl,_,rfl,id,2,_,wkH has m,rfl,⟨rfl,rfl,trivial⟩,rfl,rfl,rfl,rfl,rfl,rfl,rfl,rfl,rfl⟩
   ·have hmf:metB m i=false:=decide_eq_false hm
    have hlt:=leftM_set hh hmf
    obtain⟨us,hus⟩:∃ us,us=underOf has i:=⟨_,rfl⟩
    have hw:ff has (n + 1) m i=us.foldl (ff has n) (bu m (ka i) 1):=by
     unfold ff
     rw [if_neg (fun h=>by rcases h with h|h;(rw [hh] at h;cases h);(rw [hmf] at h;cases h)),hus]
    rw [hw]
    have w2:=under_fn (has[posU has i]'hpl) (hk _ (List.getElem_mem hpl))
    rw [show df (has[posU has i]'hpl)=us by rw [hus,← underOf_eq hs (List.getElem_mem hpl),hpi]] at w2
    repeat' ((fail_if_success (apply bz 3));(first|apply ae|apply ai|apply aj|apply aa|apply av|(refine z23 ?_ ?_ <;> intro hg)|fail))
    all_goals try (exfalso;exact absurd (by assumption) hm)
    refine jq 5 (by kernel_rfl) (by kernel_rfl) (by kernel_rfl) rfl rfl rfl ?_
    repeat' (first|refine z5 ?_|refine z10 ?_|fail)
    refine ds_mapSet 1 (kd:=false) (kvs:=m) (key:=ka i) (n:=1) mapId_t rfl rfl rfl rfl rfl rfl rfl rfl rfl ?_
    have lu:(us.map dj).length=us.length:=List.length_map _
    repeat' (first|refine z0 ?_|apply ag|apply ae|refine z16 ?_|apply ah|apply aa|refine z21 ?_ (hc:=by apply w2)|fail)
    all_goals try (exfalso;omega)
    have hul:us.length≤1000000:=by
     have:=hk _ (List.getElem_mem hpl)
     rw [hus,← hpi,underOf_eq hs (List.getElem_mem hpl)]
     unfold df
     rw [List.length_append]
     exact this
    clear w1 w2 hm hmf hw
    have hM:∀ j,leftM has ((us.take j).foldl (ff has n) (bu m (ka i) 1)) < n:=fun j =>
     Nat.lt_of_le_of_lt (leftM_le (walk_all (walk_done hs n) (us.take j) (bu m (ka i) 1) (by omega)).1.more) (by omega)
    refine bh (ι:=Nat) (fun j=>⟨2,[(0,.loc 0 0),(40,.d (.slice 2 (us.map dj))),(41,.d (.int .i64 us.length)),(42,.d (.int .i64 j))],wkH has ((us.take j).foldl (ff has n) (bu m (ka i) 1))⟩)
     (fun j=>j≤us.length) (fun j=>us.length - j) 0 (Nat.zero_le _) (ap id ⟨rfl,rfl,by rw [← lu];rfl,rfl,trivial⟩ ⟨rfl,rfl,trivial⟩ rfl rfl rfl rfl rfl rfl) ?_
    intro j g1
    dsimp only at g1 ⊢
    by_cases hj:j < us.length
    ·have w3:=walk_fn has hl hs hk n ((us.take j).foldl (ff has n) (bu m (ka i) 1)) us[j] (hM j)
     have hst:ff has n ((us.take j).foldl (ff has n) (bu m (ka i) 1)) us[j]=(us.take (j + 1)).foldl (ff has n) (bu m (ka i) 1):=by rw [List.take_succ_eq_append_getElem hj,List.foldl_append];rfl
     repeat' (first|refine z0 ?_|apply ag|apply ae|refine z16 ?_|apply ah|apply ai|apply au|apply aa|apply aq|refine z17 ?_|refine z1 ?_|refine z3 ?_|(refine z23 ?_ ?_ <;> intro hg)|fail)
     all_goals try (exfalso;omega)
     (refine b8 id (w3) rfl rfl rfl rfl ⟨rfl,rfl,trivial⟩ rfl rfl rfl rfl rfl rfl ?_ ?_)
     ·rintro k2 res H2 ⟨rfl,rfl,rfl⟩;exact⟨rfl,rfl⟩
     rintro k2 res H2 ⟨rfl,rfl,rfl⟩
     change DS _ _ _ _ _ _ _ _
     rw [hst]
     repeat' (first|refine z0 ?_|apply ag|refine z16 ?_|apply aa|apply bg)
     exact⟨j + 1,hj,ap id ⟨rfl,rfl,rfl,rfl,trivial⟩ ⟨rfl,rfl,trivial⟩ rfl rfl rfl rfl rfl rfl,by omega⟩
    ·rw [List.take_of_length_le (by omega)]
     repeat' (first|refine z0 ?_|apply ag|apply ae|refine z16 ?_|apply ah|apply ai|apply au|apply aa|apply aq|refine z17 ?_|refine z1 ?_|refine z3 ?_|(refine z23 ?_ ?_ <;> intro hg)|fail)
     all_goals try (exfalso;omega)
     exact⟨.inr rfl,_,rfl,id,2,_,wkH has (us.foldl (ff has n) (bu m (ka i) 1)),rfl,⟨rfl,rfl,trivial⟩,rfl,rfl,rfl,rfl,rfl,rfl,rfl,rfl,rfl⟩
set_option maxHeartbeats 8000000 in
theorem behind_fn (has:List Upd) (ids:List UId) (hl:has.length≤1000000) (hi:ids.length≤1000000) (hs:StrU has) (hk:∀ u∈has,u.parents.length + u.takes.length≤1000000) :
  Fn 93 [.d (.slice 5 (has.map a7)),.d (.slice 2 (ids.map dj))] (fun r=>r = .md false (behM has ids)):=by
 refine ak _ Tryz.func93 rfl rfl (by kernel_rfl) ?_
 intro O w0 E0 β0
 have li:(ids.map dj).length=ids.length:=List.length_map _
 repeat' (first|refine z0 ?_|apply ag|apply ae|refine z16 ?_|apply aa)
 refine ds_mapNew false rfl rfl ?_
 repeat' (first|refine z0 ?_|apply ag|apply ae|refine z16 ?_|apply ah|apply aa|refine z1 ?_|fail)
 refine bh (ι:=Nat) (fun j=>⟨2,[(5,.loc 0 0),(12,.d (.slice 2 (ids.map dj))),(13,.d (.int .i64 ids.length)),(14,.d (.int .i64 j))],wkH has ((ids.take j).foldl (ff has (has.length + 1)) [])⟩)
  (fun j=>j≤ids.length) (fun j=>ids.length - j) 0 (Nat.zero_le _) (ap (fun j=>match j with|0=>1|1=>0|j=>j) ⟨rfl,rfl,by rw [← li];rfl,rfl,trivial⟩ ⟨rfl,rfl,trivial⟩ rfl rfl rfl rfl rfl rfl) ?_
 intro j g1
 dsimp only at g1 ⊢
 by_cases hj:j < ids.length
 ·have w3:=walk_fn has hl hs hk (has.length + 1) ((ids.take j).foldl (ff has (has.length + 1)) []) ids[j] (leftM_lt _ _)
  have hst:ff has (has.length + 1) ((ids.take j).foldl (ff has (has.length + 1)) []) ids[j]=(ids.take (j + 1)).foldl (ff has (has.length + 1)) []:=by rw [List.take_succ_eq_append_getElem hj,List.foldl_append];rfl
  repeat' (first|refine z0 ?_|apply ag|apply ae|refine z16 ?_|apply ah|apply ai|apply au|apply aj|apply aa|apply aq|refine z17 ?_|refine z1 ?_|refine z3 ?_|(refine z23 ?_ ?_ <;> intro hg)|fail)
  all_goals try (exfalso;omega)
  (refine b8 id (w3) rfl rfl rfl rfl ⟨rfl,rfl,trivial⟩ rfl rfl rfl rfl rfl rfl ?_ ?_)
  ·rintro k2 res H2 ⟨rfl,rfl,rfl⟩;exact⟨rfl,rfl⟩
  rintro k2 res H2 ⟨rfl,rfl,rfl⟩
  change DS _ _ _ _ _ _ _ _
  rw [hst]
  repeat' (first|refine z0 ?_|apply ag|refine z16 ?_|apply aa|apply bg)
  exact⟨j + 1,hj,ap id ⟨rfl,rfl,rfl,rfl,trivial⟩ ⟨rfl,rfl,trivial⟩ rfl rfl rfl rfl rfl rfl,by omega⟩
 ·rw [List.take_of_length_le (by omega)]
  repeat' (first|refine z0 ?_|apply ag|apply ae|refine z16 ?_|apply ah|apply ai|apply au|apply aa|apply aq|refine z17 ?_|refine z1 ?_|refine z3 ?_|(refine z23 ?_ ?_ <;> intro hg)|fail)
  all_goals try (exfalso;omega)
  refine ba (ent_mapd (t:=4) (i:=1) rfl rfl rfl) ?_
  repeat' (apply aj)
  exact⟨.inl rfl,_,rfl,rfl,rfl⟩
set_option maxHeartbeats 8000000 in
theorem round1_fn (has:List Upd) (u:Upd) (hl:has.length≤1000000) (hs:StrU has) (hk:∀ u∈has,u.parents.length + u.takes.length≤1000000) (hu:u.parents.length + u.takes.length≤1000000) :
  Fn 92 ([jc u]++[.pd [.slice 5 (has.map a7)]]) (fun r=>r = .d (.bool (metB (behM has (df u)) u.id))):=by
 refine ak _ Tryz.func92 rfl rfl (by kernel_rfl) ?_
 intro O w0 E0 β0
 have w1:=under_fn u hu
 have w2:=behind_fn has (df u) hl (by unfold df;rw [List.length_append];exact hu) hs hk
 repeat' ((fail_if_success (apply bz 1));(first|refine z0 ?_|apply ag|apply ae|refine z16 ?_|apply aa|refine z1 ?_|fail))
 refine jq 6 (by kernel_rfl) (by kernel_rfl) (by kernel_rfl) rfl rfl rfl ?_
 repeat' (first|refine z5 ?_|refine z10 ?_|refine z22 ?_ (hc:=by apply w1)|refine z22 ?_ (hc:=by apply w2)|fail)
 refine ds_lookup (kd:=false) (kvs:=behM has (df u)) (key:=ka u.id) mapId_t ⟨rfl,rfl⟩ rfl rfl rfl rfl rfl ?_
 repeat' (first|refine z0 ?_|apply ag|apply aj|apply aa)
 exact cm rfl rfl
set_option maxHeartbeats 8000000 in
theorem indexU_fn {f:FuncId} {caps:List SV} (p:Upd→Bool) (l:List (Upd)) (hcap:SV.lowL 0 caps=true) (hp:∀ x∈l,Fn f (jc x::caps) (fun r=>r = .d (.bool (p x)))):Fn 73 [.d (.slice 5 (l.map a7)),.fn f caps] (fun r=>r = .d (.int .i64 (idxF p l))):=by
 refine ak _ Tryz.func73 rfl rfl (by kernel_rfl) ?_
 intro O w0 E0 β0
 refine cp (t:=0) rfl fun hb=>?_
 repeat' (first|refine z0 ?_|apply ag|apply ae|refine z16 ?_|apply ah|apply aa)
 refine bh (ι:=Nat) (fun i=>⟨0,[(0,.d (.slice 5 (l.map a7))),(1,.fn f caps),(7,.d (.int .i64 l.length)),(8,.d (.int .i64 i))],[]⟩)
  (fun i=>i≤l.length∧∀ j (hj:j < l.length),j < i→p l[j]=false) (fun i=>l.length - i) 0 ⟨Nat.zero_le _,fun j _ h=>absurd h (Nat.not_lt_zero j)⟩
  (ap id ⟨rfl,congrArg (SV.fn f) (SV.renL_id caps).symm,by simp;rfl,rfl,trivial⟩ trivial (by simp [Sl.low,SV.low,hcap]) rfl rfl rfl rfl rfl) ?_
 rintro i ⟨h1,h2⟩
 repeat' (first|refine z0 ?_|apply ag|apply ae|refine z16 ?_|apply aa)
 refine cd rfl (fun h=>?_) (fun h=>?_)
 ·have hi:i < l.length:=by omega
  have hpx:=hp l[i] (List.getElem_mem hi)
  repeat' (first|refine z0 ?_|apply ag|apply ae|refine z16 ?_|apply ah|apply ai|apply aa|(apply im;exact rfl;exact rfl;exact rfl;exact rfl;apply hpx;exact rfl;(assumption);exact rfl;rintro _ rfl))
  refine c7 rfl (fun hb=>?_) (fun hb=>?_)
  ·repeat' (first|refine z0 ?_|apply ag|apply ae|refine z16 ?_|apply aj|apply aa|apply av|apply br)
   exact cg rfl (jh h2 hi hb).symm
  ·repeat' (first|refine z0 ?_|apply ag|refine z16 ?_|apply ai|apply aa|apply bg)
   exact⟨i + 1,⟨hi,i5 h2 hi hb⟩,ap id ⟨rfl,congrArg (SV.fn f) (SV.renL_id caps).symm,rfl,rfl,trivial⟩ trivial (by simp [Sl.low,SV.low,hcap]) rfl rfl rfl rfl rfl,by omega⟩
 ·repeat' (first|refine z0 ?_|apply ag|apply ae|refine z16 ?_|apply au|apply aj|apply aa|apply aq|refine z17 ?_|fail)
  exact cg rfl (i6 fun j hj=>h2 j hj (by omega)).symm
set_option maxHeartbeats 8000000 in
theorem containsU_fn {f:FuncId} {caps:List SV} (p:Upd→Bool) (l:List (Upd)) (hcap:SV.lowL 0 caps=true) (hp:∀ x∈l,Fn f (jc x::caps) (fun r=>r = .d (.bool (p x)))):Fn 45 [.d (.slice 5 (l.map a7)),.fn f caps] (fun r=>r = .d (.bool (l.any p))):=by
 refine ak _ Tryz.func45 rfl rfl (by kernel_rfl) ?_
 intro O w0 E0 β0
 have hx:=indexU_fn p l hcap hp
 have hlow:SV.lowL 0 [.d (.slice 5 (l.map a7)),.fn f caps]=true:=by simp [SV.lowL,SV.low,hcap]
 repeat' (first|refine z0 ?_|apply ag|apply ae|refine z16 ?_|apply aj|apply aa|refine z21 ?_ (hc:=by apply hx)|fail)
 exact cm rfl (idxF_any p l)
def roundB (has:List Upd):Bool:=has.any fun u=>metB (behM has (df u)) u.id
set_option maxHeartbeats 8000000 in
theorem round_fn (has:List Upd) (hl:has.length≤1000000) (hs:StrU has) (hk:∀ u∈has,u.parents.length + u.takes.length≤1000000) :
  Fn 49 [.d (.slice 5 (has.map a7))] (fun r=>r = .d (.bool (roundB has))):=by
 refine ak _ Tryz.func49 rfl rfl (by kernel_rfl) ?_
 intro O w0 E0 β0
 have w2:=containsU_fn (caps:=[.pd [.slice 5 (has.map a7)]]) (fun u=>metB (behM has (df u)) u.id) has rfl (fun u hu=>round1_fn has u hl hs hk (hk u hu))
 repeat' ((fail_if_success (apply kb 1));(first|refine z0 ?_|apply ag|apply ae|refine z16 ?_|apply aa|refine z1 ?_|fail))
 refine ba (gw (ds:=[.slice 5 (has.map a7)]) 1 0 rfl rfl) ?_
 repeat' (first|refine z0 ?_|apply ag|apply ae|refine z16 ?_|apply aj|apply aa|refine z21 ?_ (hc:=by apply w2)|fail)
 exact cm rfl rfl
def rplD (r:Rpl):List D:=[.slice 5 (r.has.map a7),.slice 5 (r.waits.map a7)]
abbrev elRpl (r:Rpl):SV:=.agg [.d (.slice 5 (r.has.map a7)),.d (.slice 5 (r.waits.map a7))]
def ez (r:Rpl):Int :=
 if 200 < r.has.length + r.waits.length then 2
 else if cu dy (r.has++r.waits)≠0 then cu dy (r.has++r.waits)
 else if e6 (fun a b:Upd=>cv a.id b.id) r.has=false∨e6 (fun a b:Upd=>cv a.id b.id) r.waits=false∨(r.waits.any fun u=>hasU r.has u.id)=true then 4
 else if (r.has.any fun u=>!readyU r.has u)=true then 5
 else if roundB r.has=true∨(r.waits.any fun u=>readyU r.has u)=true then 4
 else 0
theorem firstL_none {α:Type} {f:α→Int}:∀ {l:List α},cu f l=0→∀ x∈l,f x=0
 | x::l,h,y,hy=>by
  unfold cu at h
  split at h
  ·rename_i hx;exact absurd h hx
  ·rename_i hx
   rcases List.mem_cons.1 hy with rfl|hy
   ·simpa using hx
   ·exact firstL_none h y hy
theorem checkU_small {u:Upd} (h:dy u=0):u.parents.length≤6∧u.says.length≤6∧u.takes.length≤6:=by
 unfold dy at h
 split at h;· cases h
 split at h;· cases h
 rename_i h1
 omega
set_option maxHeartbeats 8000000 in
theorem risesU_fn {f:FuncId} (o:Upd→Upd→Int) (l:List (Upd)) (hp:∀ x y,Fn f [jc x,jc y] (fun r=>r = .d (.int .i64 (o x y)))):Fn 43 [.d (.slice 5 (l.map a7)),.fn f []] (fun r=>r = .d (.bool (e6 o l))):=by
 refine ak _ Tryz.func43 rfl rfl (by kernel_rfl) ?_
 intro O w0 E0 β0
 refine cp (t:=0) rfl fun hb=>?_
 repeat' (first|refine z0 ?_|apply ag|apply ae|refine z16 ?_|apply ah|apply aa)
 refine bh (ι:=Nat) (fun i=>⟨0,[(0,.d (.slice 5 (l.map a7))),(1,.fn f []),(5,.d (.int .i64 ((i:Int) + 1)))],[]⟩)
  (fun i=>i≤l.length∧e6 o l=e6 o (l.drop i)) (fun i=>l.length - i) 0 ⟨Nat.zero_le _,rfl⟩
  (ap id ⟨rfl,rfl,rfl,trivial⟩ trivial rfl rfl rfl rfl rfl rfl) ?_
 rintro i ⟨h1,h2⟩
 repeat' (first|refine z0 ?_|apply ag|apply ae|refine z16 ?_|apply aa)
 refine cd rfl (fun h=>?_) (fun h=>?_)
 ·have hi:i + 1 < l.length:=by have:=h;rw [List.length_map] at this;omega
  have hpx:=hp (l[i]'(by omega)) (l[i + 1]'hi)
  repeat' (first|refine z5 ?_|refine z10 ?_|apply ae|refine z20 ?_|apply ah|apply ai|apply aa|(apply ik;exact rfl;exact rfl;exact rfl;exact rfl;apply hpx;exact rfl;(exact rfl);exact rfl;exact rfl;exact⟨_,rfl⟩;rintro _ rfl))
  refine cd rfl (fun hb=>?_) (fun hb=>?_)
  ·repeat' (first|refine z0 ?_|apply ag|apply ae|refine z16 ?_|apply aj|apply aa|apply av|apply br)
   exact cm rfl (by rw [h2,rises_bad hi (by omega)])
  ·repeat' (first|refine z0 ?_|apply ag|refine z16 ?_|apply ai|apply aa|apply bg)
   exact⟨i + 1,⟨by omega,by rw [h2,rises_ok hi (by omega)]⟩,ap id ⟨rfl,rfl,rfl,trivial⟩ trivial rfl rfl rfl rfl rfl rfl,by omega⟩
 ·repeat' (first|refine z0 ?_|apply ag|apply ae|refine z16 ?_|apply au|apply aj|apply aa|apply aq|refine z17 ?_|fail)
  exact cm rfl (by rw [h2,rises_end (by have:=h;rw [List.length_map] at this;omega)])
set_option maxHeartbeats 8000000 in
theorem growU_fn (n:Nat) (hn:n≤1000000):FnOk false Tryz.prog tab cn 89 [.nils,.d (.int .i64 n)] 0 0 [] (fun _ r H=>r = .row 0∧H=[(0,.row 53 5 [])]):=by
 refine co _ Tryz.func89 rfl rfl (by kernel_rfl) ?_
 intro O w0 E0 β0
 by_cases h0:n=0
 ·subst h0
  repeat' (first|refine z0 ?_|apply ag|apply ae|refine z16 ?_|apply ai|refine z19 ?_|apply aa)
  all_goals try (exfalso;omega)
  refine il (ee rfl rfl) rfl rfl ?_
  repeat' (first|refine z0 ?_|apply ag|apply ae|refine z16 ?_|apply ai|refine z19 ?_|apply aa)
  all_goals try (exfalso;omega)
  refine ba (ea (t:=4) 53 5 rfl) ?_
  repeat' (apply aj)
  exact⟨.inl rfl,_,rfl,id,1,.row 0,[(0,.row 53 5 [])],rfl,⟨rfl,trivial⟩,rfl,rfl,rfl,rfl,rfl,rfl,rfl,rfl⟩
 ·repeat' (first|refine z0 ?_|apply ag|apply ae|refine z16 ?_|apply ai|refine z19 ?_|apply aa)
  all_goals try (exfalso;omega)
  refine il (ee rfl rfl) rfl rfl ?_
  repeat' (first|refine z0 ?_|apply ag|apply ae|refine z16 ?_|apply ai|apply aj|apply aa|(refine z23 ?_ ?_ <;> intro hg)|fail)
  all_goals try (exfalso;omega)
  refine il (ee rfl rfl) rfl rfl ?_
  repeat' refine z0 ?_
  all_goals try (exfalso;omega)
  refine ds_apmk (n:=n) (es:=5) (te:=53) [.int .i64 0,.int .i64 0,.slice 2 [],.slice 2 [],.slice 2 []] rfl rfl (by omega) rfl rfl rfl rfl ⟨.inl rfl,.inl rfl,.inr ⟨rfl,2,rfl⟩,.inr ⟨rfl,2,rfl⟩,.inr ⟨rfl,2,rfl⟩,trivial⟩ rfl rfl (by omega) (by omega) ?_ (by unfold maxLen;omega) rfl rfl ?_
  ·show n * 88≤_
   omega
  repeat' (first|refine z0 ?_|apply ag|apply ae|refine z16 ?_|apply aa)
  all_goals try (exfalso;omega)
  refine ba (ent_cut (n:=0) 4 rfl rfl (Nat.zero_le _) rfl) ?_
  repeat' (apply aj)
  exact⟨.inl rfl,_,rfl,fun j=>match j with|0=>1|j=>j,1,.row 0,[(0,.row 53 5 [])],rfl,⟨rfl,trivial⟩,rfl,rfl,rfl,rfl,rfl,rfl,rfl,rfl⟩
set_option maxHeartbeats 8000000 in
theorem concatU_fn (ls:List (List (Upd))) (h:(ls.map List.length).sum≤1000000) (h2:ls.length≤1000000):Fn 42 [.d (.slice 1 (ls.map fun l=>[.slice 5 (l.map a7)]))] (fun r=>r = .d (.slice 5 (ls.flatten.map a7))):=by
 refine ak _ Tryz.func42 rfl rfl (by kernel_rfl) ?_
 intro O w0 E0 β0
 have ll:(ls.map fun l=>[D.slice 5 (l.map a7)]).length=ls.length:=List.length_map _
 repeat' (first|refine z0 ?_|apply ag|apply ae|refine z16 ?_|apply ah|apply aa)
 refine bh (ι:=Nat) (fun i=>⟨0,[(0,.d (.slice 1 (ls.map fun l=>[.slice 5 (l.map a7)]))),(3,.d (.int .i64 (((ls.take i).map List.length).sum:Nat))),(9,.d (.slice 1 (ls.map fun l=>[.slice 5 (l.map a7)]))),(10,.d (.int .i64 ls.length)),(11,.d (.int .i64 i))],[]⟩)
  (fun i=>i≤ls.length) (fun i=>ls.length - i) 0 (Nat.zero_le _) (ap id ⟨rfl,rfl,rfl,by rw [← ll];rfl,rfl,trivial⟩ trivial rfl rfl rfl rfl rfl rfl) ?_
 intro i g1
 by_cases hi:i < ls.length
 ·have h3:=sum_takeL hi
  have h4:=sum_leL ls (i + 1)
  have h5:(ls[i].map a7).length=ls[i].length:=List.length_map _
  repeat' (first|refine z0 ?_|apply ag|apply ae|refine z16 ?_|apply ah|apply ai|apply au|refine z19 ?_|apply aa|apply aq|apply bg|refine z17 ?_|(refine z23 ?_ ?_ <;> intro hg)|fail)
  all_goals try (exfalso;omega)
  exact⟨i + 1,by omega,ap id ⟨rfl,congrArg (fun z=>SV.d (.int .i64 z)) (by rw [h3,h5];omega),rfl,rfl,rfl,trivial⟩ trivial rfl rfl rfl rfl rfl rfl,by omega⟩
 ·rw [List.take_of_length_le (by omega)]
  repeat' (first|refine z0 ?_|apply ag|apply ae|refine z16 ?_|apply ah|apply ai|apply au|refine z19 ?_|apply aa|apply aq|apply bg|refine z17 ?_|(refine z23 ?_ ?_ <;> intro hg)|fail)
  all_goals try (exfalso;omega)
  refine b8 id (growU_fn (ls.map List.length).sum h) rfl rfl rfl rfl trivial rfl rfl rfl rfl rfl rfl ?_ ?_
  ·rintro k2 r H2 ⟨rfl,rfl⟩;exact⟨rfl,rfl⟩
  rintro k2 r H2 ⟨rfl,rfl⟩
  change DS _ _ _ _ _ _ _ _
  repeat' (first|refine z0 ?_|apply ag|apply ae|refine z16 ?_|apply ah|apply aa)
  refine bh (ι:=Nat) (fun i=>⟨1,[(6,.row 0),(25,.d (.slice 1 (ls.map fun l=>[.slice 5 (l.map a7)]))),(26,.d (.int .i64 ls.length)),(27,.d (.int .i64 i))],[(0,.row 53 5 ((ls.take i).flatten.map a7))]⟩)
   (fun i=>i≤ls.length) (fun i=>ls.length - i) 0 (Nat.zero_le _) (ap id ⟨rfl,rfl,by rw [← ll];rfl,rfl,trivial⟩ ⟨rfl,trivial⟩ rfl rfl rfl rfl rfl rfl) ?_
  clear hi g1
  intro i g1
  by_cases hi:i < ls.length
  ·have h3:=sum_takeL hi
   have h4:=sum_leL ls (i + 1)
   have h5:(ls[i].map a7).length=ls[i].length:=List.length_map _
   have h6:((ls.take i).flatten.map a7).length=((ls.take i).map List.length).sum:=by rw [List.length_map,List.length_flatten]
   have h7:(ls.take (i + 1)).flatten=(ls.take i).flatten++ls[i]:=by rw [List.take_succ_eq_append_getElem hi,List.flatten_append];simp
   repeat' (first|refine z0 ?_|apply ag|apply ae|refine z16 ?_|apply ah|apply ai|apply au|apply aj|apply aa|apply aq|apply bg|refine z17 ?_|refine z2 ?_|(refine z23 ?_ ?_ <;> intro hg)|fail)
   all_goals try (exfalso;omega)
   exact⟨i + 1,by omega,ap (fun _=>1) ⟨rfl,rfl,rfl,rfl,trivial⟩ ⟨by rw [h7,List.map_append];rfl,trivial⟩ rfl rfl rfl rfl rfl rfl,by omega⟩
  ·rw [List.take_of_length_le (by omega)]
   repeat' (first|refine z0 ?_|apply ag|apply ae|refine z16 ?_|apply ah|apply ai|apply au|apply aa|apply aq|apply bg|refine z17 ?_|refine z2 ?_|(refine z23 ?_ ?_ <;> intro hg)|fail)
   all_goals try (exfalso;omega)
   refine ba (dp 2 rfl rfl rfl) ?_
   repeat' (apply aj)
   exact⟨.inl rfl,_,rfl,rfl,rfl⟩
set_option maxHeartbeats 8000000 in
theorem check1_fn (r:Rpl) (u:Upd) (hl:r.has.length≤1000000) (hs:StrU r.has):Fn 46 ([jc u]++[.pd (rplD r)]) (fun res=>res = .d (.bool (hasU r.has u.id))):=by
 refine ak _ Tryz.func46 rfl rfl (by kernel_rfl) ?_
 intro O w0 E0 β0
 have w:=dhas_fn r.has u.id hl hs
 repeat' (first|refine z0 ?_|apply ag|apply ae|refine z16 ?_|apply aj|apply aa|refine z21 ?_ (hc:=by apply w)|refine z1 ?_|fail)
 exact cm rfl rfl
set_option maxHeartbeats 8000000 in
theorem check2_fn (r:Rpl) (u:Upd) (hl:r.has.length≤1000000) (hs:StrU r.has) (h:u.parents.length + u.takes.length≤1000000):Fn 47 ([jc u]++[.pd (rplD r)]) (fun res=>res = .d (.bool (!readyU r.has u))):=by
 refine ak _ Tryz.func47 rfl rfl (by kernel_rfl) ?_
 intro O w0 E0 β0
 have w:=dready_fn r.has u hl hs h
 repeat' (first|refine z0 ?_|apply ag|apply ae|refine z16 ?_|apply aj|apply aa|refine z21 ?_ (hc:=by apply w)|refine z1 ?_|fail)
 exact cm rfl rfl
set_option maxHeartbeats 8000000 in
theorem check3_fn (r:Rpl) (u:Upd) (hl:r.has.length≤1000000) (hs:StrU r.has) (h:u.parents.length + u.takes.length≤1000000):Fn 50 ([jc u]++[.pd (rplD r)]) (fun res=>res = .d (.bool (readyU r.has u))):=by
 refine ak _ Tryz.func50 rfl rfl (by kernel_rfl) ?_
 intro O w0 E0 β0
 have w:=dready_fn r.has u hl hs h
 repeat' (first|refine z0 ?_|apply ag|apply ae|refine z16 ?_|apply aj|apply aa|refine z21 ?_ (hc:=by apply w)|refine z1 ?_|fail)
 exact cm rfl rfl
set_option maxHeartbeats 8000000 in
theorem dcheck_fn (r:Rpl) (hh:r.has.length≤4398046511104) (hw:r.waits.length≤4398046511104):Fn 24 [elRpl r] (fun res=>res = .d (.int .i64 (ez r))):=by
 have lh:(r.has.map a7).length=r.has.length:=List.length_map _
 have lw:(r.waits.map a7).length=r.waits.length:=List.length_map _
 refine ak _ Tryz.func24 rfl rfl (by kernel_rfl) ?_
 intro O w0 E0 β0
 by_cases h1:200 < r.has.length + r.waits.length
 ·have hc:ez r=2:=if_pos h1
  rw [hc]
  repeat' (first|refine z0 ?_|apply ag|apply ae|refine z16 ?_|apply ai|apply aj|apply aa|apply av|refine z1 ?_|refine z4 ?_|(refine z23 ?_ ?_ <;> intro hg)|fail)
  all_goals try (exfalso;omega)
  all_goals exact cg rfl rfl
 ·have hc1:Fn 42 [.d (.slice 1 [[.slice 5 (r.has.map a7)],[.slice 5 (r.waits.map a7)]])] (fun res=>res = .d (.slice 5 ((r.has++r.waits).map a7))):=by
   have h:=concatU_fn [r.has,r.waits] (by simp;omega) (by simp)
   rw [show [r.has,r.waits].flatten=r.has++r.waits by simp] at h
   exact h
  have hc:ez r=if cu dy (r.has++r.waits)≠0 then cu dy (r.has++r.waits)
    else if e6 (fun a b:Upd=>cv a.id b.id) r.has=false∨e6 (fun a b:Upd=>cv a.id b.id) r.waits=false∨(r.waits.any fun u=>hasU r.has u.id)=true then 4
    else if (r.has.any fun u=>!readyU r.has u)=true then 5
    else if roundB r.has=true∨(r.waits.any fun u=>readyU r.has u)=true then 4
    else 0:=if_neg h1
  rw [hc]
  clear hc
  obtain⟨all,hall⟩:∃ all,all=r.has++r.waits:=⟨_,rfl⟩
  have hal:all.length≤200:=by rw [hall,List.length_append];omega
  have la:(all.map a7).length=all.length:=List.length_map _
  rw [← hall] at hc1 ⊢
  repeat' (first|refine z0 ?_|apply ag|apply ae|refine z16 ?_|apply ah|apply ai|apply aj|apply aa|apply av|refine z21 ?_ (hc:=by apply hc1)|refine z1 ?_|refine z4 ?_|(refine z23 ?_ ?_ <;> intro hg)|fail)
  all_goals try (exfalso;omega)
  refine bh (ι:=Nat) (fun i=>⟨1,[(1,.loc 0 0),(2,.d (.int .i64 0)),(19,.d (.slice 5 (all.map a7))),(20,.d (.int .i64 all.length)),(21,.d (.int .i64 i))],[(0,.blk 29 [.d (.slice 5 (r.has.map a7)),.d (.slice 5 (r.waits.map a7))])]⟩)
   (fun i=>i≤all.length∧cu dy all=cu dy (all.drop i)) (fun i=>all.length - i) 0 ⟨Nat.zero_le _,rfl⟩ (ap id ⟨rfl,rfl,rfl,by rw [← la];rfl,rfl,trivial⟩ ⟨rfl,trivial⟩ rfl rfl rfl rfl rfl rfl) ?_
  rintro i ⟨g1,g2⟩
  dsimp only at g1 g2 ⊢
  by_cases hi:i < all.length
  ·rw [firstL_step hi] at g2
   have w2:=checkU_fn all[i]
   by_cases h3:dy all[i]≠0
   ·rw [if_pos h3] at g2
    rw [g2,if_pos h3]
    repeat' (first|refine z0 ?_|apply ag|apply ae|refine z16 ?_|apply ah|apply ai|apply au|apply aj|apply aa|apply aq|apply av|apply bg|apply br|refine z17 ?_|refine z21 ?_ (hc:=by apply w2)|refine z1 ?_|refine z3 ?_|(refine z23 ?_ ?_ <;> intro hg)|fail)
    all_goals try (exfalso;omega)
    all_goals exact cg rfl rfl
   ·rw [if_neg h3] at g2
    repeat' (first|refine z0 ?_|apply ag|apply ae|refine z16 ?_|apply ah|apply ai|apply au|apply aj|apply aa|apply aq|apply av|apply bg|apply br|refine z17 ?_|refine z21 ?_ (hc:=by apply w2)|refine z1 ?_|refine z3 ?_|(refine z23 ?_ ?_ <;> intro hg)|fail)
    all_goals try (exfalso;omega)
    exact⟨i + 1,⟨hi,g2⟩,ap id ⟨rfl,rfl,rfl,rfl,rfl,trivial⟩ ⟨rfl,trivial⟩ rfl rfl rfl rfl rfl rfl,by omega⟩
  ·rw [firstL_end (by omega)] at g2
   rw [g2,if_neg (by simp)]
   have hok:=firstL_none g2
   have hsm:∀ u∈all,u.parents.length + u.takes.length≤1000000:=fun u hu=>by have:=checkU_small (hok u hu);omega
   clear g1 g2 hc1
   repeat' ((fail_if_success (apply kb 10));(first|refine z0 ?_|apply ag|apply ae|refine z16 ?_|apply ah|apply ai|apply au|apply aa|apply aq|refine z17 ?_|refine z1 ?_|refine z3 ?_|(refine z23 ?_ ?_ <;> intro hg)|fail))
   all_goals try (exfalso;omega)
   clear hi
   have hlh:r.has.length≤1000000:=by omega
   refine ba (gw (ds:=rplD r) 1 0 rfl rfl) ?_
   refine ba (ap (k':=0) (L':=[(1,.pd (rplD r)),(2,.d (.int .i64 0))]) (H':=[]) id ⟨rfl,rfl,trivial⟩ trivial rfl rfl rfl rfl rfl rfl) ?_
   have w1:=risesU_fn (fun a b:Upd=>cv a.id b.id) r.has dorder_fn
   have w2:=risesU_fn (fun a b:Upd=>cv a.id b.id) r.waits dorder_fn
   cases hr1:e6 (fun a b:Upd=>cv a.id b.id) r.has with
   | false =>
    rw [hr1] at w1
    rw [if_pos (.inl rfl)]
    repeat' (first|refine z0 ?_|refine z12 ?_|apply ag|apply ae|refine z16 ?_|apply aj|refine z18 ?_|apply aa|apply av|apply br|refine z21 ?_ (hc:=by apply w1)|fail)
    all_goals try (exfalso;omega)
    all_goals exact cg rfl rfl
   | true =>
    rw [hr1] at w1
    have hs:=rises_str hr1
    cases hr2:e6 (fun a b:Upd=>cv a.id b.id) r.waits with
    | false =>
     rw [hr2] at w2
     rw [if_pos (.inr (.inl rfl))]
     repeat' (first|refine z0 ?_|refine z12 ?_|apply ag|apply ae|refine z16 ?_|apply aj|refine z18 ?_|apply aa|apply av|apply br|refine z21 ?_ (hc:=by apply w1)|refine z21 ?_ (hc:=by apply w2)|fail)
     all_goals try (exfalso;omega)
     all_goals exact cg rfl rfl
    | true =>
     rw [hr2] at w2
     have w3:=containsU_fn (caps:=[.pd (rplD r)]) (fun u=>hasU r.has u.id) r.waits rfl (fun u _=>check1_fn r u hlh hs)
     cases hr3:r.waits.any fun u=>hasU r.has u.id with
     | true =>
      rw [hr3] at w3
      rw [if_pos (.inr (.inr rfl))]
      repeat' (first|refine z0 ?_|apply ag|apply ae|refine z16 ?_|apply aj|refine z18 ?_|apply aa|apply av|apply br|refine z21 ?_ (hc:=by apply w1)|refine z21 ?_ (hc:=by apply w2)|refine z21 ?_ (hc:=by apply w3)|fail)
      all_goals try (exfalso;omega)
      all_goals exact cg rfl rfl
     | false =>
      rw [hr3] at w3
      rw [if_neg (by simp)]
      have w4:=containsU_fn (caps:=[.pd (rplD r)]) (fun u=>!readyU r.has u) r.has rfl (fun u hu=>check2_fn r u hlh hs (hsm u (by rw [hall];exact List.mem_append_left _ hu)))
      cases hr4:r.has.any fun u=>!readyU r.has u with
      | true =>
       rw [hr4] at w4
       rw [if_pos rfl]
       repeat' (first|refine z0 ?_|apply ag|apply ae|refine z16 ?_|apply aj|refine z18 ?_|refine z19 ?_|apply aa|apply av|apply br|refine z21 ?_ (hc:=by apply w1)|refine z21 ?_ (hc:=by apply w2)|refine z21 ?_ (hc:=by apply w3)|refine z21 ?_ (hc:=by apply w4)|fail)
       all_goals try (exfalso;omega)
       all_goals exact cg rfl rfl
      | false =>
       rw [hr4] at w4
       rw [if_neg (by simp)]
       have w5:=round_fn r.has hlh hs (fun u hu=>hsm u (by rw [hall];exact List.mem_append_left _ hu))
       have w6:=containsU_fn (caps:=[.pd (rplD r)]) (fun u=>readyU r.has u) r.waits rfl (fun u hu=>check3_fn r u hlh hs (hsm u (by rw [hall];exact List.mem_append_right _ hu)))
       cases hr5:roundB r.has with
       | true =>
        rw [hr5] at w5
        rw [if_pos (.inl rfl)]
        repeat' (first|refine z0 ?_|refine z12 ?_|apply ag|apply ae|refine z16 ?_|apply aj|refine z18 ?_|refine z19 ?_|apply aa|apply av|apply br|refine z21 ?_ (hc:=by apply w1)|refine z21 ?_ (hc:=by apply w2)|refine z21 ?_ (hc:=by apply w3)|refine z21 ?_ (hc:=by apply w4)|refine z21 ?_ (hc:=by apply w5)|fail)
        all_goals try (exfalso;omega)
        all_goals exact cg rfl rfl
       | false =>
        rw [hr5] at w5
        cases hr6:r.waits.any fun u=>readyU r.has u with
        | true =>
         rw [hr6] at w6
         rw [if_pos (.inr rfl)]
         repeat' (first|refine z0 ?_|apply ag|apply ae|refine z16 ?_|apply aj|refine z18 ?_|refine z19 ?_|apply aa|apply av|apply br|refine z21 ?_ (hc:=by apply w1)|refine z21 ?_ (hc:=by apply w2)|refine z21 ?_ (hc:=by apply w3)|refine z21 ?_ (hc:=by apply w4)|refine z21 ?_ (hc:=by apply w5)|refine z21 ?_ (hc:=by apply w6)|fail)
         all_goals try (exfalso;omega)
         all_goals exact cg rfl rfl
        | false =>
         rw [hr6] at w6
         rw [if_neg (by simp)]
         repeat' (first|refine z0 ?_|apply ag|apply ae|refine z16 ?_|apply ai|apply aj|refine z19 ?_|apply aa|apply bg|refine z21 ?_ (hc:=by apply w1)|refine z21 ?_ (hc:=by apply w2)|refine z21 ?_ (hc:=by apply w3)|refine z21 ?_ (hc:=by apply w4)|refine z21 ?_ (hc:=by apply w5)|refine z21 ?_ (hc:=by apply w6)|fail)
         all_goals try (exfalso;omega)
         all_goals exact cg rfl rfl
end Go.Proofs.YtapciiffpnociaaGreat
