/- Several texts in one: GxVew GxPtr Tab TokP TokE WirP. Condition: none. -/
import Derived.Test.YtapciiffpnociacGreatR07
import Derived.Test.YtapciiffpnociacGreatProg
import Derived.Test.YtapciiffpnociacGreatR01
import Derived.KernelRfl
namespace Go.Proofs.YtapciiffpnociacGreat
open Go Go.RowKit
section
variable {Γ : Ctx} {k : Nat} {L : Sl} {H H' : Hp} {Q : Post} {c : Code}
theorem ent_cut {i es n:Nat} {te:TypeId} {xs:List (List D)} (t:Nat) (hL:L.get t = .rsl i es 0 n) (hH:Hp.get H i=some (.row te es xs)) (hn:n≤xs.length) (hD:delF H i some=some H') :
  Ent Γ k L H (k + 1) ((t,.row k)::L) ((k,.row te es (xs.take n))::H'):=by
 rw [delF_eq] at hD
 cases hD
 intro e a w m
 have hs:=m.slot t
 rw [hL] at hs
 obtain⟨hd,hone,hcase⟩:=hs
 have hze:¬ e.dom k:=fun h=>lo_not k ((m.top k).1 h)
 obtain⟨vs,ho,hes,hone2,hrep⟩:=(m.heap _ (Hp.mem_of hH)).2
 generalize hv:a.tmps.getD t undef=v at hone hcase
 have hηk:(e.bindRow k v).η k=v:=if_pos rfl
 have hlen:(xs.take n).length=n:=by rw [List.length_take];omega
 have hown:w.ownsRow 0 te es v n (vs.take (n * es))∧v.ownBlock=(e.η i).ownBlock:=by
  have hvl:(vs.take (n * es)).length=n * es:=by rw [List.length_take,ho.1];exact Nat.min_eq_left (Nat.mul_le_mul_right _ hn)
  rcases hcase with ⟨hη,rfl,_,rfl⟩|⟨g,n0,cap,o,hη,_,hmx,hnc,rfl,hoo⟩
  ·exact⟨⟨hvl,.inl ⟨rfl,rfl⟩⟩,by rw [hη]⟩
  ·have h0:=hoo (.inr rfl)
   rw [Nat.zero_mul] at h0
   subst h0
   rcases ho.2 with ⟨hη2,_⟩|⟨g',cap',cur,hη2,hb,hh,h1,h2,h3,h4⟩
   ·rw [hη] at hη2;cases hη2
   ·rw [hη] at hη2
    cases hη2
    refine⟨⟨hvl,.inr ⟨g,cap,cur,by simp,hb,hh,by omega,h2,h3,?_⟩⟩,by rw [hη];rfl⟩
    rw [← h4,List.take_take,Nat.min_eq_left (Nat.mul_le_mul_right _ hn)]
 have m2:=m.trade (hb:=.row te es (xs.take n)) hH (lo_not k) (e':=e.bindRow k v) (w':=w) (fun i=>or_congr (m.top i) Iff.rfl) (e.bindRow_ext _ _ hze) (Nat.le_refl _) rfl rfl rfl (fun _=>Nat.le_refl _)
  (fun _ _ _=>rfl) (fun c hc=>by simp only [HB.owned,hηk] at hc;exact .inl (by simp only [HB.owned];rw [← hown.2];exact hc)) (fun hX=>by
   refine⟨vs.take (n * es),by rw [hηk,hlen];exact hown.1,fun j hj=>?_,fun u hu=>hone2 u (List.mem_of_mem_take hu),fun j hj q hq=>?_⟩
   ·rw [List.getElem_take];exact hes j _
   ·have hj':j < n:=by omega
    have hx:(xs.take n)[j]=xs[j]'(by omega):=List.getElem_take
    have hq':q < (xs[j]'(by omega)).length:=by rw [← hx];exact hq
    obtain⟨u,p1,p2⟩:=hrep j (by omega) q hq'
    have hqe:q < es:=by rw [← hes j (by omega)];exact hq'
    refine⟨u,?_,?_⟩
    ·rw [List.getElem?_take,if_pos,p1]
     have:(j + 1) * es≤n * es:=Nat.mul_le_mul_right _ hj'
     rw [Nat.add_mul,Nat.one_mul] at this
     omega
    ·have p3:RepC (Γ.X e H) w u ((xs.take n)[j][q]):=by simpa [hx] using p2
     exact RepC.keep (Nat.le_refl _) (fun _ _ _=>rfl) hX p3)
 have m3:=m2.cast (with1_lo k)
 refine⟨_,⟨m3.toHeap,m3.defers,m3.len,fun t'=>?_⟩⟩
 rw [Sl.get_cons]
 split
 ·rename_i ht
  subst ht
  rw [hv]
  exact⟨.inr rfl,hηk.symm,hone⟩
 ·exact m3.slot t'
end
section
variable {Γ : Ctx} {kk : Nat → Prop} {L : Sl} {H : Hp} {a : Act} {w : World} {e : Env}
theorem mid_get {α:Type} (xs ys:List α) (j p:Nat) (h:j + ys.length≤xs.length):(xs.take j++ys++xs.drop (j + ys.length))[p]? = if p < j then xs[p]? else if p < j + ys.length then ys[p - j]? else xs[p]?:=by
 have h1:(xs.take j).length=j:=by rw [List.length_take];omega
 by_cases hp:p < j
 ·rw [if_pos hp,List.append_assoc,List.getElem?_append_left (by omega),List.getElem?_take,if_pos hp]
 ·rw [if_neg hp]
  by_cases hq:p < j + ys.length
  ·rw [if_pos hq,List.append_assoc,List.getElem?_append_right (by omega),h1,List.getElem?_append_left (by omega)]
  ·rw [if_neg hq,List.getElem?_append_right (by rw [List.length_append];omega),List.length_append,h1,List.getElem?_drop]
   congr 1;omega
theorem row_write (m:Models Γ kk L H e a w) {i es j g0 n0 cap:Nat} {tb:TypeId} {xs ys:List (List D)} {N:List Value} {cur:Array Value} (hH:Hp.get H i=some (.row tb es xs)) (hj:j + ys.length≤xs.length)
  (hN:N.length=ys.length * es) (hyl:∀ p (hp:p < ys.length),(ys[p]'hp).length=es) (h1:∀ v∈N,v.oneCell' = true) (hr:∀ p (hp:p < ys.length) q (hq:q < (ys[p]'hp).length),∃ v,N[p * es + q]? = some v∧RepC (Γ.X e H) w v ((ys[p]'hp)[q]'hq))
  (hη:e.η i = .slice (some ⟨g0,0,none⟩) n0 cap) (hg:w.heap[g0]? = some (.cells cur tb (0,0))) :
  j * es + N.length≤cur.size∧Models Γ kk L (Hp.set H i (.row tb es (xs.take j++ys++xs.drop (j + ys.length)))) e a (w.setRow g0 (cur.toList.take (j * es)++N++cur.toList.drop (j * es + N.length)).toArray):=by
 have hmem:=Hp.mem_of hH
 obtain⟨vs,ho,hes,hone,hrep⟩:=(m.heap _ hmem).2
 rcases ho.2 with ⟨h2,_⟩|⟨g',cap',cur',h2,hb0,hg',hnc,hcm,hcs,htake⟩
 ·rw [hη] at h2;cases h2
 rw [hη] at h2
 cases h2
 rw [hg] at hg'
 cases hg'
 have hlen:vs.length=xs.length * es:=ho.1
 have hjr:j * es + N.length≤xs.length * es:=by rw [hN,← Nat.add_mul];exact Nat.mul_le_mul_right _ hj
 have hcl:xs.length * es≤cur.size:=by rw [hcs];exact Nat.mul_le_mul_right _ hnc
 have hown:∀ zs,HB.owned e (i,.row tb es zs)=some g0:=fun zs=>by simp [HB.owned,hη,Value.ownBlock]
 have hxl:(xs.take j++ys++xs.drop (j + ys.length)).length=xs.length:=by simp only [List.length_append,List.length_take,List.length_drop];omega
 refine⟨by omega,m.turn (b':=.row tb es (xs.take j++ys++xs.drop (j + ys.length))) hH ?_ rfl rfl rfl (fun _=>Nat.le_refl _) (fun c _ hc=>setRow_other w _ c _ (fun h=>hc (by rw [hown,h]))) (by rw [hown,hown]) ?_⟩
 ·simp [World.setRow]
 ·have hgo:(w.setRow g0 (cur.toList.take (j * es)++N++cur.toList.drop (j * es + N.length)).toArray).heap[g0]? = some (.cells (cur.toList.take (j * es)++N++cur.toList.drop (j * es + N.length)).toArray tb (0,0)):=setRow_heap w g0 cur _ tb (0,0) hg
  have hkeep:∀ b,b < w.heap.size→¬ Γ.X e H b→(w.setRow g0 (cur.toList.take (j * es)++N++cur.toList.drop (j * es + N.length)).toArray).heap[b]? = w.heap[b]?:=fun b _ hb=>setRow_other w _ b _ (fun h=>hb (.inr (List.mem_filterMap.2 ⟨_,hmem,by rw [hown,h]⟩)))
  refine⟨vs.take (j * es)++N++vs.drop (j * es + N.length),⟨?_,.inr ⟨g0,cap,_,?_,hb0,hgo,?_,hcm,?_,?_⟩⟩,fun p hp=>?_,fun v hv=>?_,fun p hp q hq=>?_⟩
  ·rw [hxl];simp only [List.length_append,List.length_take,List.length_drop];omega
  ·rw [hxl];exact hη
  ·rw [hxl];exact hnc
  ·rw [← hcs]
   simp only [List.size_toArray,List.length_append,List.length_take,List.length_drop,Array.length_toList]
   omega
  ·rw [hxl]
   apply List.ext_getElem?
   intro p
   rw [List.getElem?_take]
   by_cases hp':p < xs.length * es
   ·have hcv:cur.toList[p]? = vs[p]?:=by rw [← htake,List.getElem?_take,if_pos hp']
    rw [if_pos hp',mid_get _ _ _ _ (by have:=Array.length_toList (xs:=cur);omega),mid_get _ _ _ _ (by omega),hcv]
   ·rw [if_neg hp',List.getElem?_eq_none (by
     have:vs.length≤p:=by omega
     have h9:(vs.take (j * es)++N++vs.drop (j * es + N.length)).length=vs.length:=by simp only [List.length_append,List.length_take,List.length_drop];omega
     omega)]
  ·have hgt:=mid_get xs ys j p hj
   rw [List.getElem?_eq_getElem hp] at hgt
   split at hgt
   ·obtain⟨h3,h4⟩:=List.getElem?_eq_some_iff.1 hgt.symm;rw [← h4];exact hes p h3
   ·split at hgt
    ·obtain⟨h3,h4⟩:=List.getElem?_eq_some_iff.1 hgt.symm;rw [← h4];exact hyl _ h3
    ·obtain⟨h3,h4⟩:=List.getElem?_eq_some_iff.1 hgt.symm;rw [← h4];exact hes p h3
  ·simp only [List.mem_append] at hv
   rcases hv with (hv|hv)|hv
   ·exact hone v (List.mem_of_mem_take hv)
   ·exact h1 v hv
   ·exact hone v (List.mem_of_mem_drop hv)
  ·have hgt:=mid_get xs ys j p hj
   rw [List.getElem?_eq_getElem hp] at hgt
   have hpx:p < xs.length:=by omega
   generalize hz:(xs.take j++ys++xs.drop (j + ys.length))[p]=z at hgt hq
   have key:∀ {v:Value} {x:D},RepC (Γ.X e H) w v x→RepC (Γ.X e H) (w.setRow g0 (cur.toList.take (j * es)++N++cur.toList.drop (j * es + N.length)).toArray) v x:=fun h=>RepC.keep (by simp [World.setRow]) hkeep (fun _ _ h=>h) h
   have hle:∀ c,p < c→q < es→p * es + q < c * es:=fun c hc hqe=>by
    have:(p + 1) * es≤c * es:=Nat.mul_le_mul_right _ hc
    rw [Nat.add_mul] at this;omega
   split at hgt
   ·rename_i hpj
    obtain⟨h3,h4⟩:=List.getElem?_eq_some_iff.1 hgt.symm
    subst h4
    obtain⟨v,p1,p2⟩:=hrep p h3 q hq
    have hqe:q < es:=by rw [← hes p h3];exact hq
    exact⟨v,by rw [mid_get _ _ _ _ (by omega),if_pos (hle j hpj hqe)];exact p1,key p2⟩
   ·rename_i hpj
    split at hgt
    ·rename_i hpy
     obtain⟨h3,h4⟩:=List.getElem?_eq_some_iff.1 hgt.symm
     subst h4
     obtain⟨v,p1,p2⟩:=hr (p - j) h3 q hq
     have hqe:q < es:=by rw [← hyl (p - j) h3];exact hq
     have e1:p * es=j * es + (p - j) * es:=by rw [← Nat.add_mul];congr 1;omega
     have e2:(p - j) * es + q < N.length:=by
      rw [hN]
      have:(p - j + 1) * es≤ys.length * es:=Nat.mul_le_mul_right _ (by omega)
      rw [Nat.add_mul] at this;omega
     exact⟨v,by rw [mid_get _ _ _ _ (by omega),if_neg (by omega),if_pos (by omega),show p * es + q - j * es=(p - j) * es + q by omega];exact p1,key p2⟩
    ·rename_i hpy
     obtain⟨h3,h4⟩:=List.getElem?_eq_some_iff.1 hgt.symm
     subst h4
     obtain⟨v,p1,p2⟩:=hrep p h3 q hq
     have e1:(j + ys.length) * es≤p * es:=Nat.mul_le_mul_right _ (by omega)
     rw [Nat.add_mul] at e1
     exact⟨v,by rw [mid_get _ _ _ _ (by omega),if_neg (by omega),if_neg (by omega)];exact p1,key p2⟩
end
theorem flatten_rep {α:Type} (z:List α):∀ (n i j:Nat),i < n→j < z.length→(List.replicate n z).flatten[i * z.length + j]? = z[j]?
 | 0,_,_,h,_=>by omega
 | n + 1,0,j,_,hj=>by rw [List.replicate_succ,List.flatten_cons,Nat.zero_mul,Nat.zero_add,List.getElem?_append_left hj]
 | n + 1,i + 1,j,hi,hj=>by
  have h1:(i + 1) * z.length + j=z.length + (i * z.length + j):=by rw [Nat.add_mul];omega
  rw [List.replicate_succ,List.flatten_cons,h1,List.getElem?_append_right (by omega),Nat.add_sub_cancel_left,flatten_rep z n i j (by omega) hj]
def zeroIs:List Value→List D→Prop
 | [],[]=>True
 | v::vs,d::ds=>(cSV v = .d d∨(cSV v = .nils∧∃ es,d = .slice es []))∧zeroIs vs ds
 | _,_=>False
theorem zeroIs_spec {X:Nat→Prop} {e:Env} {w:World}:∀ {vs:List Value} {ds:List D},zeroIs vs ds→RelL X e w (vs.map cSV) vs→vs.length=ds.length∧∀ q (hq:q < ds.length),∃ v,vs[q]? = some v∧RepC X w v ds[q]
 | [],[],_,_=>⟨rfl,fun q hq=>by simp at hq⟩
 | [],_::_,h,_=>h.elim
 | _::_,[],h,_=>h.elim
 | v::vs,d::ds,⟨h1,h2⟩,⟨g1,g2⟩=>by
  obtain⟨i1,i2⟩:=zeroIs_spec h2 g2
  refine⟨by simp [i1],fun q hq=>?_⟩
  cases q with
  | zero =>
   refine⟨v,rfl,?_⟩
   rcases h1 with h1|⟨h1,es,h3⟩
   ·rw [h1] at g1;exact g1
   ·rw [h1] at g1
    have g1:v = .slice none 0 0:=g1
    subst g1
    show RepC X w _ d
    rw [h3];exact .nil
  | succ q =>
   obtain⟨u,u1,u2⟩:=i2 q (by simpa using hq)
   exact⟨u,by simpa using u1,by simpa using u2⟩
theorem zeroCells_list (z:Array Value) (n:Nat) (hz:0 < z.size):(Builtin.zeroCells z n).toList=(List.replicate n z.toList).flatten:=by
 apply List.ext_getElem?
 intro p
 have hfl:((List.replicate n z.toList)).flatten.length=n * z.size:=by simp
 by_cases hp:p < n * z.size
 ·have h1:p / z.size < n:=Nat.div_lt_of_lt_mul (by rw [Nat.mul_comm];exact hp)
  have h2:=flatten_rep z.toList n (p / z.size) (p % z.size) h1 (by rw [Array.length_toList];exact Nat.mod_lt _ hz)
  rw [Array.length_toList,Nat.div_add_mod'] at h2
  rw [h2]
  simp [Builtin.zeroCells,hp,getElem!_pos,Nat.mod_lt _ hz]
 ·rw [List.getElem?_eq_none (by simp [Builtin.zeroCells];omega),List.getElem?_eq_none (by omega)]
section
variable {Γ : Ctx} {k : Nat} {L : Sl} {H H' : Hp} {K : Next'} {ops : List Oper} {rest : List Oper} {t : TypeId}
theorem ds_clear (zs:List D) {tb te ty:TypeId} {pos:String} {af:Array Edge} {g:Option (Nat × Bool)} {i es j n:Nat} {xs:List (List D)} {x:Operand} (hx:opSV L x = .rsl i es j n) (hH:Hp.get H i=some (.row tb es xs)) (ht:(tiGet Γ.τ t).sh = .slice te) (hkn:(tiGet Γ.τ te).sh.known=true)
  (hz:zeroIs (tiGet Γ.τ te).zero zs) (hzok:zeroOk (tiGet Γ.τ te).zero=true) (hzl:(tiGet Γ.τ te).zero.length=es) (he:0 < es) (hpos:0 < n) (hjn:j + n≤xs.length) (hw:wantedSV ops L g=some true)
  (hS:setF H i (.row tb es (xs.take j++List.replicate n zs++xs.drop (j + n))) some=some H') (hk:DS false Γ ops rest K k L H') :
  DS false Γ ops (⟨none,.call { callee:=.builtin .clear,args:=#[x],argTypes:=#[t] },ty,pos,af,g⟩::rest) K k L H:=by
 rw [setF_eq] at hS
 cases hS
 refine dl_run hw fun e a w m=>?_
 obtain⟨inf,z,hi,hzz,hs,_,hzc⟩:=Ctx.info (Sh.known_ne hkn)
 obtain⟨_,_,hcs⟩:=evT m hx (cSV_rsl · _ _ _ _)
 have hzsz:z.cells.size=es:=by rw [← Array.length_toList,hzc,hzl]
 rcases hcs with ⟨_,_,_,rfl⟩|⟨g0,n0,cap,o,hη,hkc,hmx,hnc,hv,ho⟩
 ·omega
 have:=ho (.inl (by omega))
 subst this
 obtain⟨vs,hown,hes',_,_⟩:=(m.heap _ (Hp.mem_of hH)).2
 rcases hown.2 with ⟨h2,_⟩|⟨g',cap',cur,h2,_,hg,_,_,hcsz,_⟩
 ·rw [hη] at h2;cases h2
 rw [hη] at h2
 cases h2
 have hzr:=zeroOk_spec (X:=Γ.X e H) (e:=e) (w:=w) _ hzok
 obtain⟨zl,zr⟩:=zeroIs_spec hz hzr.1
 have hN:=zeroCells_list z.cells n (by omega)
 have hNl:(Builtin.zeroCells z.cells n).toList.length=n * es:=by simp [Builtin.zeroCells,hzsz]
 have hyl:(List.replicate n zs).length=n:=List.length_replicate
 have hone:∀ v∈(Builtin.zeroCells z.cells n).toList,v.oneCell' = true:=fun v hv=>hzr.2 v (by rw [← hzc];exact zeroCells_mem hv)
 obtain⟨hfit,m2⟩:=row_write m hH (j:=j) (ys:=List.replicate n zs) (N:=(Builtin.zeroCells z.cells n).toList) (by rw [hyl];exact hjn) (by rw [hNl,hyl]) (fun p hp=>by rw [List.getElem_replicate,← zl,hzl]) hone (fun p hp q hq=>by
  have hq':q < zs.length:=by simpa using hq
  obtain⟨v,q1,q2⟩:=zr q hq'
  refine⟨v,?_,by simpa using q2⟩
  have hqe:q < es:=by rw [← hzl,zl];exact hq'
  rw [hN,← hzsz,← Array.length_toList,flatten_rep _ _ _ _ (by simpa using hp) (by rw [Array.length_toList,hzsz];exact hqe),hzc]
  exact q1) hη hg
 rw [hyl] at m2
 have hst:=run_storeCells_at Γ.P g0 (j * es) tb (Builtin.zeroCells z.cells n).toList 0 cur w hg (by simpa using hfit) hone
 have hrun:(execOp a.eval ⟨none,.call { callee:=.builtin .clear,args:=#[x],argTypes:=#[t] },ty,pos,af,g⟩).run Γ.P w = .ok (.value (.tuple #[])) (w.setRow g0 (cur.toList.take (j * es)++(Builtin.zeroCells z.cells n).toList++cur.toList.drop (j * es + (Builtin.zeroCells z.cells n).toList.length)).toArray):=by
  have hzv:(zeroValue te).run Γ.P w = .ok z w:=by
   simp [zeroValue,typeInfo,hi,hzz]
  obtain⟨n',rfl⟩:∃ n',n=n' + 1:=⟨n - 1,by omega⟩
  simp only [Nat.add_zero] at hst
  simp [execOp,resolve,invoke,builtin,hv,Builtin.clear_,run_underlying (Ctx.slice ht),hzv,hst]
 unfold Oper.wp
 rw [hrun]
 exact⟨k,L,_,e,m2,hk⟩
end
theorem run_append_make {P:Program} (w:World) (t ti ty e:TypeId) (i:TypeInfo) (z:Value) (ht:P.underlying t=some (.slice e)) (hti:P.underlying ti=some (.int .i64)) (hi:P.info? e=some i) (hz:i.zero=some z)
  (n:Nat) (h0:0 < n) (h63:(n:Int)≤9223372036854775807) (h48:n * i.bytes≤281474976710656) (hs:i.size≠0) :
  (Builtin.append_ #[t,ti] ty #[.slice none 0 0,.int .i64 n]).run P w =
   .ok (.slice (some ⟨w.heap.size,0,none⟩) n (grownCap w n 0 e)) (w.drew.alloc (.cells (Builtin.zeroCells z.cells n++Builtin.zeroCells z.cells (grownCap w n 0 e - n)) e)):=by
 have hn:n≠0:=by omega
 have h63':¬ (9223372036854775807 < (n:Int)):=by omega
 have h48':¬ (281474976710656 < Builtin.nextslicecap n 0 * i.bytes):=by rw [nextslicecap_zero h0];omega
 have hw:IntKind.i64.wrap (n:Int)=n:=by simp [IntKind.wrap,IntKind.bits,IntKind.signed];omega
 have hl:¬ ((n:Int) < 0):=by omega
 have hb:¬ (281474976710656 < (n:Int) * (i.bytes:Int)):=by
  have:((n * i.bytes:Nat):Int)≤281474976710656:=by omega
  rw [Int.natCast_mul] at this;omega
 simp [Builtin.append_,asInt,asIntOf,run_underlying ht,run_underlying hti,sizeOf,typeInfo,zeroValue,hi,hz,hw,hl,hb,hn,h63',h48',Question.forced,run_firstCells_none,newRow,grownCap]
 intro h
 exact absurd h (Nat.mul_ne_zero hn hs)
section
variable {Γ : Ctx} {k : Nat} {L : Sl} {H : Hp} {K : Next'} {ops : List Oper} {rest : List Oper} {t : TypeId}
theorem evNils {kk:Nat→Prop} {a:Act} {w:World} {e:Env} (m:Models Γ kk L H e a w) {x:Operand} (hx:opSV L x = .nils):a.eval x = .slice none 0 0:=by
 have hok:opOk x:=by
  cases x with
  | const v=>simp only [opSV] at hx;unfold cSV at hx;split at hx <;> simp_all [opOk,cOk]
  | _=>trivial
 have:=m.op x hok
 rw [hx] at this;exact this
theorem ds_apmk (zs:List D) {d n es:Nat} {te ti ty:TypeId} {pos:String} {af:Array Edge} {g:Option (Nat × Bool)} {x y:Operand} {m':Int} (hx:opSV L x = .nils) (hy:opSV L y = .d (.int .i64 m')) (hn:m' = (n:Int)) (ht:(tiGet Γ.τ t).sh = .slice te) (hti:(tiGet Γ.τ ti).sh = .int .i64)
  (hkn:(tiGet Γ.τ te).sh.known=true) (hes:(tiGet Γ.τ te).cells=es) (hz:zeroIs (tiGet Γ.τ te).zero zs) (hzok:zeroOk (tiGet Γ.τ te).zero=true) (hzl:(tiGet Γ.τ te).zero.length=es) (he:0 < es) (h0:0 < n) (hroom:n * (tiGet Γ.τ te).bytes≤281474976710656) (h63:n≤maxLen)
  (hw:wantedSV ops L g=some true) (hd:Nat.blt d Γ.n=true) (hk:DS false Γ ops rest K (k + 1) ((d,.row k)::L) ((k,.row te es (List.replicate n zs))::H)) :
  DS false Γ ops (⟨some d,.call { callee:=.builtin .append,args:=#[x,y],argTypes:=#[t,ti] },ty,pos,af,g⟩::rest) K k L H:=by
 subst hn
 refine dl_run hw fun e a w m=>?_
 obtain⟨inf,z,hi,hzz,hs,hb,hzc⟩:=Ctx.info (Sh.known_ne hkn)
 have hzsz:z.cells.size=es:=by rw [← Array.length_toList,hzc,hzl]
 have hti':Γ.P.underlying ti=some (.int .i64):=by
  have hti2:Γ.sh ti = .int .i64:=hti
  obtain⟨u,inf,z,h1,_,_,h4,_⟩:=ti_parts (Γ.ti (t:=ti) (by rw [hti2];intro h;cases h))
  rw [h1]
  have h5:shOf Γ.P u = .int .i64:=h4▸hti2
  cases u <;> simp [shOf] at h5 ⊢
  exact h5
 have hrun:=run_append_make (P:=Γ.P) w t ti ty te inf z (Ctx.slice ht) hti' hi hzz n h0 (by unfold maxLen at h63;omega) (by rw [hb];exact hroom) (by rw [hs];have:Γ.cells te=es:=hes;omega)
 have hge:=grownCap_ge w n 0 te
 have hcm:=grownCap_le_maxLen w n 0 te h63
 generalize grownCap w n 0 te=c at hrun hge hcm
 have hop:(execOp a.eval ⟨some d,.call { callee:=.builtin .append,args:=#[x,y],argTypes:=#[t,ti] },ty,pos,af,g⟩).run Γ.P w = .ok (.value (.slice (some ⟨w.heap.size,0,none⟩) n c)) (w.drew.alloc (.cells (Builtin.zeroCells z.cells n++Builtin.zeroCells z.cells (c - n)) te)):=by
  simp only [execOp,resolve,invoke,builtin,Sem.run_bind,Sem.run_pure,Result.andThen_ok,List.map_toArray,List.map_cons,List.map_nil,evNils m hx,evI m hy,hrun]
 unfold Oper.wp
 rw [hop]
 have m1:Models Γ (lo k) L H e a w.drew:=m.below ((Beld.refl _ _ _).drew)
 have hze:¬ e.dom k:=fun h=>lo_not k ((m.top k).1 h)
 have hη:(e.bindRow k (.slice (some ⟨w.heap.size,0,none⟩) n c)).η k = .slice (some ⟨w.heap.size,0,none⟩) n c:=if_pos rfl
 have hNl:(Builtin.zeroCells z.cells n).toList.length=n * es:=by simp [Builtin.zeroCells,hzsz]
 have hfl:=zeroCells_list z.cells n (by omega)
 have m2:=m1.new (lo_not k) (hb:=.row te es (List.replicate n zs)) (e':=e.bindRow k (.slice (some ⟨w.heap.size,0,none⟩) n c)) (w':=w.drew.alloc (.cells (Builtin.zeroCells z.cells n++Builtin.zeroCells z.cells (c - n)) te)) (fun i=>or_congr (m.top i) Iff.rfl) (e.bindRow_ext _ _ hze) (below_alloc Γ.dr _ _)
  (fun b hb=>by simp only [HB.owned,hη,Value.ownBlock,Option.some.injEq] at hb;subst hb;exact Nat.le_refl _) (fun hX=>by
   have hzr:=zeroOk_spec (X:=Γ.X (e.bindRow k (.slice (some ⟨w.heap.size,0,none⟩) n c)) ((k,.row te es (List.replicate n zs))::H)) (e:=e) (w:=w.drew.alloc (.cells (Builtin.zeroCells z.cells n++Builtin.zeroCells z.cells (c - n)) te)) _ hzok
   obtain⟨zl,zr⟩:=zeroIs_spec hz hzr.1
   refine⟨(Builtin.zeroCells z.cells n).toList,⟨by rw [hNl,List.length_replicate],.inr ⟨w.heap.size,c,_,by rw [hη,List.length_replicate],Nat.zero_le _,heap_alloc_new w.drew _,by rw [List.length_replicate];exact hge,hcm,?_,?_⟩⟩,fun p hp=>by rw [List.getElem_replicate,← zl,hzl],fun v hv=>hzr.2 v (by rw [← hzc];exact zeroCells_mem hv),fun p hp q hq=>?_⟩
   ·simp [Builtin.zeroCells,hzsz,← Nat.add_mul];congr 1;omega
   ·rw [List.length_replicate,Array.toList_append,List.take_append_of_le_length (by rw [hNl];exact Nat.le_refl _),List.take_of_length_le (by rw [hNl];exact Nat.le_refl _)]
   ·have hq':q < zs.length:=by simpa using hq
    obtain⟨v,q1,q2⟩:=zr q hq'
    refine⟨v,?_,by simpa using q2⟩
    have hqe:q < es:=by rw [← hzl,zl];exact hq'
    rw [hfl,← hzsz,← Array.length_toList,flatten_rep _ _ _ _ (by simpa using hp) (by rw [Array.length_toList,hzsz];exact hqe),hzc]
    exact q1)
 have m3:=m2.cast (with1_lo k)
 exact⟨k + 1,_,_,_,m3.put (s:=.row k) (v:=.slice (some ⟨w.heap.size,0,none⟩) n c) (Nat.le_of_ble_eq_true hd) ⟨.inr rfl,hη.symm,rfl⟩,hk⟩
theorem ev_cap_nils {kk:Nat→Prop} {te ty:TypeId} {x:Operand} (ht:Γ.sh t = .slice te) (hx:opSV L x = .nils):Ev Γ kk L H (.call { callee:=.builtin .cap,args:=#[x],argTypes:=#[t] }) ty (.d (.int .i64 0)):=by
 intro e a w m
 have hv:=evNils m hx
 refine⟨.int .i64 0,fun _ _ _ _ w' _=>?_,.int (by decide)⟩
 simp [execOp,resolve,invoke,builtin,hv,Builtin.cap_,goInt,run_underlying (Ctx.slice ht)]
end
end Go.Proofs.YtapciiffpnociacGreat
namespace Go.Proofs.YtapciiffpnociacGreat
open Go Go.RowKit
def CellOk (S:Nat→Prop) (H:Hp) (s:SV) (d:D):Prop:=s = .d d∨(∃ i te es xs,s = .row i∧S i∧Hp.get H i=some (.row te es xs)∧d = .slice es xs)∨(s = .nils∧∃ es,d = .slice es [])
def BlkOk (S:Nat→Prop) (H:Hp) (id:Nat) (ds:List D):Prop:=S id∧∃ ty cs,Hp.get H id=some (.blk ty cs)∧∀ j (h:j < ds.length),∃ s,cs[j]? = some s∧CellOk S H s ds[j]
theorem mem_eq:∀ {H:Hp},(H.map (·.1)).Nodup→∀ {p q:Nat × HB},p∈H→q∈H→p.1=q.1→p=q
 | [],_,_,_,h,_,_=>by simp at h
 | x::H,hn,p,q,hp,hq,he=>by
  obtain⟨h1,h2⟩:=List.nodup_cons.1 hn
  rcases List.mem_cons.1 hp with rfl|hp'
  ·rcases List.mem_cons.1 hq with rfl|hq'
   ·rfl
   ·exact absurd (List.mem_map.2 ⟨q,hq',he.symm⟩) h1
  ·rcases List.mem_cons.1 hq with rfl|hq'
   ·exact absurd (List.mem_map.2 ⟨p,hp',he⟩) h1
   ·exact mem_eq h2 hp' hq' he
theorem Hp.mem_del {i:Nat}:∀ {H:Hp} {p:Nat × HB},p∈H→p.1≠i→p∈Hp.del H i
 | [],_,h,_=>by simp at h
 | (d,s)::H,p,hp,hne=>by
  simp only [Hp.del]
  cases hb:Nat.beq d i with
  | true =>
   have:=Nat.eq_of_beq_eq_true hb
   rcases List.mem_cons.1 hp with rfl|hp'
   ·exact absurd this hne
   ·exact hp'
  | false =>
   rcases List.mem_cons.1 hp with rfl|hp'
   ·exact List.mem_cons_self ..
   ·exact List.mem_cons_of_mem _ (Hp.mem_del hp' hne)
section
variable {Γ : Ctx} {k : Nat} {L : Sl} {H : Hp} {a : Act} {w : World} {e : Env} {S : Nat → Prop} {X' : Nat → Prop}
theorem cell_rep (m:Models Γ k L H e a w) (h1:∀ b,X' b→Γ.X e H b) (h2:∀ p∈H,S p.1→∀ b,HB.owned e p=some b→¬ X' b) {s:SV} {d:D} (h:CellOk S H s d) {v:Value} (hr:Rel (Γ.X e H) e w s v):RepC X' w v d:=by
 rcases h with rfl|⟨i,te,es,xs,rfl,hS,hH,rfl⟩|⟨rfl,es,rfl⟩
 ·exact RepC.keep (Nat.le_refl _) (fun _ _ _=>rfl) (fun b _ h=>h1 b h) hr
 ·rw [hr.2.1]
  refine RepC.keep (Nat.le_refl _) (fun _ _ _=>rfl) (fun b _ h=>?_) (row_data m hH)
  rcases h1 b h with ho|ho
  ·exact .inl ho
  ·obtain⟨p,hp,hpb⟩:=List.mem_filterMap.1 ho
   have hne:p.1≠i:=by
    intro hpi
    have:=mem_eq m.ids hp (Hp.mem_of hH) hpi
    subst this
    exact h2 _ hp hS b hpb h
   exact .inr (List.mem_filterMap.2 ⟨p,Hp.mem_del hp hne,hpb⟩)
 ·rw [show v = .slice none 0 0 from hr];exact .nil
theorem ptr_rep (m:Models Γ k L H e a w) (h1:∀ b,X' b→Γ.X e H b) (h2:∀ p∈H,S p.1→∀ b,HB.owned e p=some b→¬ X' b) {id:Nat} {ds:List D} (h:BlkOk S H id ds) {v:Value} (hv:v = .pointer (some ⟨e.β id,0,none⟩)):RepC X' w v (.ptr ds):=by
 obtain⟨hS,ty,cs,hH,hc⟩:=h
 have hmem:=Hp.mem_of hH
 obtain⟨us,g1,g2,_⟩:=(m.heap _ hmem).2
 subst hv
 have hcell:∀ j (hj:j < ds.length),∃ u,us[j]? = some u∧RepC X' w u ds[j]:=by
  intro j hj
  obtain⟨s,q1,q2⟩:=hc j hj
  obtain⟨u,q3,q4⟩:=RelL.get _ _ g2 j s q1
  exact⟨u,q3,cell_rep m h1 h2 q2 q4⟩
 refine .ptr (fun j=>us.getD j undef) (h2 _ hmem hS _ rfl) (lt_of_heap g1) (fun j hj=>?_) (fun j hj=>?_)
 ·obtain⟨u,q3,_⟩:=hcell j hj
  rw [cell_of_row w _ _ _ ty (0,0) g1,Nat.zero_add]
  simp [List.getD,q3]
 ·obtain⟨u,q3,q4⟩:=hcell j hj
  simp only [List.getD,q3,Option.getD_some]
  exact q4
theorem ptrs_rep (m:Models Γ k L H e a w) (h1:∀ b,X' b→Γ.X e H b) (h2:∀ p∈H,S p.1→∀ b,HB.owned e p=some b→¬ X' b) {i n cap:Nat} {te:TypeId} {cs:List SV} {dss:List (List D)} (hS:S i) (hH:Hp.get H i=some (.blk te cs)) (hn:dss.length=n)
  (hc:∀ j (h:j < dss.length),∃ id,cs[j]? = some (.loc id 0)∧BlkOk S H id dss[j]) {v:Value} (hr:Rel (Γ.X e H) e w (.sl i 0 n cap) v):RepC X' w v (.slice 1 (dss.map fun ds=>[.ptr ds])):=by
 obtain⟨_,hnc,hcm,o,rfl,ho⟩:=hr
 have hmem:=Hp.mem_of hH
 obtain⟨us,g1,g2,_⟩:=(m.heap _ hmem).2
 have hcell:∀ j (hj:j < dss.length),∃ u,us[j]? = some u∧RepC X' w u (.ptr dss[j]):=by
  intro j hj
  obtain⟨id,q1,q2⟩:=hc j hj
  obtain⟨u,q3,q4⟩:=RelL.get _ _ g2 j _ q1
  exact⟨u,q3,ptr_rep m h1 h2 q2 q4.2⟩
 subst hn
 refine .slice (fun i' _=>us.getD i' undef) (by simp) hnc hcm (h2 _ hmem hS _ rfl) (lt_of_heap g1) (fun i' hi=>by simp) (fun i' hi j hj=>?_) (fun i' hi j hj=>?_)
 ·rw [List.length_map] at hi
  simp only [List.getElem_map,List.length_cons,List.length_nil,Nat.zero_add,Nat.lt_one_iff] at hj
  subst hj
  obtain⟨u,q3,_⟩:=hcell i' hi
  have:o=0:=ho (by omega)
  subst this
  rw [cell_of_row w _ _ _ te (0,0) g1,Nat.zero_add,Nat.mul_one]
  simp [List.getD,q3]
 ·rw [List.length_map] at hi
  simp only [List.getElem_map,List.length_cons,List.length_nil,Nat.zero_add,Nat.lt_one_iff] at hj
  subst hj
  obtain⟨u,q3,q4⟩:=hcell i' hi
  simp only [List.getD,q3,Option.getD_some,List.getElem_map,List.getElem_cons_zero]
  exact q4
end
theorem FnP.use_at {dr:Bool} {P:Program} {τ:List (Nat × TI)} {τok:TabOk P τ} {f:FuncId} {args:List SV} {R:SV→Prop} (hc:FnP dr P τ τok f args R) (e:Env) {w:World} (O:Nat→Prop) (hO:∀ b,O b→b < w.heap.size) (hlow:SV.lowL 0 args=true)
  (vs:List Value) (hr:RelL O e w args vs) :
  Calls P f vs.toArray w (fun en w'=>∃ r v,R r∧en = .returned v∧Beld dr w.heap.size w w'∧r.low 0=true∧Rel O e w' r v):=by
 have hX:∀ e' b,Ctx.X ⟨P,τ,τok,O,w,fun b=>b∈ownedL (e.ren id 0) [],0,0,(e.ren id 0).an,none,noPan,true,dr⟩ e' [] b↔O b:=by
  intro e' b
  unfold Ctx.X
  simp [ownedL]
 refine (hc.2 O (e.ren id 0) w vs ⟨fun _=>Iff.rfl,by simp,by simp,by simp [ownedL],by simp [ownedL],rfl,rfl,rfl,fun _=>Nat.le_refl _,Nat.le_refl _,fun _ _ _=>rfl,fun b hb=>⟨hO b hb,by simp [ownedL]⟩,fun j hj=>absurd hj (Nat.not_lt_zero j),fun j hj=>absurd hj (Nat.not_lt_zero j)⟩ ?_).mono ?_
 ·exact RelL.keep (Nat.le_refl _) (fun _ _ _=>rfl) (fun b _ hy=>(hX _ b).1 hy) _ _ (RelL.env _ _ hlow hr)
 ·rintro en w' ⟨k',r,H',e',v,⟨rfl,hlr,hR⟩,rfl,hH,hrel⟩
  refine⟨r,v,hR,rfl,⟨⟨hH.os,hH.tape,hH.output,hH.size,fun b hb=>hH.block b hb (by simp [ownedL])⟩,hH.drawn⟩,hlr,?_⟩
  exact Rel.keep (Nat.le_refl _) (fun _ _ _=>rfl) (fun b _ hy=>(hX _ b).2 hy) _ _ (Rel.env _ _ hlr hrel)
theorem sure_rel {X Y:Nat→Prop} {e e':Env} {w w':World} {s:SV} {u v:Value} (hu:s.sure=some u) (hr:Rel X e w s v):Rel Y e' w' s v:=by
 cases s with
 | d x =>
  cases x with
  | int i n=>cases hr;exact .int (by assumption)
  | bool b=>cases hr;exact .bool
  | str s=>cases hr;exact .str (by assumption)
  | slice=>simp [SV.sure] at hu
  | ptr=>simp [SV.sure] at hu
 | _=>simp [SV.sure] at hu
section
variable {Γ : Ctx} {k : Nat} {L : Sl} {H : Hp} {K : Next'} {ops : List Oper} {rest : List Oper}
theorem ds_lend {f:FuncId} {xs:List Operand} {ts:Array TypeId} {ty:TypeId} {pos:String} {af:Array Edge} {g:Option (Nat × Bool)} {d:Nat} {args:List SV} {r:SV} {u:Value} (hw:wantedSV ops L g=some true)
  (hl:∀ e a w,Models Γ k L H e a w→RelL Γ.O e w args (xs.map a.eval)) (hc:FnP Γ.dr Γ.P Γ.τ Γ.τok f args (fun s=>s=r)) (hu:r.sure=some u) (hlow:SV.lowL 0 args=true) (hd:Nat.blt d Γ.n=true)
  (hk:DS false Γ ops rest K k ((d,r)::L) H) :
  DS false Γ ops (⟨some d,.call { callee:=.value (.func f),args:=xs.toArray,argTypes:=ts },ty,pos,af,g⟩::rest) K k L H:=by
 refine dl_run hw fun e a w m=>?_
 unfold Oper.wp
 rw [run_callOp hc.1]
 rw [Oper.upon_enter]
 refine (hc.use_at (τ:=Γ.τ) (τok:=Γ.τok) e Γ.O (fun b hb=>Nat.lt_of_lt_of_le (m.obound b hb).1 m.size) hlow _ (hl e a w m)).mono ?_
 rintro en w' ⟨r',v,rfl,rfl,hb,hlr,hrel⟩
 exact⟨k,_,H,e,(m.below hb).put (Nat.le_of_ble_eq_true hd) (sure_rel hu hrel),hk⟩
theorem ent_frz {S:Nat→Prop} {i n cap:Nat} {te:TypeId} {cs:List SV} {dss:List (List D)} (t:Nat) {H':Hp} (hL:L.get t = .sl i 0 n cap) (hS:S i) (hH:Hp.get H i=some (.blk te cs)) (hn:dss.length=n)
  (hc:∀ j (h:j < dss.length),∃ id,cs[j]? = some (.loc id 0)∧BlkOk S H id dss[j]) (hsub:∀ p∈H',p∈H∧¬ S p.1) (hid:(H'.map (·.1)).Nodup) (hown:∀ e,(ownedL e H).Nodup→(ownedL e H').Nodup) :
  Ent Γ k L H k ((t,.d (.slice 1 (dss.map fun ds=>[.ptr ds])))::L) H':=by
 intro e a w m
 have hX:∀ b,Γ.X e H' b→Γ.X e H b:=fun b hb=>hb.imp id fun hb=>by
  obtain⟨p,hp,ho⟩:=List.mem_filterMap.1 hb
  exact List.mem_filterMap.2 ⟨p,(hsub p hp).1,ho⟩
 have hX2:∀ p∈H,S p.1→∀ b,HB.owned e p=some b→¬ Γ.X e H' b:=by
  intro p hp hSp b hb hx
  rcases hx with hx|hx
  ·exact (m.mine b (List.mem_filterMap.2 ⟨p,hp,hb⟩)).2 hx
  ·obtain⟨q,hq,hqb⟩:=List.mem_filterMap.1 hx
   exact m.owned_ne (hsub q hq).1 hp (fun he=>(hsub q hq).2 (he▸hSp)) hqb hb
 refine⟨e,⟨⟨m.top,fun p hp=>⟨(m.heap p (hsub p hp).1).1,HRel.keep (Nat.le_refl _) (fun _ _ _=>rfl) (fun b _ hy=>hX b hy) p (fun _ _=>rfl) (m.heap p (hsub p hp).1).2⟩,hid,hown e m.nodup,fun b hb=>m.mine b (by
  obtain⟨p,hp,ho⟩:=List.mem_filterMap.1 hb
  exact List.mem_filterMap.2 ⟨p,(hsub p hp).1,ho⟩),m.os,m.tape,m.output,m.drawn,m.size,m.block,m.obound,m.jle,m.anchor⟩,m.defers,m.len,fun t'=>?_⟩⟩
 rw [Sl.get_cons]
 split
 ·rename_i ht
  subst ht
  have hs:=m.slot t
  rw [hL] at hs
  exact ptrs_rep m hX hX2 hS hH hn hc hs
 ·exact Rel.keep (Nat.le_refl _) (fun _ _ _=>rfl) (fun b _ hy=>hX b hy) _ _ (m.slot t')
end
section
variable {Γ : Ctx} {k : Nat} {L : Sl} {H : Hp} {K : Next'} {ops : List Oper} {rest : List Oper} {t t' ty : TypeId} {x y : Operand}
theorem ds_append_ptr {d te t2 i off n cap es j te2:Nat} {cs:List SV} {sv:SV} {pos:String} {af:Array Edge} {g:Option (Nat × Bool)}
  (ht:Γ.sh t = .slice te) (hkn:(Γ.sh te).known=true) (hes:Γ.cells te=es) (hpos:Nat.blt 0 es=true) (hz:Nat.beq (tiGet Γ.τ te).zero.length (Γ.cells te)=true) (hzo:zeroOk (tiGet Γ.τ te).zero=true)
  (hx:opSV L x = .sl i off n cap) (hH:Hp.get H i=some (.blk te cs)) (hfit:off + cap≤cs.length) (hy:opSV L y = .sl j 0 1 1) (hHj:Hp.get H j=some (.blk te2 [sv])) (he1:es=1) (hw:wantedSV ops L g=some true) (hd:Nat.blt d Γ.n=true)
  (hroom:(n + 1) * (tiGet Γ.τ te).bytes≤140737488355328) (h63:n + 1≤maxLen)
  (hk1:n + 1≤cap→DS false Γ ops rest K k ((d,.sl i off (n + 1) cap)::L) (Hp.set H i (.blk te (splice cs (off + n) [sv]))))
  (hk2:∀ cap',cap < n + 1→n + 1≤cap'→cap'≤maxLen→DS false Γ ops rest K (k + 1) ((d,.sl k 0 (n + 1) cap')::L) ((k,.blk te ((cs.drop off).take n++[sv]++List.replicate (cap' - (n + 1)) .junk))::H)) :
  DS false Γ ops (⟨some d,.call { callee:=.builtin .append,args:=#[x,y],argTypes:=#[t,t] },t2,pos,af,g⟩::rest) K k L H:=by
 have hfit:off + cap * es≤cs.length:=by rw [he1,Nat.mul_one];exact hfit
 refine dl_run hw fun e a w m=>?_
 obtain⟨inf,zv,hi,hzz,hs,hb,hzc⟩:=Ctx.info (Sh.known_ne hkn)
 have hut:=Ctx.slice ht
 obtain⟨hdom,hnc,hcm,o',hvx,ho'⟩:=evT m hx (cSV_sl · _ _ _ _)
 obtain⟨_,_,_,oy,hvy,hoy⟩:=evT m hy (cSV_sl · _ _ _ _)
 have hoy0:=hoy (by omega)
 subst hoy0
 obtain⟨us,hhj,hjs,honej⟩:=(m.heap _ (Hp.mem_of hHj)).2
 have hul1:=RelL.length _ _ hjs
 obtain⟨vs,hh,hcs,hone⟩:=(m.heap _ (Hp.mem_of hH)).2
 have hvl:=RelL.length _ _ hcs
 have hsz:inf.size=es:=by rw [hs,hes]
 have hpos':=Nat.le_of_ble_eq_true hpos
 have u1:us.length=1 * es:=by rw [← hul1,he1];rfl
 have u2:∀ q u,us[q]? = some u→w.cell? ((⟨e.β j,0,none⟩:Addr).add q)=some u:=by
  intro q u hq
  rw [Addr.add_at,cell_of_row w _ _ _ te2 (0,0) hhj]
  simpa using hq
 have u3:=honej
 have hul:[sv].length=us.length:=hul1
 have huflat:RelL (Γ.X e H) e w [sv] us:=hjs
 by_cases hcap:n + 1≤cap
 ·have hoo:o' = off:=ho' (by omega)
  subst hoo
  have hfit2:o' + n * inf.size + us.length≤vs.toArray.size:=by
   rw [u1,hsz,List.size_toArray,← hvl,Nat.add_assoc,← Nat.add_mul]
   exact Nat.le_trans (Nat.add_le_add_left (Nat.mul_le_mul_right _ hcap) _) hfit
  have hrun:=run_append_room_at (P:=Γ.P) w t t2 te inf hut hi (e.β i) o' n cap te vs.toArray hh ⟨e.β j,0,none⟩ 1 1 us (by rw [hsz];exact u1) u2 u3 hcap hfit2
  have hop:(execOp a.eval ⟨some d,.call { callee:=.builtin .append,args:=#[x,y],argTypes:=#[t,t] },t2,pos,af,g⟩).run Γ.P w = .ok (.value (.slice (some ⟨e.β i,o',none⟩) (n + 1) cap)) (w.setRow (e.β i) (vs.toArray.toList.take (o' + n * inf.size)++us++vs.toArray.toList.drop (o' + n * inf.size + us.length)).toArray):=by
   simp only [execOp,resolve,invoke,builtin,Sem.run_bind,Sem.run_pure,Result.andThen_ok,List.map_toArray,List.map_cons,List.map_nil,hvx,hvy,hrun]
  unfold Oper.wp
  rw [hop]
  have m2:Models Γ (lo k) L (Hp.set H i (.blk te (splice cs (o' + n * es) ([sv])))) e a (w.setRow (e.β i) (vs.toArray.toList.take (o' + n * inf.size)++us++vs.toArray.toList.drop (o' + n * inf.size + us.length)).toArray):=by
   refine m.turn (b':=.blk te (splice cs (o' + n * es) ([sv]))) hH ?_ rfl rfl rfl (fun _=>Nat.le_refl _) (fun c _ hc=>setRow_other w _ c _ (fun h=>hc (by simp [HB.owned,h]))) rfl ?_
   ·simp [World.setRow]
   ·refine⟨_,setRow_heap w (e.β i) vs.toArray _ te (0,0) hh,?_,fun v hv=>?_⟩
    ·have hkeep:∀ b,b < w.heap.size→¬ Γ.X e H b→(w.setRow (e.β i) (vs.toArray.toList.take (o' + n * inf.size)++us++vs.toArray.toList.drop (o' + n * inf.size + us.length)).toArray).heap[b]? = w.heap[b]?:=fun b _ hb=>setRow_other w _ b _ (fun h=>hb (.inr (List.mem_filterMap.2 ⟨_,Hp.mem_of hH,by simp [HB.owned,h]⟩)))
     refine RelL.keep (by simp [World.setRow]) hkeep (fun _ _ h=>h) _ _ ?_
     unfold splice
     rw [hsz,hul]
     exact RelL.append _ _ _ _ (RelL.append _ _ _ _ (RelL.take _ _ hcs _) huflat) (RelL.drop _ _ hcs _)
    ·simp only [List.mem_append] at hv
     rcases hv with (hv|hv)|hv
     ·exact hone v (List.mem_of_mem_take hv)
     ·exact u3 v hv
     ·exact hone v (List.mem_of_mem_drop hv)
  exact⟨_,_,_,_,m2.put (s:=.sl i o' (n + 1) cap) (Nat.le_of_ble_eq_true hd) ⟨hdom,hcap,hcm,o',rfl,fun _=>rfl⟩,by rw [he1,Nat.mul_one];exact hk1 hcap⟩
 ·have hlt:cap < n + 1:=by omega
  have hol:((vs.drop off).take (n * es)).length=n * inf.size:=by
   rw [List.length_take,List.length_drop,← hvl,hsz]
   have:n * es≤cap * es:=Nat.mul_le_mul_right _ hnc
   omega
  have holds:∀ j v,((vs.drop off).take (n * es))[j]? = some v→w.cell? ((⟨e.β i,o',none⟩:Addr).add j)=some v:=by
   intro j v hj
   have hjl:j < n * es:=by
    rw [List.getElem?_take] at hj
    split at hj
    ·assumption
    ·cases hj
   have hn0:0 < cap:=by
    rcases Nat.eq_zero_or_pos n with h|h
    ·rw [h,Nat.zero_mul] at hjl;omega
    ·omega
   have hoo:=ho' hn0
   subst hoo
   rw [List.getElem?_take,if_pos hjl,List.getElem?_drop] at hj
   rw [Addr.add_at,cell_of_row w _ _ _ te (0,0) hh]
   simpa using hj
  have h63':((n + 1:Nat):Int)≤9223372036854775807:=by unfold maxLen at h63;omega
  have hrun:=run_append_grow (P:=Γ.P) w t t2 te inf zv hut hi hzz ⟨e.β i,o',none⟩ n cap ((vs.drop off).take (n * es)) hol holds ⟨e.β j,0,none⟩ 1 1 us (by rw [hsz];exact u1) u2 hlt h63' (growslice_fits hlt (by rw [hb];exact hroom))
  have hge:=grownCap_ge w (n + 1) cap te
  have hcm':grownCap w (n + 1) cap te≤maxLen:=grownCap_le_maxLen w (n + 1) cap te h63
  generalize grownCap w (n + 1) cap te=c' at hrun hge hcm'
  have hop:(execOp a.eval ⟨some d,.call { callee:=.builtin .append,args:=#[x,y],argTypes:=#[t,t] },t2,pos,af,g⟩).run Γ.P w = .ok (.value (.slice (some ⟨w.heap.size,0,none⟩) (n + 1) c'))
    (w.drew.alloc (.cells (((vs.drop off).take (n * es)).toArray++us.toArray++Builtin.zeroCells zv.cells (c' - (n + 1))) te)):=by
   simp only [execOp,resolve,invoke,builtin,Sem.run_bind,Sem.run_pure,Result.andThen_ok,List.map_toArray,List.map_cons,List.map_nil,hvx,hvy,hrun]
  unfold Oper.wp
  rw [hop]
  have m1:Models Γ (lo k) L H e a w.drew:=m.below ((Beld.refl _ _ _).drew)
  have hzsz:zv.cells.size=es:=by rw [← Array.length_toList,hzc,Nat.eq_of_beq_eq_true hz,hes]
  have m2:=(m1.alloc (lo_not k) (cs:=(cs.drop off).take (n * es)++[sv]++List.replicate ((c' - (n + 1)) * es) .junk)
   (vs:=(vs.drop off).take (n * es)++us++(Builtin.zeroCells zv.cells (c' - (n + 1))).toList) te
   (RelL.append _ _ _ _ (RelL.append _ _ _ _ (RelL.take _ _ (RelL.drop _ _ (RelL.keep (w:=w) (w':=w.drew) (Nat.le_refl _) (fun _ _ _=>rfl) (fun _ _ h=>h) _ _ hcs) _) _) (RelL.keep (w:=w) (w':=w.drew) (Nat.le_refl _) (fun _ _ _=>rfl) (fun _ _ h=>h) _ _ huflat)) (junk_rel _ _ (by rw [Array.length_toList,size_zeroCells,hzsz])))
   (fun v hv=>by
    simp only [List.mem_append] at hv
    rcases hv with (hv|hv)|hv
    ·exact hone v (List.mem_of_mem_drop (List.mem_of_mem_take hv))
    ·exact u3 v hv
    ·have:=zeroCells_mem hv
     rw [hzc] at this
     exact (zeroOk_spec (X:=Γ.X e H) (e:=e) (w:=w) _ hzo).2 v this)).cast (with1_lo k)
  have harr:((vs.drop off).take (n * es)++us++(Builtin.zeroCells zv.cells (c' - (n + 1))).toList).toArray=((vs.drop off).take (n * es)).toArray++us.toArray++Builtin.zeroCells zv.cells (c' - (n + 1)):=by simp
  rw [harr] at m2
  refine⟨_,_,_,_,m2.put (s:=.sl k 0 (n + 1) c') (Nat.le_of_ble_eq_true hd) ⟨.inr rfl,hge,hcm',0,?_,fun _=>rfl⟩,by rw [he1,Nat.mul_one,Nat.mul_one];exact hk2 c' hlt hge hcm'⟩
  show _=Value.slice (some ⟨(e.bind k w.heap.size).β k,0,none⟩) (n + 1) c'
  rw [show (e.bind k w.heap.size).β k=w.heap.size from if_pos rfl]
theorem ds_append_ptr0 {d te t2 es j te2:Nat} {sv:SV} {pos:String} {af:Array Edge} {g:Option (Nat × Bool)}
  (ht:Γ.sh t = .slice te) (hkn:(Γ.sh te).known=true) (hes:Γ.cells te=es) (hpos:Nat.blt 0 es=true) (hz:Nat.beq (tiGet Γ.τ te).zero.length (Γ.cells te)=true) (hzo:zeroOk (tiGet Γ.τ te).zero=true)
  (hx:opSV L x = .nils) (hy:opSV L y = .sl j 0 1 1) (hHj:Hp.get H j=some (.blk te2 [sv])) (he1:es=1) (hw:wantedSV ops L g=some true) (hd:Nat.blt d Γ.n=true)
  (hroom:(tiGet Γ.τ te).bytes≤140737488355328)
  (hk2:∀ cap',1≤cap'→cap'≤maxLen→DS false Γ ops rest K (k + 1) ((d,.sl k 0 1 cap')::L) ((k,.blk te ([sv]++List.replicate (cap' - 1) .junk))::H)) :
  DS false Γ ops (⟨some d,.call { callee:=.builtin .append,args:=#[x,y],argTypes:=#[t,t] },t2,pos,af,g⟩::rest) K k L H:=by
 refine dl_run hw fun e a w m=>?_
 obtain⟨inf,zv,hi,hzz,hs,hb,hzc⟩:=Ctx.info (Sh.known_ne hkn)
 have hut:=Ctx.slice ht
 have hvx:=evNils m hx
 obtain⟨_,_,_,oy,hvy,hoy⟩:=evT m hy (cSV_sl · _ _ _ _)
 have hoy0:=hoy (by omega)
 subst hoy0
 obtain⟨us,hhj,hjs,honej⟩:=(m.heap _ (Hp.mem_of hHj)).2
 have hul1:=RelL.length _ _ hjs
 have hsz:inf.size=es:=by rw [hs,hes]
 have hpos':=Nat.le_of_ble_eq_true hpos
 have u1:us.length=1 * es:=by rw [← hul1,he1];rfl
 have u2:∀ q u,us[q]? = some u→w.cell? ((⟨e.β j,0,none⟩:Addr).add q)=some u:=by
  intro q u hq
  rw [Addr.add_at,cell_of_row w _ _ _ te2 (0,0) hhj]
  simpa using hq
 have u3:=honej
 have hul:[sv].length=us.length:=hul1
 have huflat:RelL (Γ.X e H) e w [sv] us:=hjs
 have hrun:=run_append_nil (P:=Γ.P) (w:=w) t t2 te inf zv hut hi hzz ⟨e.β j,0,none⟩ 1 1 us (by rw [hsz];exact u1) u2 (by omega) (by omega) (by rw [hb];omega)
 have hge:=grownCap_ge w 1 0 te
 have hcm':grownCap w 1 0 te≤maxLen:=grownCap_le_maxLen w 1 0 te (by unfold maxLen;omega)
 generalize grownCap w 1 0 te=c' at hrun hge hcm'
 have hop:(execOp a.eval ⟨some d,.call { callee:=.builtin .append,args:=#[x,y],argTypes:=#[t,t] },t2,pos,af,g⟩).run Γ.P w = .ok (.value (.slice (some ⟨w.heap.size,0,none⟩) 1 c'))
   (w.drew.alloc (.cells (us.toArray++Builtin.zeroCells zv.cells (c' - 1)) te)):=by
  simp only [execOp,resolve,invoke,builtin,Sem.run_bind,Sem.run_pure,Result.andThen_ok,List.map_toArray,List.map_cons,List.map_nil,hvx,hvy,hrun]
 unfold Oper.wp
 rw [hop]
 have m1:Models Γ (lo k) L H e a w.drew:=m.below ((Beld.refl _ _ _).drew)
 have hzsz:zv.cells.size=es:=by rw [← Array.length_toList,hzc,Nat.eq_of_beq_eq_true hz,hes]
 have m2:=(m1.alloc (lo_not k) (cs:=[sv]++List.replicate ((c' - 1) * es) .junk)
  (vs:=us++(Builtin.zeroCells zv.cells (c' - 1)).toList) te
  (RelL.append _ _ _ _ (RelL.keep (w:=w) (w':=w.drew) (Nat.le_refl _) (fun _ _ _=>rfl) (fun _ _ h=>h) _ _ huflat) (junk_rel _ _ (by rw [Array.length_toList,size_zeroCells,hzsz])))
  (fun v hv=>by
   simp only [List.mem_append] at hv
   rcases hv with hv|hv
   ·exact u3 v hv
   ·have:=zeroCells_mem hv
    rw [hzc] at this
    exact (zeroOk_spec (X:=Γ.X e H) (e:=e) (w:=w) _ hzo).2 v this)).cast (with1_lo k)
 have harr:(us++(Builtin.zeroCells zv.cells (c' - 1)).toList).toArray=us.toArray++Builtin.zeroCells zv.cells (c' - 1):=by simp
 rw [harr] at m2
 refine⟨_,_,_,_,m2.put (s:=.sl k 0 1 c') (Nat.le_of_ble_eq_true hd) ⟨.inr rfl,hge,hcm',0,?_,fun _=>rfl⟩,by rw [he1,Nat.mul_one];exact hk2 c' hge hcm'⟩
 show _=Value.slice (some ⟨(e.bind k w.heap.size).β k,0,none⟩) 1 c'
 rw [show (e.bind k w.heap.size).β k=w.heap.size from if_pos rfl]
end
open Go
def tab:List (Nat × TI):=[
 (2,⟨.int .i64,1,8,[.int .i64 0],false⟩),
 (3,⟨.int .i64,1,8,[.int .i64 0],false⟩),
 (4,⟨.bool,1,1,[.bool false],false⟩),
 (5,⟨.int .u8,1,1,[.int .u8 0],false⟩),
 (6,⟨.int .u8,1,1,[.int .u8 0],false⟩),
 (7,⟨.struct [(0,2,1),(1,3,1),(2,4,1),(3,6,1)],4,24,[.int .i64 0,.int .i64 0,.bool false,.int .u8 0],true⟩),
 (8,⟨.struct [(0,2,1),(1,3,1),(2,4,1),(3,6,1)],4,24,[.int .i64 0,.int .i64 0,.bool false,.int .u8 0],true⟩),
 (9,⟨.str,1,16,[.string ⟨#[]⟩],false⟩),
 (10,⟨.str,1,16,[.string ⟨#[]⟩],false⟩),
 (11,⟨.str,1,16,[.string ⟨#[]⟩],false⟩),
 (12,⟨.int .u64,1,8,[.int .u64 0],false⟩),
 (13,⟨.struct [(0,9,1),(1,12,1)],2,24,[.string ⟨#[]⟩,.int .u64 0],false⟩),
 (14,⟨.struct [(0,9,1),(1,12,1)],2,24,[.string ⟨#[]⟩,.int .u64 0],false⟩),
 (15,⟨.ptr 263,1,8,[.pointer none],false⟩),
 (16,⟨.ptr 266,1,8,[.pointer none],false⟩),
 (17,⟨.ptr 275,1,8,[.pointer none],false⟩),
 (18,⟨.struct [(0,17,1)],1,8,[.pointer none],false⟩),
 (19,⟨.struct [(0,17,1)],1,8,[.pointer none],false⟩),
 (21,⟨.int .i32,1,4,[.int .i32 0],false⟩),
 (22,⟨.slice 3,1,24,[.slice none 0 0],false⟩),
 (23,⟨.slice 9,1,24,[.slice none 0 0],false⟩),
 (24,⟨.slice 36,1,24,[.slice none 0 0],false⟩),
 (25,⟨.struct [(0,22,1),(1,23,1),(2,24,1)],3,72,[.slice none 0 0,.slice none 0 0,.slice none 0 0],true⟩),
 (26,⟨.struct [(0,22,1),(1,23,1),(2,24,1)],3,72,[.slice none 0 0,.slice none 0 0,.slice none 0 0],true⟩),
 (27,⟨.slice 48,1,24,[.slice none 0 0],false⟩),
 (28,⟨.slice 22,1,24,[.slice none 0 0],false⟩),
 (29,⟨.int .i64,1,8,[.int .i64 0],false⟩),
 (33,⟨.slice 141,1,24,[.slice none 0 0],false⟩),
 (34,⟨.slice 40,1,24,[.slice none 0 0],false⟩),
 (35,⟨.struct [(0,3,1),(1,33,1),(2,3,1),(3,34,1),(4,3,1)],5,72,[.int .i64 0,.slice none 0 0,.int .i64 0,.slice none 0 0,.int .i64 0],true⟩),
 (36,⟨.struct [(0,3,1),(1,33,1),(2,3,1),(3,34,1),(4,3,1)],5,72,[.int .i64 0,.slice none 0 0,.int .i64 0,.slice none 0 0,.int .i64 0],true⟩),
 (39,⟨.struct [(0,3,1),(1,3,1),(2,3,1),(3,33,1)],4,48,[.int .i64 0,.int .i64 0,.int .i64 0,.slice none 0 0],true⟩),
 (40,⟨.struct [(0,3,1),(1,3,1),(2,3,1),(3,33,1)],4,48,[.int .i64 0,.int .i64 0,.int .i64 0,.slice none 0 0],true⟩),
 (47,⟨.struct [(0,3,1),(1,22,1)],2,32,[.int .i64 0,.slice none 0 0],true⟩),
 (48,⟨.struct [(0,3,1),(1,22,1)],2,32,[.int .i64 0,.slice none 0 0],true⟩),
 (50,⟨.slice 4,1,24,[.slice none 0 0],false⟩),
 (61,⟨.struct [(0,27,1),(1,27,1)],2,48,[.slice none 0 0,.slice none 0 0],true⟩),
 (62,⟨.struct [(0,27,1),(1,27,1)],2,48,[.slice none 0 0,.slice none 0 0],true⟩),
 (72,⟨.slice 81,1,24,[.slice none 0 0],false⟩),
 (80,⟨.struct [(0,48,2),(2,3,1),(3,22,1)],4,64,[.int .i64 0,.slice none 0 0,.int .i64 0,.slice none 0 0],true⟩),
 (81,⟨.struct [(0,48,2),(2,3,1),(3,22,1)],4,64,[.int .i64 0,.slice none 0 0,.int .i64 0,.slice none 0 0],true⟩),
 (98,⟨.slice 166,1,24,[.slice none 0 0],false⟩),
 (112,⟨.slice 27,1,24,[.slice none 0 0],false⟩),
 (114,⟨.ptr 116,1,8,[.pointer none],false⟩),
 (115,⟨.struct [(0,26,3),(3,27,1),(4,27,1)],5,120,[.slice none 0 0,.slice none 0 0,.slice none 0 0,.slice none 0 0,.slice none 0 0],true⟩),
 (116,⟨.struct [(0,26,3),(3,27,1),(4,27,1)],5,120,[.slice none 0 0,.slice none 0 0,.slice none 0 0,.slice none 0 0,.slice none 0 0],true⟩),
 (119,⟨.ptr 121,1,8,[.pointer none],false⟩),
 (120,⟨.struct [(0,26,3),(3,98,1),(4,72,1)],5,120,[.slice none 0 0,.slice none 0 0,.slice none 0 0,.slice none 0 0,.slice none 0 0],true⟩),
 (121,⟨.struct [(0,26,3),(3,98,1),(4,72,1)],5,120,[.slice none 0 0,.slice none 0 0,.slice none 0 0,.slice none 0 0,.slice none 0 0],true⟩),
 (131,⟨.ptr 133,1,8,[.pointer none],false⟩),
 (132,⟨.struct [(0,36,5),(5,27,1),(6,22,1),(7,50,1),(8,3,1),(9,28,1)],10,176,[.int .i64 0,.slice none 0 0,.int .i64 0,.slice none 0 0,.int .i64 0,.slice none 0 0,.slice none 0 0,.slice none 0 0,.int .i64 0,.slice none 0 0],true⟩),
 (133,⟨.struct [(0,36,5),(5,27,1),(6,22,1),(7,50,1),(8,3,1),(9,28,1)],10,176,[.int .i64 0,.slice none 0 0,.int .i64 0,.slice none 0 0,.int .i64 0,.slice none 0 0,.slice none 0 0,.slice none 0 0,.int .i64 0,.slice none 0 0],true⟩),
 (140,⟨.struct [(0,3,1),(1,3,1)],2,16,[.int .i64 0,.int .i64 0],true⟩),
 (141,⟨.struct [(0,3,1),(1,3,1)],2,16,[.int .i64 0,.int .i64 0],true⟩),
 (142,⟨.slice 144,1,24,[.slice none 0 0],false⟩),
 (144,⟨.ptr 146,1,8,[.pointer none],false⟩),
 (145,⟨.struct [(0,22,1),(1,22,1)],2,48,[.slice none 0 0,.slice none 0 0],true⟩),
 (146,⟨.struct [(0,22,1),(1,22,1)],2,48,[.slice none 0 0,.slice none 0 0],true⟩),
 (150,⟨.ptr 152,1,8,[.pointer none],false⟩),
 (151,⟨.struct [(0,26,3),(3,27,1),(4,98,1)],5,120,[.slice none 0 0,.slice none 0 0,.slice none 0 0,.slice none 0 0,.slice none 0 0],true⟩),
 (152,⟨.struct [(0,26,3),(3,27,1),(4,98,1)],5,120,[.slice none 0 0,.slice none 0 0,.slice none 0 0,.slice none 0 0,.slice none 0 0],true⟩),
 (166,⟨.struct [(0,48,2),(2,3,1),(3,22,1)],4,64,[.int .i64 0,.slice none 0 0,.int .i64 0,.slice none 0 0],true⟩),
 (177,⟨.int .u64,1,8,[.int .u64 0],false⟩),
 (182,⟨.struct [(0,36,5),(5,27,1),(6,28,1),(7,4,1)],8,128,[.int .i64 0,.slice none 0 0,.int .i64 0,.slice none 0 0,.int .i64 0,.slice none 0 0,.slice none 0 0,.bool false],true⟩),
 (183,⟨.struct [(0,36,5),(5,27,1),(6,28,1),(7,4,1)],8,128,[.int .i64 0,.slice none 0 0,.int .i64 0,.slice none 0 0,.int .i64 0,.slice none 0 0,.slice none 0 0,.bool false],true⟩),
 (200,⟨.slice 34,1,24,[.slice none 0 0],false⟩),
 (204,⟨.int .i64,1,8,[.int .i64 0],false⟩),
 (211,⟨.int .u32,1,4,[.int .u32 0],false⟩),
 (213,⟨.int .u64,1,8,[.int .u64 0],false⟩),
 (216,⟨.ptr 183,1,8,[.pointer none],false⟩),
 (227,⟨.int .u64,1,8,[.int .u64 0],false⟩),
 (231,⟨.ptr 3,1,8,[.pointer none],false⟩),
 (240,⟨.ptr 227,1,8,[.pointer none],false⟩),
 (244,⟨.slice 248,1,24,[.slice none 0 0],false⟩),
 (247,⟨.struct [(0,3,1),(1,3,1),(2,9,1)],3,32,[.int .i64 0,.int .i64 0,.string ⟨#[]⟩],true⟩),
 (248,⟨.struct [(0,3,1),(1,3,1),(2,9,1)],3,32,[.int .i64 0,.int .i64 0,.string ⟨#[]⟩],true⟩),
 (250,⟨.ptr 252,1,8,[.pointer none],false⟩),
 (251,⟨.struct [(0,9,1),(1,3,1)],2,24,[.string ⟨#[]⟩,.int .i64 0],true⟩),
 (252,⟨.struct [(0,9,1),(1,3,1)],2,24,[.string ⟨#[]⟩,.int .i64 0],true⟩),
 (262,⟨.struct [(0,17,1),(1,17,1),(2,17,1),(3,9,1)],4,40,[.pointer none,.pointer none,.pointer none,.string ⟨#[]⟩],false⟩),
 (263,⟨.struct [(0,17,1),(1,17,1),(2,17,1),(3,9,1)],4,40,[.pointer none,.pointer none,.pointer none,.string ⟨#[]⟩],false⟩),
 (265,⟨.struct [(0,264,0)],0,0,[],false⟩),
 (266,⟨.struct [(0,264,0)],0,0,[],false⟩),
 (268,⟨.int .u8,1,1,[.int .u8 0],false⟩),
 (269,⟨.int .u8,1,1,[.int .u8 0],false⟩),
 (271,⟨.ptr 5,1,8,[.pointer none],false⟩),
 (272,⟨.int .i32,1,4,[.int .i32 0],false⟩),
 (273,⟨.int .i32,1,4,[.int .i32 0],false⟩),
 (274,⟨.struct [(0,12,1),(1,12,1),(2,211,1),(3,268,1),(4,5,1),(5,5,1),(6,269,1),(7,270,1),(8,271,1),(9,272,1),(10,273,1)],11,48,[.int .u64 0,.int .u64 0,.int .u32 0,.int .u8 0,.int .u8 0,.int .u8 0,.int .u8 0,.nilFunc,.pointer none,.int .i32 0,.int .i32 0],false⟩),
 (275,⟨.struct [(0,12,1),(1,12,1),(2,211,1),(3,268,1),(4,5,1),(5,5,1),(6,269,1),(7,270,1),(8,271,1),(9,272,1),(10,273,1)],11,48,[.int .u64 0,.int .u64 0,.int .u32 0,.int .u8 0,.int .u8 0,.int .u8 0,.int .u8 0,.nilFunc,.pointer none,.int .i32 0,.int .i32 0],false⟩)]
theorem tab_ok:TabOk Tryz.prog tab:=by
 unfold TabOk
 kernel_rfl
def smallB (c:UInt8):Bool:=decide ((97:Int)≤c.toNat) && decide ((c.toNat:Int)≤122)
def greatB (c:UInt8):Bool:=decide ((65:Int)≤c.toNat) && decide ((c.toNat:Int)≤90)
def digitB (c:UInt8):Bool:=decide ((48:Int)≤c.toNat) && decide ((c.toNat:Int)≤57)
def letterB (c:UInt8):Bool:=smallB c || greatB c
def alnumB (c:UInt8):Bool:=letterB c || digitB c
def takeW (p:UInt8→Bool):List UInt8→Nat
 | []=>0
 | c::l=>if p c then takeW p l + 1 else 0
theorem takeW_le (p:UInt8→Bool):∀ l,takeW p l≤l.length
 | []=>Nat.le_refl _
 | c::l=>by
  unfold takeW
  have:=takeW_le p l
  split <;> simp <;> omega
theorem takeW_step (p:UInt8→Bool) (l:List UInt8) (i:Nat) (h:i < l.length) (hp:p l[i]=true):takeW p (l.drop i)=takeW p (l.drop (i + 1)) + 1:=by
 rw [List.drop_eq_getElem_cons h,takeW,if_pos hp]
theorem takeW_stop (p:UInt8→Bool) (l:List UInt8) (i:Nat) (h:i < l.length) (hp:p l[i]=false):takeW p (l.drop i)=0:=by
 rw [List.drop_eq_getElem_cons h,takeW,if_neg (by rw [hp];exact Bool.false_ne_true)]
theorem takeW_end (p:UInt8→Bool) (l:List UInt8) (i:Nat) (h:l.length≤i):takeW p (l.drop i)=0:=by
 rw [List.drop_of_length_le h];rfl
def signs:List UInt8:=[40,41,44,46,60,61,43,45,42]
def pairB:List UInt8→Bool
 | a::b::_=>(a == 58 && b == 45) || (a == 60 && b == 61) || (a == 33 && b == 61)
 | _=>false
def tokAt:List UInt8→Int × Nat
 | []=>(0,0)
 | c::l=>if letterB c then (if smallB c then 1 else 2,1 + takeW alnumB l)
  else if digitB c then (3,1 + takeW digitB l)
  else if pairB (c::l) then (4,2)
  else if signs.contains c then (4,1)
  else (0,0)
structure Tok where
 kind:Int
 at_:Int
 text:ByteArray
def sameAll {α:Type} (p:α→α→Bool):List α→List α→Bool
 | [],[]=>true
 | x::xs,y::ys=>p x y && sameAll p xs ys
 | _,_=>false
def Tok.same (at_:Bool) (x y:Tok):Bool:=decide (x.kind=y.kind) && decide (x.text=y.text) && (!at_ || decide (x.at_=y.at_))
theorem tokAt_cons (c:UInt8) (l:List UInt8):tokAt (c::l)=(if letterB c then (if smallB c then 1 else 2,1 + takeW alnumB l)
  else if digitB c then (3,1 + takeW digitB l)
  else if pairB (c::l) then (4,2)
  else if signs.contains c then (4,1)
  else (0,0)):=rfl
theorem tokAt_le (l:List UInt8):(tokAt l).2≤l.length:=by
 cases l with
 | nil=>simp [tokAt]
 | cons c l =>
  have h1:=takeW_le alnumB l
  have h2:=takeW_le digitB l
  rw [tokAt_cons]
  by_cases a:letterB c=true
  ·rw [if_pos a];simp only [List.length_cons];omega
  ·rw [if_neg a]
   by_cases b:digitB c=true
   ·rw [if_pos b];simp only [List.length_cons];omega
   ·rw [if_neg b]
    by_cases d:pairB (c::l)=true
    ·rw [if_pos d]
     cases l with
     | nil=>simp [pairB] at d
     | cons b l=>simp
    ·rw [if_neg d]
     by_cases e:signs.contains c=true
     ·rw [if_pos e];simp
     ·rw [if_neg e];simp
theorem tokAt_pos (l:List UInt8) (h:(tokAt l).1≠0):1≤(tokAt l).2:=by
 cases l with
 | nil=>simp [tokAt] at h
 | cons c l =>
  rw [tokAt_cons] at h ⊢
  by_cases a:letterB c=true
  ·rw [if_pos a];simp
  ·rw [if_neg a] at h ⊢
   by_cases b:digitB c=true
   ·rw [if_pos b];simp
   ·rw [if_neg b] at h ⊢
    by_cases d:pairB (c::l)=true
    ·rw [if_pos d];simp
    ·rw [if_neg d] at h ⊢
     by_cases e:signs.contains c=true
     ·rw [if_pos e];simp
     ·rw [if_neg e] at h;simp at h
def tokErr (kind:Int) (n:Nat) (c:UInt8):Int :=
 if kind=0 then 1
 else if ((kind=1∨kind=2)∧12 < n)∨(kind=3∧7 < n) then 2
 else if kind=3∧1 < n∧c=48 then 1
 else 0
def scanGo (s:ByteArray):Nat→Bool→Nat→Except (Int × Int) (List Tok)
 | 0,_,_=>.ok []
 | f + 1,note,i =>
  if h:i < s.size then
   if note || s[i] == 37 then scanGo s f (s[i] != 10) (i + 1)
   else if s[i] == 32 || s[i] == 9 || s[i] == 10 then scanGo s f false (i + 1)
   else
    let q:=tokAt (s.data.toList.drop i)
    if tokErr q.1 q.2 s[i]=0 then (scanGo s f false (i + q.2)).map (Tok.mk q.1 i (s.extract i (i + q.2))::·)
    else .error (i,tokErr q.1 q.2 s[i])
  else .ok []
theorem scanGo_fuel (s:ByteArray):∀ (f g:Nat) (note:Bool) (i:Nat),s.size - i≤f→s.size - i≤g→scanGo s f note i=scanGo s g note i:=by
 intro f
 induction f with
 | zero =>
  intro g note i h1 h2
  cases g with
  | zero=>rfl
  | succ g=>simp only [scanGo];rw [dif_neg (by omega)]
 | succ f ih =>
  intro g note i h1 h2
  cases g with
  | zero=>simp only [scanGo];rw [dif_neg (by omega)]
  | succ g =>
   simp only [scanGo]
   by_cases h:i < s.size
   ·rw [dif_pos h,dif_pos h]
    split
    ·exact ih g _ _ (by omega) (by omega)
    ·split
     ·exact ih g _ _ (by omega) (by omega)
     ·split
      ·rename_i he
       have hk:(tokAt (s.data.toList.drop i)).1≠0:=fun h0=>by simp [tokErr,h0] at he
       have:=tokAt_pos _ hk
       rw [ih g _ _ (by omega) (by omega)]
      ·rfl
   ·rw [dif_neg h,dif_neg h]
def scanAt (s:ByteArray) (note:Bool) (i:Nat):Except (Int × Int) (List Tok):=scanGo s (s.size - i) note i
theorem scanAt_end (s:ByteArray) (note:Bool) (i:Nat) (h:s.size≤i):scanAt s note i = .ok []:=by
 unfold scanAt
 rw [show s.size - i=0 by omega];rfl
theorem scanAt_note (s:ByteArray) (note:Bool) (i:Nat) (h:i < s.size) (hn:(note || s[i] == 37)=true):scanAt s note i=scanAt s (s[i] != 10) (i + 1):=by
 unfold scanAt
 rw [show s.size - i=(s.size - (i + 1)) + 1 by omega,scanGo,dif_pos h,if_pos hn]
theorem scanAt_blank (s:ByteArray) (i:Nat) (h:i < s.size) (hn:(s[i] == 37)=false) (hb:(s[i] == 32 || s[i] == 9 || s[i] == 10)=true):scanAt s false i=scanAt s false (i + 1):=by
 unfold scanAt
 rw [show s.size - i=(s.size - (i + 1)) + 1 by omega,scanGo,dif_pos h,if_neg (by simp [hn]),if_pos hb]
theorem scanAt_err (s:ByteArray) (i:Nat) (h:i < s.size) (hn:(s[i] == 37)=false) (hb:(s[i] == 32 || s[i] == 9 || s[i] == 10)=false) (he:tokErr (tokAt (s.data.toList.drop i)).1 (tokAt (s.data.toList.drop i)).2 s[i]≠0) :
  scanAt s false i = .error (i,tokErr (tokAt (s.data.toList.drop i)).1 (tokAt (s.data.toList.drop i)).2 s[i]):=by
 unfold scanAt
 rw [show s.size - i=(s.size - (i + 1)) + 1 by omega,scanGo,dif_pos h,if_neg (by simp [hn]),if_neg (by simp [hb])]
 exact if_neg he
theorem scanAt_tok (s:ByteArray) (i:Nat) (h:i < s.size) (hn:(s[i] == 37)=false) (hb:(s[i] == 32 || s[i] == 9 || s[i] == 10)=false) (he:tokErr (tokAt (s.data.toList.drop i)).1 (tokAt (s.data.toList.drop i)).2 s[i]=0) :
  scanAt s false i=(scanAt s false (i + (tokAt (s.data.toList.drop i)).2)).map (Tok.mk (tokAt (s.data.toList.drop i)).1 i (s.extract i (i + (tokAt (s.data.toList.drop i)).2))::·):=by
 have hk:(tokAt (s.data.toList.drop i)).1≠0:=fun h0=>by simp [tokErr,h0] at he
 have:=tokAt_pos _ hk
 unfold scanAt
 rw [scanGo_fuel s (s.size - i) ((s.size - (i + 1)) + 1) false i (Nat.le_refl _) (by omega)]
 rw [scanGo,dif_pos h,if_neg (by simp [hn]),if_neg (by simp [hb])]
 show (if _ then _ else _)=_
 rw [if_pos he,scanGo_fuel s (s.size - (i + 1)) (s.size - (i + (tokAt (s.data.toList.drop i)).2)) false _ (by omega) (Nat.le_refl _)]
def scanS (s:ByteArray):List Tok × Int × Int :=
 if 5000 < s.size then ([],0,2) else match scanAt s false 0 with
  | .ok l=>(l,0,0)
  | .error (p,e)=>([],p,e)
attribute [irreducible] smallB greatB digitB letterB alnumB pairB takeW tokAt tokErr scanGo scanAt scanS sameAll Tok.same
def encTok (t:Tok):List D:=[.int .i64 t.kind,.int .i64 t.at_,.str t.text]
def encToks (l:List Tok):D:=.slice 3 (l.map encTok)
abbrev FnD (dr:Bool) (f:FuncId) (args:List SV) (R:SV→Prop):Prop:=FnP dr Tryz.prog tab tab_ok f args R
abbrev Fn (f:FuncId) (args:List SV) (R:SV→Prop):Prop:=FnP false Tryz.prog tab tab_ok f args R
theorem byteAt (s:ByteArray) (i:Nat) (h:i < s.size):s.data.toList[i]'(by simpa using h)=s[i]'h:=by simp [ByteArray.getElem_eq_getElem_data]
structure UId where
 author:Int
 number:Int
structure Fct where
 pred:Int
 args:List Int
structure Upd where
 id:UId
 parents:List UId
 says:List Fct
 takes:List UId
def cmpI (a b:Int):Int:=if a < b then -1 else if b < a then 1 else 0
def ordL:List Int→List Int→Int
 | [],[]=>0
 | [],_::_=>-1
 | _::_,[]=>1
 | a::l,b::m=>if cmpI a b=0 then ordL l m else cmpI a b
def ordF (a b:Fct):Int:=if cmpI a.pred b.pred=0 then ordL a.args b.args else cmpI a.pred b.pred
def inR (n a b:Int):Bool:=decide (a≤n) && decide (n≤b)
def numB (n:Int):Bool:=inR n (-1000000) 1000000
def UId.same (a b:UId):Bool:=decide (a.author=b.author) && decide (a.number=b.number)
def putN (n:Nat):Nat→List UInt8
 | 0=>[]
 | k + 1=>UInt8.ofNat n::putN (n / 256) k
def put (n:Int) (k:Nat):List UInt8:=putN (n % 4294967296).toNat k
def sameL {α:Type} (p:α→α→Bool):List α→List α→Bool
 | [],[]=>true
 | x::xs,y::ys=>p x y && sameL p xs ys
 | _,_=>false
def Fct.same (x y:Fct):Bool:=decide (ordF x y=0)
def Upd.same (a b:Upd):Bool:=a.id.same b.id && (sameL UId.same a.parents b.parents && (sameL Fct.same a.says b.says && sameL UId.same a.takes b.takes))
theorem cmpI_self (a:Int):cmpI a a=0:=by unfold cmpI;rw [if_neg (by omega),if_neg (by omega)]
theorem cmpI_zero {a b:Int} (h:cmpI a b=0):a=b:=by
 unfold cmpI at h
 split at h
 ·cases h
 ·split at h
  ·cases h
  ·omega
theorem ordL_self:∀ l:List Int,ordL l l=0
 | []=>rfl
 | a::l=>by unfold ordL;rw [if_pos (cmpI_self a)];exact ordL_self l
theorem ordF_self (f:Fct):ordF f f=0:=by unfold ordF;rw [if_pos (cmpI_self _)];exact ordL_self _
theorem sameL_drop {α:Type} (p:α→α→Bool) (xs ys:List α) (k:Nat) (h1:k < xs.length) (h2:k < ys.length) :
  sameL p (xs.drop k) (ys.drop k)=(p xs[k] ys[k] && sameL p (xs.drop (k + 1)) (ys.drop (k + 1))):=by
 rw [List.drop_eq_getElem_cons h1,List.drop_eq_getElem_cons h2];rfl
theorem sameL_end {α:Type} (p:α→α→Bool) (xs ys:List α) (k:Nat) (h1:xs.length≤k) (h2:ys.length≤k) :
  sameL p (xs.drop k) (ys.drop k)=true:=by
 rw [List.drop_of_length_le h1,List.drop_of_length_le h2];rfl
theorem sameL_len {α:Type} (p:α→α→Bool):∀ (xs ys:List α),xs.length≠ys.length→sameL p xs ys=false
 | [],[],h=>absurd rfl h
 | [],_::_,_=>rfl
 | _::_,[],_=>rfl
 | x::xs,y::ys,h=>by rw [sameL,sameL_len p xs ys (fun e=>h (by simp [e])),Bool.and_false]
end Go.Proofs.YtapciiffpnociacGreat
