/- Several texts in one: GxVew RelK RelU MoP ScoA TokT TokU TokV TokW TokX TokY TokZ TokA. Condition: none. -/
import Derived.Test.YtapciiffpnociadGreatW10
import Derived.Test.YtapciiffpnociadGreatW09
namespace Go.Proofs.YtapciiffpnociadGreat
open Go Go.RowKit
section
variable {Γ : Ctx} {k : Nat} {L : Sl} {H H' : Hp} {Q : Post} {c : Code}
theorem ent_cut {i es n:Nat} {te:TypeId} {xs:List (List D)} (t:Nat) (hL:L.get t = .rsl i es 0 n) (hH:Hp.get H i=some (.row te es xs)) (hn:n≤xs.length) (hD:delF H i some=some H') :
  Ent Γ k L H (k + 1) ((t,.row k)::L) ((k,.row te es (xs.take n))::H'):=by
 rw [delF_eq] at hD
 cases hD
 intro e a w m
 have hs:=m.slot t
 rw [hL] at hs
 obtain⟨hd,hone,hcase⟩:=hs
 have hze:¬ e.dom k:=fun h=>lo_not k ((m.top k).1 h)
 obtain⟨vs,ho,hes,hone2,hrep⟩:=(m.heap _ (Hp.mem_of hH)).2
 generalize hv:a.tmps.getD t undef=v at hone hcase
 have hηk:(e.bindRow k v).η k=v:=if_pos rfl
 have hlen:(xs.take n).length=n:=by rw [List.length_take];omega
 have hown:w.ownsRow 0 te es v n (vs.take (n * es))∧v.ownBlock=(e.η i).ownBlock:=by
  have hvl:(vs.take (n * es)).length=n * es:=by rw [List.length_take,ho.1];exact Nat.min_eq_left (Nat.mul_le_mul_right _ hn)
  rcases hcase with ⟨hη,rfl,_,rfl⟩|⟨g,n0,cap,o,hη,_,hmx,hnc,rfl,hoo⟩
  ·exact⟨⟨hvl,.inl ⟨rfl,rfl⟩⟩,by rw [hη]⟩
  ·have h0:=hoo (.inr rfl)
   rw [Nat.zero_mul] at h0
   subst h0
   rcases ho.2 with ⟨hη2,_⟩|⟨g',cap',cur,hη2,hb,hh,h1,h2,h3,h4⟩
   ·rw [hη] at hη2;cases hη2
   ·rw [hη] at hη2
    cases hη2
    refine⟨⟨hvl,.inr ⟨g,cap,cur,by simp,hb,hh,by omega,h2,h3,?_⟩⟩,by rw [hη];rfl⟩
    rw [← h4,List.take_take,Nat.min_eq_left (Nat.mul_le_mul_right _ hn)]
 have m2:=m.trade (hb:=.row te es (xs.take n)) hH (lo_not k) (e':=e.bindRow k v) (w':=w) (fun i=>or_congr (m.top i) Iff.rfl) (e.bindRow_ext _ _ hze) (Nat.le_refl _) rfl rfl rfl (fun _=>Nat.le_refl _)
  (fun _ _ _=>rfl) (fun c hc=>by simp only [HB.owned,hηk] at hc;exact .inl (by simp only [HB.owned];rw [← hown.2];exact hc)) (fun hX=>by
   refine⟨vs.take (n * es),by rw [hηk,hlen];exact hown.1,fun j hj=>?_,fun u hu=>hone2 u (List.mem_of_mem_take hu),fun j hj q hq=>?_⟩
   ·rw [List.getElem_take];exact hes j _
   ·have hj':j < n:=by omega
    have hx:(xs.take n)[j]=xs[j]'(by omega):=List.getElem_take
    have hq':q < (xs[j]'(by omega)).length:=by rw [← hx];exact hq
    obtain⟨u,p1,p2⟩:=hrep j (by omega) q hq'
    have hqe:q < es:=by rw [← hes j (by omega)];exact hq'
    refine⟨u,?_,?_⟩
    ·rw [List.getElem?_take,if_pos,p1]
     have:(j + 1) * es≤n * es:=Nat.mul_le_mul_right _ hj'
     rw [Nat.add_mul,Nat.one_mul] at this
     omega
    ·have p3:RepC (Γ.X e H) w u ((xs.take n)[j][q]):=by simpa [hx] using p2
     exact RepC.keep (Nat.le_refl _) (fun _ _ _=>rfl) hX p3)
 have m3:=m2.cast (with1_lo k)
 refine⟨_,⟨m3.toHeap,m3.defers,m3.len,fun t'=>?_⟩⟩
 rw [Sl.get_cons]
 split
 ·rename_i ht
  subst ht
  rw [hv]
  exact⟨.inr rfl,hηk.symm,hone⟩
 ·exact m3.slot t'
end
section
variable {Γ : Ctx} {kk : Nat → Prop} {L : Sl} {H : Hp} {a : Act} {w : World} {e : Env}
theorem mid_get {α:Type} (xs ys:List α) (j p:Nat) (h:j + ys.length≤xs.length):(xs.take j++ys++xs.drop (j + ys.length))[p]? = if p < j then xs[p]? else if p < j + ys.length then ys[p - j]? else xs[p]?:=by
 have h1:(xs.take j).length=j:=by rw [List.length_take];omega
 by_cases hp:p < j
 ·rw [if_pos hp,List.append_assoc,List.getElem?_append_left (by omega),List.getElem?_take,if_pos hp]
 ·rw [if_neg hp]
  by_cases hq:p < j + ys.length
  ·rw [if_pos hq,List.append_assoc,List.getElem?_append_right (by omega),h1,List.getElem?_append_left (by omega)]
  ·rw [if_neg hq,List.getElem?_append_right (by rw [List.length_append];omega),List.length_append,h1,List.getElem?_drop]
   congr 1;omega
theorem row_write (m:Models Γ kk L H e a w) {i es j g0 n0 cap:Nat} {tb:TypeId} {xs ys:List (List D)} {N:List Value} {cur:Array Value} (hH:Hp.get H i=some (.row tb es xs)) (hj:j + ys.length≤xs.length)
  (hN:N.length=ys.length * es) (hyl:∀ p (hp:p < ys.length),(ys[p]'hp).length=es) (h1:∀ v∈N,v.oneCell' = true) (hr:∀ p (hp:p < ys.length) q (hq:q < (ys[p]'hp).length),∃ v,N[p * es + q]? = some v∧RepC (Γ.X e H) w v ((ys[p]'hp)[q]'hq))
  (hη:e.η i = .slice (some ⟨g0,0,none⟩) n0 cap) (hg:w.heap[g0]? = some (.cells cur tb (0,0))) :
  j * es + N.length≤cur.size∧Models Γ kk L (Hp.set H i (.row tb es (xs.take j++ys++xs.drop (j + ys.length)))) e a (w.setRow g0 (cur.toList.take (j * es)++N++cur.toList.drop (j * es + N.length)).toArray):=by
 have hmem:=Hp.mem_of hH
 obtain⟨vs,ho,hes,hone,hrep⟩:=(m.heap _ hmem).2
 rcases ho.2 with ⟨h2,_⟩|⟨g',cap',cur',h2,hb0,hg',hnc,hcm,hcs,htake⟩
 ·rw [hη] at h2;cases h2
 rw [hη] at h2
 cases h2
 rw [hg] at hg'
 cases hg'
 have hlen:vs.length=xs.length * es:=ho.1
 have hjr:j * es + N.length≤xs.length * es:=by rw [hN,← Nat.add_mul];exact Nat.mul_le_mul_right _ hj
 have hcl:xs.length * es≤cur.size:=by rw [hcs];exact Nat.mul_le_mul_right _ hnc
 have hown:∀ zs,HB.owned e (i,.row tb es zs)=some g0:=fun zs=>by simp [HB.owned,hη,Value.ownBlock]
 have hxl:(xs.take j++ys++xs.drop (j + ys.length)).length=xs.length:=by simp only [List.length_append,List.length_take,List.length_drop];omega
 refine⟨by omega,m.turn (b':=.row tb es (xs.take j++ys++xs.drop (j + ys.length))) hH ?_ rfl rfl rfl (fun _=>Nat.le_refl _) (fun c _ hc=>setRow_other w _ c _ (fun h=>hc (by rw [hown,h]))) (by rw [hown,hown]) ?_⟩
 ·simp [World.setRow]
 ·have hgo:(w.setRow g0 (cur.toList.take (j * es)++N++cur.toList.drop (j * es + N.length)).toArray).heap[g0]? = some (.cells (cur.toList.take (j * es)++N++cur.toList.drop (j * es + N.length)).toArray tb (0,0)):=setRow_heap w g0 cur _ tb (0,0) hg
  have hkeep:∀ b,b < w.heap.size→¬ Γ.X e H b→(w.setRow g0 (cur.toList.take (j * es)++N++cur.toList.drop (j * es + N.length)).toArray).heap[b]? = w.heap[b]?:=fun b _ hb=>setRow_other w _ b _ (fun h=>hb (.inr (List.mem_filterMap.2 ⟨_,hmem,by rw [hown,h]⟩)))
  refine⟨vs.take (j * es)++N++vs.drop (j * es + N.length),⟨?_,.inr ⟨g0,cap,_,?_,hb0,hgo,?_,hcm,?_,?_⟩⟩,fun p hp=>?_,fun v hv=>?_,fun p hp q hq=>?_⟩
  ·rw [hxl];simp only [List.length_append,List.length_take,List.length_drop];omega
  ·rw [hxl];exact hη
  ·rw [hxl];exact hnc
  ·rw [← hcs]
   simp only [List.size_toArray,List.length_append,List.length_take,List.length_drop,Array.length_toList]
   omega
  ·rw [hxl]
   apply List.ext_getElem?
   intro p
   rw [List.getElem?_take]
   by_cases hp':p < xs.length * es
   ·have hcv:cur.toList[p]? = vs[p]?:=by rw [← htake,List.getElem?_take,if_pos hp']
    rw [if_pos hp',mid_get _ _ _ _ (by have:=Array.length_toList (xs:=cur);omega),mid_get _ _ _ _ (by omega),hcv]
   ·rw [if_neg hp',List.getElem?_eq_none (by
     have:vs.length≤p:=by omega
     have h9:(vs.take (j * es)++N++vs.drop (j * es + N.length)).length=vs.length:=by simp only [List.length_append,List.length_take,List.length_drop];omega
     omega)]
  ·have hgt:=mid_get xs ys j p hj
   rw [List.getElem?_eq_getElem hp] at hgt
   split at hgt
   ·obtain⟨h3,h4⟩:=List.getElem?_eq_some_iff.1 hgt.symm;rw [← h4];exact hes p h3
   ·split at hgt
    ·obtain⟨h3,h4⟩:=List.getElem?_eq_some_iff.1 hgt.symm;rw [← h4];exact hyl _ h3
    ·obtain⟨h3,h4⟩:=List.getElem?_eq_some_iff.1 hgt.symm;rw [← h4];exact hes p h3
  ·simp only [List.mem_append] at hv
   rcases hv with (hv|hv)|hv
   ·exact hone v (List.mem_of_mem_take hv)
   ·exact h1 v hv
   ·exact hone v (List.mem_of_mem_drop hv)
  ·have hgt:=mid_get xs ys j p hj
   rw [List.getElem?_eq_getElem hp] at hgt
   have hpx:p < xs.length:=by omega
   generalize hz:(xs.take j++ys++xs.drop (j + ys.length))[p]=z at hgt hq
   have key:∀ {v:Value} {x:D},RepC (Γ.X e H) w v x→RepC (Γ.X e H) (w.setRow g0 (cur.toList.take (j * es)++N++cur.toList.drop (j * es + N.length)).toArray) v x:=fun h=>RepC.keep (by simp [World.setRow]) hkeep (fun _ _ h=>h) h
   have hle:∀ c,p < c→q < es→p * es + q < c * es:=fun c hc hqe=>by
    have:(p + 1) * es≤c * es:=Nat.mul_le_mul_right _ hc
    rw [Nat.add_mul] at this;omega
   split at hgt
   ·rename_i hpj
    obtain⟨h3,h4⟩:=List.getElem?_eq_some_iff.1 hgt.symm
    subst h4
    obtain⟨v,p1,p2⟩:=hrep p h3 q hq
    have hqe:q < es:=by rw [← hes p h3];exact hq
    exact⟨v,by rw [mid_get _ _ _ _ (by omega),if_pos (hle j hpj hqe)];exact p1,key p2⟩
   ·rename_i hpj
    split at hgt
    ·rename_i hpy
     obtain⟨h3,h4⟩:=List.getElem?_eq_some_iff.1 hgt.symm
     subst h4
     obtain⟨v,p1,p2⟩:=hr (p - j) h3 q hq
     have hqe:q < es:=by rw [← hyl (p - j) h3];exact hq
     have e1:p * es=j * es + (p - j) * es:=by rw [← Nat.add_mul];congr 1;omega
     have e2:(p - j) * es + q < N.length:=by
      rw [hN]
      have:(p - j + 1) * es≤ys.length * es:=Nat.mul_le_mul_right _ (by omega)
      rw [Nat.add_mul] at this;omega
     exact⟨v,by rw [mid_get _ _ _ _ (by omega),if_neg (by omega),if_pos (by omega),show p * es + q - j * es=(p - j) * es + q by omega];exact p1,key p2⟩
    ·rename_i hpy
     obtain⟨h3,h4⟩:=List.getElem?_eq_some_iff.1 hgt.symm
     subst h4
     obtain⟨v,p1,p2⟩:=hrep p h3 q hq
     have e1:(j + ys.length) * es≤p * es:=Nat.mul_le_mul_right _ (by omega)
     rw [Nat.add_mul] at e1
     exact⟨v,by rw [mid_get _ _ _ _ (by omega),if_neg (by omega),if_neg (by omega)];exact p1,key p2⟩
end
theorem flatten_rep {α:Type} (z:List α):∀ (n i j:Nat),i < n→j < z.length→(List.replicate n z).flatten[i * z.length + j]? = z[j]?
 | 0,_,_,h,_=>by omega
 | n + 1,0,j,_,hj=>by rw [List.replicate_succ,List.flatten_cons,Nat.zero_mul,Nat.zero_add,List.getElem?_append_left hj]
 | n + 1,i + 1,j,hi,hj=>by
  have h1:(i + 1) * z.length + j=z.length + (i * z.length + j):=by rw [Nat.add_mul];omega
  rw [List.replicate_succ,List.flatten_cons,h1,List.getElem?_append_right (by omega),Nat.add_sub_cancel_left,flatten_rep z n i j (by omega) hj]
def zeroIs:List Value→List D→Prop
 | [],[]=>True
 | v::vs,d::ds=>(cSV v = .d d∨(cSV v = .nils∧∃ es,d = .slice es []))∧zeroIs vs ds
 | _,_=>False
theorem zeroIs_spec {X:Nat→Prop} {e:Env} {w:World}:∀ {vs:List Value} {ds:List D},zeroIs vs ds→RelL X e w (vs.map cSV) vs→vs.length=ds.length∧∀ q (hq:q < ds.length),∃ v,vs[q]? = some v∧RepC X w v ds[q]
 | [],[],_,_=>⟨rfl,fun q hq=>by simp at hq⟩
 | [],_::_,h,_=>h.elim
 | _::_,[],h,_=>h.elim
 | v::vs,d::ds,⟨h1,h2⟩,⟨g1,g2⟩=>by
  obtain⟨i1,i2⟩:=zeroIs_spec h2 g2
  refine⟨by simp [i1],fun q hq=>?_⟩
  cases q with
  | zero =>
   refine⟨v,rfl,?_⟩
   rcases h1 with h1|⟨h1,es,h3⟩
   ·rw [h1] at g1;exact g1
   ·rw [h1] at g1
    have g1:v = .slice none 0 0:=g1
    subst g1
    show RepC X w _ d
    rw [h3];exact .nil
  | succ q =>
   obtain⟨u,u1,u2⟩:=i2 q (by simpa using hq)
   exact⟨u,by simpa using u1,by simpa using u2⟩
theorem zeroCells_list (z:Array Value) (n:Nat) (hz:0 < z.size):(Builtin.zeroCells z n).toList=(List.replicate n z.toList).flatten:=by
 apply List.ext_getElem?
 intro p
 have hfl:((List.replicate n z.toList)).flatten.length=n * z.size:=by simp
 by_cases hp:p < n * z.size
 ·have h1:p / z.size < n:=Nat.div_lt_of_lt_mul (by rw [Nat.mul_comm];exact hp)
  have h2:=flatten_rep z.toList n (p / z.size) (p % z.size) h1 (by rw [Array.length_toList];exact Nat.mod_lt _ hz)
  rw [Array.length_toList,Nat.div_add_mod'] at h2
  rw [h2]
  simp [Builtin.zeroCells,hp,getElem!_pos,Nat.mod_lt _ hz]
 ·rw [List.getElem?_eq_none (by simp [Builtin.zeroCells];omega),List.getElem?_eq_none (by omega)]
section
variable {Γ : Ctx} {k : Nat} {L : Sl} {H H' : Hp} {K : Next'} {ops : List Oper} {rest : List Oper} {t : TypeId}
theorem ds_clear (zs:List D) {tb te ty:TypeId} {pos:String} {af:Array Edge} {g:Option (Nat × Bool)} {i es j n:Nat} {xs:List (List D)} {x:Operand} (hx:opSV L x = .rsl i es j n) (hH:Hp.get H i=some (.row tb es xs)) (ht:(tiGet Γ.τ t).sh = .slice te) (hkn:(tiGet Γ.τ te).sh.known=true)
  (hz:zeroIs (tiGet Γ.τ te).zero zs) (hzok:zeroOk (tiGet Γ.τ te).zero=true) (hzl:(tiGet Γ.τ te).zero.length=es) (he:0 < es) (hpos:0 < n) (hjn:j + n≤xs.length) (hw:wantedSV ops L g=some true)
  (hS:setF H i (.row tb es (xs.take j++List.replicate n zs++xs.drop (j + n))) some=some H') (hk:DS false Γ ops rest K k L H') :
  DS false Γ ops (⟨none,.call { callee:=.builtin .clear,args:=#[x],argTypes:=#[t] },ty,pos,af,g⟩::rest) K k L H:=by
 rw [setF_eq] at hS
 cases hS
 refine dl_run hw fun e a w m=>?_
 obtain⟨inf,z,hi,hzz,hs,_,hzc⟩:=Ctx.info (Sh.known_ne hkn)
 obtain⟨_,_,hcs⟩:=evT m hx (cSV_rsl · _ _ _ _)
 have hzsz:z.cells.size=es:=by rw [← Array.length_toList,hzc,hzl]
 rcases hcs with ⟨_,_,_,rfl⟩|⟨g0,n0,cap,o,hη,hkc,hmx,hnc,hv,ho⟩
 ·omega
 have:=ho (.inl (by omega))
 subst this
 obtain⟨vs,hown,hes',_,_⟩:=(m.heap _ (Hp.mem_of hH)).2
 rcases hown.2 with ⟨h2,_⟩|⟨g',cap',cur,h2,_,hg,_,_,hcsz,_⟩
 ·rw [hη] at h2;cases h2
 rw [hη] at h2
 cases h2
 have hzr:=zeroOk_spec (X:=Γ.X e H) (e:=e) (w:=w) _ hzok
 obtain⟨zl,zr⟩:=zeroIs_spec hz hzr.1
 have hN:=zeroCells_list z.cells n (by omega)
 have hNl:(Builtin.zeroCells z.cells n).toList.length=n * es:=by simp [Builtin.zeroCells,hzsz]
 have hyl:(List.replicate n zs).length=n:=List.length_replicate
 have hone:∀ v∈(Builtin.zeroCells z.cells n).toList,v.oneCell' = true:=fun v hv=>hzr.2 v (by rw [← hzc];exact zeroCells_mem hv)
 obtain⟨hfit,m2⟩:=row_write m hH (j:=j) (ys:=List.replicate n zs) (N:=(Builtin.zeroCells z.cells n).toList) (by rw [hyl];exact hjn) (by rw [hNl,hyl]) (fun p hp=>by rw [List.getElem_replicate,← zl,hzl]) hone (fun p hp q hq=>by
  have hq':q < zs.length:=by simpa using hq
  obtain⟨v,q1,q2⟩:=zr q hq'
  refine⟨v,?_,by simpa using q2⟩
  have hqe:q < es:=by rw [← hzl,zl];exact hq'
  rw [hN,← hzsz,← Array.length_toList,flatten_rep _ _ _ _ (by simpa using hp) (by rw [Array.length_toList,hzsz];exact hqe),hzc]
  exact q1) hη hg
 rw [hyl] at m2
 have hst:=run_storeCells_at Γ.P g0 (j * es) tb (Builtin.zeroCells z.cells n).toList 0 cur w hg (by simpa using hfit) hone
 have hrun:(execOp a.eval ⟨none,.call { callee:=.builtin .clear,args:=#[x],argTypes:=#[t] },ty,pos,af,g⟩).run Γ.P w = .ok (.value (.tuple #[])) (w.setRow g0 (cur.toList.take (j * es)++(Builtin.zeroCells z.cells n).toList++cur.toList.drop (j * es + (Builtin.zeroCells z.cells n).toList.length)).toArray):=by
  have hzv:(zeroValue te).run Γ.P w = .ok z w:=by
   simp [zeroValue,typeInfo,hi,hzz]
  obtain⟨n',rfl⟩:∃ n',n=n' + 1:=⟨n - 1,by omega⟩
  simp only [Nat.add_zero] at hst
  simp [execOp,resolve,invoke,builtin,hv,Builtin.clear_,run_underlying (Ctx.slice ht),hzv,hst]
 unfold Oper.wp
 rw [hrun]
 exact⟨k,L,_,e,m2,hk⟩
end
theorem run_append_make {P:Program} (w:World) (t ti ty e:TypeId) (i:TypeInfo) (z:Value) (ht:P.underlying t=some (.slice e)) (hti:P.underlying ti=some (.int .i64)) (hi:P.info? e=some i) (hz:i.zero=some z)
  (n:Nat) (h0:0 < n) (h63:(n:Int)≤9223372036854775807) (h48:n * i.bytes≤281474976710656) (hs:i.size≠0) :
  (Builtin.append_ #[t,ti] ty #[.slice none 0 0,.int .i64 n]).run P w =
   .ok (.slice (some ⟨w.heap.size,0,none⟩) n (grownCap w n 0 e)) (w.drew.alloc (.cells (Builtin.zeroCells z.cells n++Builtin.zeroCells z.cells (grownCap w n 0 e - n)) e)):=by
 have hn:n≠0:=by omega
 have h63':¬ (9223372036854775807 < (n:Int)):=by omega
 have h48':¬ (281474976710656 < Builtin.nextslicecap n 0 * i.bytes):=by rw [nextslicecap_zero h0];omega
 have hw:IntKind.i64.wrap (n:Int)=n:=by simp [IntKind.wrap,IntKind.bits,IntKind.signed];omega
 have hl:¬ ((n:Int) < 0):=by omega
 have hb:¬ (281474976710656 < (n:Int) * (i.bytes:Int)):=by
  have:((n * i.bytes:Nat):Int)≤281474976710656:=by omega
  rw [Int.natCast_mul] at this;omega
 simp [Builtin.append_,asInt,asIntOf,run_underlying ht,run_underlying hti,sizeOf,typeInfo,zeroValue,hi,hz,hw,hl,hb,hn,h63',h48',Question.forced,run_firstCells_none,newRow,grownCap]
 intro h
 exact absurd h (Nat.mul_ne_zero hn hs)
section
variable {Γ : Ctx} {k : Nat} {L : Sl} {H : Hp} {K : Next'} {ops : List Oper} {rest : List Oper} {t : TypeId}
theorem evNils {kk:Nat→Prop} {a:Act} {w:World} {e:Env} (m:Models Γ kk L H e a w) {x:Operand} (hx:opSV L x = .nils):a.eval x = .slice none 0 0:=by
 have hok:opOk x:=by
  cases x with
  | const v=>simp only [opSV] at hx;unfold cSV at hx;split at hx <;> simp_all [opOk,cOk]
  | _=>trivial
 have:=m.op x hok
 rw [hx] at this;exact this
theorem ds_apmk (zs:List D) {d n es:Nat} {te ti ty:TypeId} {pos:String} {af:Array Edge} {g:Option (Nat × Bool)} {x y:Operand} {m':Int} (hx:opSV L x = .nils) (hy:opSV L y = .d (.int .i64 m')) (hn:m' = (n:Int)) (ht:(tiGet Γ.τ t).sh = .slice te) (hti:(tiGet Γ.τ ti).sh = .int .i64)
  (hkn:(tiGet Γ.τ te).sh.known=true) (hes:(tiGet Γ.τ te).cells=es) (hz:zeroIs (tiGet Γ.τ te).zero zs) (hzok:zeroOk (tiGet Γ.τ te).zero=true) (hzl:(tiGet Γ.τ te).zero.length=es) (he:0 < es) (h0:0 < n) (hroom:n * (tiGet Γ.τ te).bytes≤281474976710656) (h63:n≤maxLen)
  (hw:wantedSV ops L g=some true) (hd:Nat.blt d Γ.n=true) (hk:DS false Γ ops rest K (k + 1) ((d,.row k)::L) ((k,.row te es (List.replicate n zs))::H)) :
  DS false Γ ops (⟨some d,.call { callee:=.builtin .append,args:=#[x,y],argTypes:=#[t,ti] },ty,pos,af,g⟩::rest) K k L H:=by
 subst hn
 refine dl_run hw fun e a w m=>?_
 obtain⟨inf,z,hi,hzz,hs,hb,hzc⟩:=Ctx.info (Sh.known_ne hkn)
 have hzsz:z.cells.size=es:=by rw [← Array.length_toList,hzc,hzl]
 have hti':Γ.P.underlying ti=some (.int .i64):=by
  have hti2:Γ.sh ti = .int .i64:=hti
  obtain⟨u,inf,z,h1,_,_,h4,_⟩:=ti_parts (Γ.ti (t:=ti) (by rw [hti2];intro h;cases h))
  rw [h1]
  have h5:shOf Γ.P u = .int .i64:=h4▸hti2
  cases u <;> simp [shOf] at h5 ⊢
  exact h5
 have hrun:=run_append_make (P:=Γ.P) w t ti ty te inf z (Ctx.slice ht) hti' hi hzz n h0 (by unfold maxLen at h63;omega) (by rw [hb];exact hroom) (by rw [hs];have:Γ.cells te=es:=hes;omega)
 have hge:=grownCap_ge w n 0 te
 have hcm:=grownCap_le_maxLen w n 0 te h63
 generalize grownCap w n 0 te=c at hrun hge hcm
 have hop:(execOp a.eval ⟨some d,.call { callee:=.builtin .append,args:=#[x,y],argTypes:=#[t,ti] },ty,pos,af,g⟩).run Γ.P w = .ok (.value (.slice (some ⟨w.heap.size,0,none⟩) n c)) (w.drew.alloc (.cells (Builtin.zeroCells z.cells n++Builtin.zeroCells z.cells (c - n)) te)):=by
  simp only [execOp,resolve,invoke,builtin,Sem.run_bind,Sem.run_pure,Result.andThen_ok,List.map_toArray,List.map_cons,List.map_nil,evNils m hx,evI m hy,hrun]
 unfold Oper.wp
 rw [hop]
 have m1:Models Γ (lo k) L H e a w.drew:=m.below ((Beld.refl _ _ _).drew)
 have hze:¬ e.dom k:=fun h=>lo_not k ((m.top k).1 h)
 have hη:(e.bindRow k (.slice (some ⟨w.heap.size,0,none⟩) n c)).η k = .slice (some ⟨w.heap.size,0,none⟩) n c:=if_pos rfl
 have hNl:(Builtin.zeroCells z.cells n).toList.length=n * es:=by simp [Builtin.zeroCells,hzsz]
 have hfl:=zeroCells_list z.cells n (by omega)
 have m2:=m1.new (lo_not k) (hb:=.row te es (List.replicate n zs)) (e':=e.bindRow k (.slice (some ⟨w.heap.size,0,none⟩) n c)) (w':=w.drew.alloc (.cells (Builtin.zeroCells z.cells n++Builtin.zeroCells z.cells (c - n)) te)) (fun i=>or_congr (m.top i) Iff.rfl) (e.bindRow_ext _ _ hze) (below_alloc Γ.dr _ _)
  (fun b hb=>by simp only [HB.owned,hη,Value.ownBlock,Option.some.injEq] at hb;subst hb;exact Nat.le_refl _) (fun hX=>by
   have hzr:=zeroOk_spec (X:=Γ.X (e.bindRow k (.slice (some ⟨w.heap.size,0,none⟩) n c)) ((k,.row te es (List.replicate n zs))::H)) (e:=e) (w:=w.drew.alloc (.cells (Builtin.zeroCells z.cells n++Builtin.zeroCells z.cells (c - n)) te)) _ hzok
   obtain⟨zl,zr⟩:=zeroIs_spec hz hzr.1
   refine⟨(Builtin.zeroCells z.cells n).toList,⟨by rw [hNl,List.length_replicate],.inr ⟨w.heap.size,c,_,by rw [hη,List.length_replicate],Nat.zero_le _,heap_alloc_new w.drew _,by rw [List.length_replicate];exact hge,hcm,?_,?_⟩⟩,fun p hp=>by rw [List.getElem_replicate,← zl,hzl],fun v hv=>hzr.2 v (by rw [← hzc];exact zeroCells_mem hv),fun p hp q hq=>?_⟩
   ·simp [Builtin.zeroCells,hzsz,← Nat.add_mul];congr 1;omega
   ·rw [List.length_replicate,Array.toList_append,List.take_append_of_le_length (by rw [hNl];exact Nat.le_refl _),List.take_of_length_le (by rw [hNl];exact Nat.le_refl _)]
   ·have hq':q < zs.length:=by simpa using hq
    obtain⟨v,q1,q2⟩:=zr q hq'
    refine⟨v,?_,by simpa using q2⟩
    have hqe:q < es:=by rw [← hzl,zl];exact hq'
    rw [hfl,← hzsz,← Array.length_toList,flatten_rep _ _ _ _ (by simpa using hp) (by rw [Array.length_toList,hzsz];exact hqe),hzc]
    exact q1)
 have m3:=m2.cast (with1_lo k)
 exact⟨k + 1,_,_,_,m3.put (s:=.row k) (v:=.slice (some ⟨w.heap.size,0,none⟩) n c) (Nat.le_of_ble_eq_true hd) ⟨.inr rfl,hη.symm,rfl⟩,hk⟩
theorem ev_cap_nils {kk:Nat→Prop} {te ty:TypeId} {x:Operand} (ht:Γ.sh t = .slice te) (hx:opSV L x = .nils):Ev Γ kk L H (.call { callee:=.builtin .cap,args:=#[x],argTypes:=#[t] }) ty (.d (.int .i64 0)):=by
 intro e a w m
 have hv:=evNils m hx
 refine⟨.int .i64 0,fun _ _ _ _ w' _=>?_,.int (by decide)⟩
 simp [execOp,resolve,invoke,builtin,hv,Builtin.cap_,goInt,run_underlying (Ctx.slice ht)]
end
attribute [local irreducible] DW DS DL DQ Ev FnOk FnP thenD inBlockD DT
def cmpG (p:Fct):List Fct→List Fct
 | []=>[]
 | y::l=>if ordF y p=0 then cmpG y l else y::cmpG y l
def cmpF:List Fct→List Fct
 | []=>[]
 | x::l=>x::cmpG x l
theorem cmpG_snoc:∀ (l:List Fct) (p y:Fct),cmpG p (l++[y])=cmpG p l++(if ordF y ((p::l).getLast (by simp))=0 then [] else [y])
 | [],p,y=>by
  show (if ordF y p=0 then cmpG y [] else y::cmpG y [])=[]++_
  rfl
 | x::l,p,y=>by
  rw [List.cons_append]
  simp only [cmpG]
  rw [cmpG_snoc l x y,List.getLast_cons (by simp:x::l≠[])]
  split <;> simp
theorem cmpF_take {l:List Fct} {n:Nat} (h0:0 < n) (hn:n < l.length):cmpF (l.take (n + 1))=cmpF (l.take n)++(if ordF l[n] (l[n - 1]'(by omega))=0 then [] else [l[n]]):=by
 rw [List.take_succ_eq_append_getElem hn]
 have hne:l.take n≠[]:=by
  intro h
  have:=congrArg List.length h
  rw [List.length_take,List.length_nil] at this
  omega
 obtain⟨x,r,hx⟩:=List.exists_cons_of_ne_nil hne
 have hl:(l.take n).getLast hne=l[n - 1]'(by omega):=by
  rw [List.getLast_eq_getElem,List.getElem_take]
  have:(l.take n).length - 1=n - 1:=by rw [List.length_take,Nat.min_eq_left (by omega)]
  simp only [this]
 simp only [hx,List.cons_append,cmpF]
 rw [cmpG_snoc]
 have:(x::r).getLast (by simp)=l[n - 1]'(by omega):=by rw [← hl];congr 1;exact hx.symm
 rw [this]
theorem cmpF_one {l:List Fct} (h:l.length≤1):cmpF l=l:=by
 match l,h with
 | [],_=>rfl
 | [x],_=>rfl
set_option maxHeartbeats 8000000 in
theorem compact_fn (l:List Fct) (hl:l.length≤4398046511104):FnOk false Tryz.prog tab tab_ok 134 [.row 0,.fn 108 []] 0 1 [(0,.row 37 2 (l.map encFct))] (fun _ r H=>r = .d (.slice 2 ((cmpF l).map encFct))∧H=[]):=by
 refine fn_enterF _ Tryz.func134 rfl rfl (by kernel_rfl) ?_
 intro O w0 E0 β0
 have ll:(l.map encFct).length=l.length:=List.length_map _
 by_cases h2:l.length < 2
 ·rw [cmpF_one (by omega)]
  repeat' (first|refine z0 ?_|apply ds_nil|apply dw_seq2|refine z16 ?_|apply dw_block|apply dw_skip|apply thenD_n|(refine z23 ?_ ?_ <;> intro hg)|fail)
  all_goals try (exfalso;omega)
  refine dw_ent (ent_seal 4 rfl rfl rfl) ?_
  repeat' (first|apply dw_ret|apply thenD_r)
  exact⟨.inl rfl,_,rfl,0,[],trivial,rfl,rfl,rfl,rfl,rfl,rfl⟩
 ·repeat' (first|refine z0 ?_|apply ds_nil|apply dw_seq2|refine z16 ?_|apply dw_block|apply dw_skip|apply thenD_n|(refine z23 ?_ ?_ <;> intro hg)|fail)
  all_goals try (exfalso;omega)
  refine ds_loop (ι:=Nat) (fun i=>⟨1,[(0,.row 0),(1,.fn 108 []),(5,.d (.int .i64 i))],[(0,.row 37 2 (l.map encFct))]⟩)
   (fun i=>1≤i∧i≤l.length∧cmpF (l.take i)=l.take i) (fun i=>l.length - i) 1 ⟨by omega,by omega,cmpF_one (by rw [List.length_take];omega)⟩ (ent_ren id ⟨rfl,rfl,rfl,trivial⟩ ⟨rfl,trivial⟩ rfl rfl rfl rfl rfl rfl) ?_
  rintro i ⟨g0,g1,g2⟩
  by_cases hi:i < l.length
  ·have hs:Fn 108 [elFct l[i],elFct (l[((i:Int) - 1).toNat]'(by omega))] (fun r=>r = .d (.bool (decide (ordF l[i] (l[i - 1]'(by omega))=0)))):=by
    have e:((i:Int) - 1).toNat=i - 1:=by omega
    simp only [e]
    exact rsame_fn _ _
   have ht:=cmpF_take (by omega:0 < i) hi
   cases hb:decide (ordF l[i] (l[i - 1]'(by omega))=0) with
   | false =>
    have hb':=of_decide_eq_false hb
    rw [hb] at hs
    rw [if_neg hb',g2,← List.take_succ_eq_append_getElem hi] at ht
    repeat' (first|refine z0 ?_|apply ds_nil|refine z5 ?_|refine z10 ?_|apply dw_seq2|refine z16 ?_|refine z20 ?_|apply dw_block|apply dw_skip|apply dw_exit|refine z19 ?_|apply thenD_n|apply thenD_e|apply inB_n|refine z17 ?_|(apply dt_callV;exact rfl;exact rfl;exact rfl;exact rfl;apply hs;exact rfl;(exact rfl);exact rfl;exact rfl;exact⟨_,rfl⟩;rintro _ rfl)|(refine z23 ?_ ?_ <;> intro hg)|fail)
    all_goals try (exfalso;omega)
    exact⟨i + 1,⟨by omega,by omega,ht⟩,ent_ren id ⟨rfl,rfl,rfl,trivial⟩ ⟨rfl,trivial⟩ rfl rfl rfl rfl rfl rfl,by show l.length - (i + 1) < l.length - i;omega⟩
   | true =>
    have hb':=of_decide_eq_true hb
    rw [hb] at hs
    rw [if_pos hb',List.append_nil] at ht
    repeat' (first|refine z0 ?_|apply ds_nil|refine z5 ?_|refine z10 ?_|apply dw_seq2|refine z16 ?_|refine z20 ?_|apply dw_block|apply dw_skip|apply dw_exit|refine z18 ?_|apply thenD_n|apply thenD_e|refine z17 ?_|(apply dt_callV;exact rfl;exact rfl;exact rfl;exact rfl;apply hs;exact rfl;(exact rfl);exact rfl;exact rfl;exact⟨_,rfl⟩;rintro _ rfl)|(refine z23 ?_ ?_ <;> intro hg)|fail)
    all_goals try (exfalso;omega)
    refine ds_loop (ι:=Nat × Nat × List Fct) (fun x=>⟨1,[(0,.row 0),(1,.fn 108 []),(5,.d (.int .i64 x.1)),(6,.rsl 0 2 i ((l.map encFct).length - i)),(7,.d (.int .i64 x.2.1))],[(0,.row 37 2 (x.2.2.map encFct))]⟩)
     (fun x=>x.2.2.length=l.length∧1≤x.2.1∧x.2.1≤l.length - i∧i≤x.1∧x.1 + 1≤i + x.2.1∧x.2.2.take x.1=cmpF (l.take (i + x.2.1))∧∀ p,i + x.2.1≤p + 1→x.2.2[p]? = l[p]?) (fun x=>l.length - i - x.2.1)
     (i,1,l) ⟨rfl,by dsimp only;omega,by dsimp only;omega,by dsimp only;omega,by dsimp only;omega,by rw [ht,g2],fun _ _=>rfl⟩ (ent_ren id ⟨rfl,rfl,rfl,rfl,rfl,trivial⟩ ⟨rfl,trivial⟩ rfl rfl rfl rfl rfl rfl) ?_
    rintro⟨u,k,o⟩ ⟨q1,q2,q3,q4,q5,q6,q7⟩
    dsimp only at q1 q2 q3 q4 q5 q6 q7 ⊢
    have lo:(o.map encFct).length=o.length:=List.length_map _
    clear hs
    by_cases hk:k < l.length - i
    ·have o1:o[i + k]'(by omega)=l[i + k]'(by omega):=by
      have:=q7 (i + k) (by omega)
      rw [List.getElem?_eq_getElem (by omega),List.getElem?_eq_getElem (by omega)] at this
      exact Option.some.inj this
     have o2:o[i + k - 1]'(by omega)=l[i + k - 1]'(by omega):=by
      have:=q7 (i + k - 1) (by omega)
      rw [List.getElem?_eq_getElem (by omega),List.getElem?_eq_getElem (by omega)] at this
      exact Option.some.inj this
     have hs:Fn 108 [elFct (o[i + k]'(by omega)),elFct (o[i + ((k:Int) - 1).toNat]'(by omega))] (fun r=>r = .d (.bool (decide (ordF (l[i + k]'(by omega)) (l[i + k - 1]'(by omega))=0)))):=by
      have e:i + ((k:Int) - 1).toNat=i + k - 1:=by omega
      simp only [e,o1,o2]
      exact rsame_fn _ _
     have hc:=cmpF_take (l:=l) (n:=i + k) (by omega) (by omega)
     cases hb2:decide (ordF (l[i + k]'(by omega)) (l[i + k - 1]'(by omega))=0) with
     | true =>
      have hb3:=of_decide_eq_true hb2
      rw [hb2] at hs
      rw [if_pos hb3,List.append_nil] at hc
      repeat' (first|refine z0 ?_|apply ds_nil|refine z5 ?_|refine z10 ?_|apply dw_seq2|refine z16 ?_|refine z20 ?_|apply dw_block|apply dw_skip|apply dw_exit|refine z19 ?_|apply thenD_n|apply thenD_e|apply inB_n|refine z17 ?_|(apply dt_callV;exact rfl;exact rfl;exact rfl;exact rfl;apply hs;exact rfl;(exact rfl);exact rfl;exact rfl;exact⟨_,rfl⟩;rintro _ rfl)|(refine z23 ?_ ?_ <;> intro hg)|fail)
      all_goals try (exfalso;omega)
      exact⟨(u,k + 1,o),⟨q1,by dsimp only;omega,by dsimp only;omega,by dsimp only;omega,by dsimp only;omega,by dsimp only;rw [q6];exact hc.symm,fun p hp=>q7 p (by dsimp only at hp;omega)⟩,ent_ren id ⟨rfl,rfl,rfl,rfl,rfl,trivial⟩ ⟨rfl,trivial⟩ rfl rfl rfl rfl rfl rfl,by show l.length - i - (k + 1) < l.length - i - k;omega⟩
     | false =>
      have hb3:=of_decide_eq_false hb2
      rw [hb2] at hs
      rw [if_neg hb3] at hc
      repeat' (first|refine z0 ?_|apply ds_nil|(apply ds_stP;exact rfl;exact rfl;(apply hv_get;(omega));exact rfl;exact rfl;(exact hv_set rfl);exact rfl;exact rfl;exact rfl;exact rfl;exact rfl;exact rfl)|refine z5 ?_|refine z10 ?_|apply dw_seq2|refine z16 ?_|refine z20 ?_|apply dw_block|apply dw_skip|apply dw_exit|refine z18 ?_|apply thenD_n|apply thenD_e|apply inB_n|refine z17 ?_|(apply dt_callV;exact rfl;exact rfl;exact rfl;exact rfl;apply hs;exact rfl;(exact rfl);exact rfl;exact rfl;exact⟨_,rfl⟩;rintro _ rfl)|(refine z23 ?_ ?_ <;> intro hg)|fail)
      all_goals try (exfalso;omega)
      refine⟨(u + 1,k + 1,o.set u (o[i + k]'(by omega))),⟨by dsimp only;rw [List.length_set];exact q1,by dsimp only;omega,by dsimp only;omega,by dsimp only;omega,by dsimp only;omega,?_,fun p hp=>?_⟩,ent_ren id ⟨rfl,rfl,rfl,rfl,rfl,trivial⟩ ⟨rfl,trivial⟩ rfl rfl rfl rfl rfl rfl,by show l.length - i - (k + 1) < l.length - i - k;omega⟩
      ·dsimp only
       rw [List.take_succ_eq_append_getElem (by rw [List.length_set];omega),List.getElem_set_self,List.take_set,List.set_eq_of_length_le (by rw [List.length_take];omega),q6,o1]
       exact hc.symm
      ·dsimp only at hp ⊢
       rw [List.getElem?_set_ne (by omega)]
       exact q7 p (by omega)
    ·repeat' (first|refine z0 ?_|apply ds_nil|refine z5 ?_|apply dw_seq2|refine z16 ?_|refine z20 ?_|apply dw_block|apply dw_skip|apply dw_exit|apply thenD_n|apply thenD_e|refine z17 ?_|(refine z23 ?_ ?_ <;> intro hg)|fail)
     all_goals try (exfalso;omega)
     have hke:i + k=l.length:=by omega
     rw [hke,List.take_of_length_le (Nat.le_refl _)] at q6
     refine ds_clear [.int .i64 0,.slice 1 []] rfl rfl rfl rfl ⟨.inl rfl,.inr ⟨rfl,1,rfl⟩,trivial⟩ rfl rfl (by omega) (by omega) (by omega) rfl rfl ?_
     repeat' (first|refine z0 ?_|apply ds_nil|apply dw_seq2|refine z16 ?_|apply thenD_n)
     all_goals try (exfalso;omega)
     refine dw_ent (ent_cut (n:=u) 4 rfl rfl (by simp only [List.length_append,List.length_take,List.length_replicate,List.length_drop];omega) rfl) ?_
     refine dw_ent (ent_seal 4 rfl rfl rfl) ?_
     repeat' (first|apply dw_ret|apply thenD_r|apply inB_r)
     refine⟨.inl rfl,_,rfl,0,[],trivial,rfl,rfl,rfl,rfl,?_,rfl⟩
     refine congrArg (fun z=>SV.d (.slice 2 z)) ?_
     have hu:((o.map encFct).take u).length=u:=by rw [List.length_take];omega
     show List.take u ((o.map encFct).take u++List.replicate _ _++List.drop _ (o.map encFct))=_
     rw [List.append_assoc,List.take_append_of_le_length (by omega),List.take_of_length_le (by omega),← List.map_take,q6]
  ·rw [List.take_of_length_le (by omega)] at g2
   rw [g2]
   repeat' (first|refine z0 ?_|apply ds_nil|refine z5 ?_|apply dw_seq2|refine z16 ?_|refine z20 ?_|apply dw_block|apply dw_skip|apply dw_exit|apply thenD_n|apply thenD_e|refine z17 ?_|(refine z23 ?_ ?_ <;> intro hg)|fail)
   all_goals try (exfalso;omega)
   refine dw_ent (ent_seal 4 rfl rfl rfl) ?_
   repeat' (apply dw_ret)
   exact⟨.inl rfl,_,rfl,0,[],trivial,rfl,rfl,rfl,rfl,rfl,rfl⟩
def Strict (l:List Fct):Prop:=l.Pairwise fun x y=>ordF x y < 0
theorem lt_irrefl {x:Fct} (h:ordF x x < 0):False:=by rw [ordF_self] at h;omega
theorem lt_asymm {x y:Fct} (h:ordF x y < 0) (g:ordF y x < 0):False:=lt_irrefl (ordF_trans h g)
theorem strict_ext:∀ {a b:List Fct},Strict a→Strict b→(∀ x,x∈a↔x∈b)→a=b
 | [],[],_,_,_=>rfl
 | [],y::b,_,_,h=>by have:=(h y).2 List.mem_cons_self;simp at this
 | x::a,[],_,_,h=>by have:=(h x).1 List.mem_cons_self;simp at this
 | x::a,y::b,ha,hb,h=>by
  obtain⟨a1,a2⟩:=List.pairwise_cons.1 ha
  obtain⟨b1,b2⟩:=List.pairwise_cons.1 hb
  have hxy:x=y:=by
   rcases List.mem_cons.1 ((h x).1 List.mem_cons_self) with h1|h1
   ·exact h1
   ·rcases List.mem_cons.1 ((h y).2 List.mem_cons_self) with h2|h2
    ·exact h2.symm
    ·exact (lt_asymm (b1 x h1) (a1 y h2)).elim
  subst hxy
  rw [strict_ext a2 b2 fun z=>?_]
  constructor
  ·intro hz
   rcases List.mem_cons.1 ((h z).1 (List.mem_cons_of_mem _ hz)) with h1|h1
   ·subst h1;exact (lt_irrefl (a1 z hz)).elim
   ·exact h1
  ·intro hz
   rcases List.mem_cons.1 ((h z).2 (List.mem_cons_of_mem _ hz)) with h1|h1
   ·subst h1;exact (lt_irrefl (b1 z hz)).elim
   ·exact h1
theorem cmpG_spec:∀ (l:List Fct) (p:Fct),(p::l).Pairwise (fun a b=>ordF b a ≥ 0)→Strict (p::cmpG p l)∧∀ x,x∈p::cmpG p l↔x∈p::l
 | [],p,_=>⟨List.pairwise_cons.2 ⟨fun x hx=>by simp [cmpG] at hx,.nil⟩,fun x=>Iff.rfl⟩
 | y::l,p,h=>by
  obtain⟨h1,h2⟩:=List.pairwise_cons.1 h
  obtain⟨i1,i2⟩:=cmpG_spec l y h2
  unfold cmpG
  split
  ·rename_i h3
   have:=ordF_eq0 h3
   subst this
   refine⟨i1,fun x=>(i2 x).trans ⟨fun hx=>List.mem_cons_of_mem _ hx,fun hx=>?_⟩⟩
   rcases List.mem_cons.1 hx with rfl|hx
   ·exact List.mem_cons_self
   ·exact hx
  ·rename_i h3
   have hpy:ordF p y < 0:=by have:=h1 y List.mem_cons_self;rw [ordF_anti];omega
   refine⟨List.pairwise_cons.2 ⟨fun z hz=>?_,i1⟩,fun x=>?_⟩
   ·rcases List.mem_cons.1 hz with rfl|hz
    ·exact hpy
    ·exact ordF_trans hpy ((List.pairwise_cons.1 i1).1 z hz)
   ·rw [List.mem_cons,List.mem_cons (a:=x) (b:=p),i2 x]
theorem cmpF_spec {s:List Fct} (h:s.Pairwise (fun a b=>ordF b a ≥ 0)):Strict (cmpF s)∧∀ x,x∈cmpF s↔x∈s:=by
 match s,h with
 | [],_=>exact⟨.nil,fun _=>Iff.rfl⟩
 | p::l,h=>exact cmpG_spec l p h
theorem kFrom_spec {l:List Fct} {f:Fct}:∀ (n:Nat),n≤l.length→kFrom l f n≤n∧(∀ j (hj:j < l.length),kFrom l f n≤j→j < n→0 < ordF l[j] f)∧(∀ j (hj:j < l.length),j + 1=kFrom l f n→¬ 0 < ordF l[j] f)
 | 0,_=>⟨Nat.le_refl _,fun j _ _ h=>by omega,fun j _ h=>by simp [kFrom] at h⟩
 | n + 1,hn=>by
  obtain⟨i1,i2,i3⟩:=kFrom_spec (l:=l) (f:=f) n (by omega)
  rw [kFrom_succ (by omega)]
  split
  ·rename_i h
   refine⟨by omega,fun j hj h1 h2=>?_,i3⟩
   by_cases hjn:j=n
   ·subst hjn;exact h
   ·exact i2 j hj h1 (by omega)
  ·rename_i h
   refine⟨Nat.le_refl _,fun j hj h1 h2=>by omega,fun j hj h1=>?_⟩
   have:j=n:=by omega
   subst this
   exact h
theorem hasF_iff {l:List Fct} {f:Fct}:hasF l f=true↔f∈l:=by
 unfold hasF
 rw [List.any_eq_true]
 constructor
 ·rintro⟨x,hx,h⟩;rw [← ordF_eq0 (of_decide_eq_true h)];exact hx
 ·intro h;exact⟨f,h,decide_eq_true (ordF_self f)⟩
theorem insF_spec {l:List Fct} {f:Fct} (h:Strict l):Strict (insF l f)∧∀ x,x∈insF l f↔x∈l∨x=f:=by
 unfold insF
 split
 ·rename_i hh
  have:=hasF_iff.1 hh
  exact⟨h,fun x=>⟨.inl,fun hx=>hx.elim id fun e=>e▸this⟩⟩
 ·rename_i hh
  have hf:f ∉ l:=fun hm=>hh (hasF_iff.2 hm)
  obtain⟨k1,k2,k3⟩:=kFrom_spec (l:=l) (f:=f) l.length (Nat.le_refl _)
  generalize kFrom l f l.length=k at k1 k2 k3
  have hpi:=List.pairwise_iff_getElem.1 h
  have hlo:∀ j (hj:j < l.length),j < k→ordF l[j] f < 0:=by
   intro j hj hjk
   have hk1:k - 1 < l.length:=by omega
   have h1:=k3 (k - 1) hk1 (by omega)
   have hne:ordF l[k - 1] f≠0:=fun e=>hf (ordF_eq0 e▸List.getElem_mem hk1)
   have h2:ordF l[k - 1] f < 0:=by omega
   by_cases hjk1:j=k - 1
   ·subst hjk1;exact h2
   ·exact ordF_trans (hpi j (k - 1) hj hk1 (by omega)) h2
  have hhi:∀ j (hj:j < l.length),k≤j→ordF f l[j] < 0:=fun j hj hjk=>by have:=k2 j hj hjk hj;rw [ordF_anti];omega
  have htk:∀ x∈l.take k,ordF x f < 0:=by
   intro x hx
   obtain⟨j,hj,rfl⟩:=List.mem_iff_getElem.1 hx
   rw [List.length_take] at hj
   rw [List.getElem_take]
   exact hlo j (by omega) (by omega)
  have hdk:∀ x∈l.drop k,ordF f x < 0:=by
   intro x hx
   obtain⟨j,hj,rfl⟩:=List.mem_iff_getElem.1 hx
   rw [List.length_drop] at hj
   rw [List.getElem_drop]
   exact hhi (k + j) (by omega) (by omega)
  refine⟨List.pairwise_append.2 ⟨h.sublist (List.take_sublist _ _),List.pairwise_cons.2 ⟨hdk,h.sublist (List.drop_sublist _ _)⟩,fun x hx y hy=>?_⟩,fun x=>?_⟩
  ·rcases List.mem_cons.1 hy with rfl|hy
   ·exact htk x hx
   ·exact ordF_trans (htk x hx) (hdk y hy)
  ·rw [List.mem_append,List.mem_cons]
   constructor
   ·rintro (hx|rfl|hx)
    ·exact .inl (List.mem_of_mem_take hx)
    ·exact .inr rfl
    ·exact .inl (List.mem_of_mem_drop hx)
   ·rintro (hx|rfl)
    ·have:=hx
     rw [← List.take_append_drop k l] at this
     rcases List.mem_append.1 this with h1|h1
     ·exact .inl h1
     ·exact .inr (.inr h1)
    ·exact .inr (.inl rfl)
theorem setF_spec':∀ (l o:List Fct),Strict o→Strict (l.foldl insF o)∧∀ x,x∈l.foldl insF o↔x∈o∨x∈l
 | [],o,h=>⟨h,fun x=>by simp⟩
 | y::l,o,h=>by
  obtain⟨i1,i2⟩:=insF_spec (f:=y) h
  obtain⟨j1,j2⟩:=setF_spec' l (insF o y) i1
  refine⟨j1,fun x=>?_⟩
  rw [List.foldl_cons,j2,i2,List.mem_cons,or_assoc]
theorem setF_spec (l:List Fct):Strict (setF' l)∧∀ x,x∈setF' l↔x∈l:=by
 obtain⟨h1,h2⟩:=setF_spec' l [] .nil
 exact⟨h1,fun x=>(h2 x).trans (by simp)⟩
theorem keep_set {s l:List Fct} (hp:s.Perm l) (hs:s.Pairwise (fun a b=>ordF b a ≥ 0)):cmpF s=setF' l :=
 strict_ext (cmpF_spec hs).1 (setF_spec l).1 fun x=>by rw [(cmpF_spec hs).2,(setF_spec l).2,hp.mem_iff]
structure Lv (ρ:Type) where
 rs:List ρ
 hd:List Fct→ρ→List Fct
 mw:List Fct→ρ→Bool
 A:List Fct→Prop
structure LvOk {ρ:Type} (V:Lv ρ):Prop where
 mono:∀ S T,V.A S→V.A T→Strict S→Strict T→(∀ x∈S,x∈T)→∀ r∈V.rs,V.mw T r=true→V.mw S r=true∧∀ x∈V.hd S r,x∈V.hd T r
 grow:∀ S T,V.A S→(∀ x∈S,x∈T)→(∀ x∈T,x∈S∨∃ r∈V.rs,∃ S',V.A S'∧Strict S'∧x∈V.hd S' r)→V.A T
structure Good {ρ:Type} (V:Lv ρ) (m0 T:List Fct):Prop where
 strict:Strict T
 a:V.A T
 sub:∀ x∈m0,x∈T
 few:∀ r∈V.rs,V.mw T r=true
 cl:∀ r∈V.rs,∀ x∈V.hd T r,x∈T
structure Fit {ρ:Type} (V:Lv ρ) (m0 M:List Fct):Prop where
 good:Good V m0 M
 len:M.length≤60
 least:∀ T,Good V m0 T→∀ x∈M,x∈T
structure InvM {ρ:Type} (V:Lv ρ) (m0 m:List Fct):Prop where
 strict:Strict m
 a:V.A m
 sub:∀ x∈m0,x∈m
 len:m.length≤60
 least:∀ T,Good V m0 T→∀ x∈m,x∈T
theorem Strict.nodup {l:List Fct} (h:Strict l):l.Nodup:=h.imp fun h he=>by subst he;exact lt_irrefl h
theorem nodup_len {α:Type}:∀ {a b:List α},a.Nodup→(∀ x∈a,x∈b)→a.length≤b.length
 | [],_,_,_=>Nat.zero_le _
 | x::a,b,hn,hs=>by
  obtain⟨h1,h2⟩:=List.nodup_cons.1 hn
  obtain⟨s,t,rfl⟩:=List.append_of_mem (hs x (List.mem_cons_self ..))
  have:=nodup_len (b:=s++t) h2 fun y hy=>by
   have hy':=hs y (List.mem_cons_of_mem _ hy)
   rcases List.mem_append.1 hy' with h|h
   ·exact List.mem_append_left _ h
   ·rcases List.mem_cons.1 h with rfl|h
    ·exact absurd hy h1
    ·exact List.mem_append_right _ h
  simp only [List.length_append,List.length_cons] at this ⊢
  omega
theorem setF_lenle (l:List Fct):(setF' l).length≤l.length:=by
 have h:=setF_len l []
 rw [List.length_nil,Nat.add_zero] at h
 exact h
section
variable {ρ : Type} {V : Lv ρ} {m0 m m' : List Fct}
theorem Fit.unique {M M':List Fct} (h:Fit V m0 M) (h':Fit V m0 M'):M=M' :=
 strict_ext h.good.strict h'.good.strict fun x=>⟨h.least M' h'.good x,h'.least M h.good x⟩
theorem inv_first (h:Strict m0) (ha:V.A m0) (hl:m0.length≤60):InvM V m0 m0:=⟨h,ha,fun _ h=>h,hl,fun _ hT=>hT.sub⟩
theorem no_many (hV:LvOk V) (h:InvM V m0 m) {r:ρ} (hr:r∈V.rs) (hm:V.mw m r=false):¬ ∃ M,Fit V m0 M:=by
 rintro⟨M,hM⟩
 have:=(hV.mono m M h.a hM.good.a h.strict hM.good.strict (h.least M hM.good) r hr (hM.good.few r hr)).1
 rw [hm] at this;cases this
theorem head_in (hV:LvOk V) (h:InvM V m0 m) {r:ρ} (hr:r∈V.rs) {x:Fct} (hx:x∈V.hd m r) {T:List Fct} (hT:Good V m0 T):x∈T :=
 hT.cl r hr x ((hV.mono m T h.a hT.a h.strict hT.strict (h.least T hT) r hr (hT.few r hr)).2 x hx)
theorem inv_put (hV:LvOk V) (h:InvM V m0 m) {H:List Fct} (hH:∀ x∈H,∃ r∈V.rs,∃ m',InvM V m0 m'∧x∈V.hd m' r) (hl:(setF' (m++H)).length≤60):InvM V m0 (setF' (m++H)):=by
 obtain⟨h1,h2⟩:=setF_spec (m++H)
 refine⟨h1,?_,fun x hx=>(h2 x).2 (List.mem_append_left _ (h.sub x hx)),hl,fun T hT x hx=>?_⟩
 ·refine hV.grow m _ h.a (fun x hx=>(h2 x).2 (List.mem_append_left _ hx)) fun x hx=>?_
  rcases List.mem_append.1 ((h2 x).1 hx) with hx|hx
  ·exact .inl hx
  ·obtain⟨r,hr,m',hm',hx⟩:=hH x hx
   exact .inr ⟨r,hr,m',hm'.a,hm'.strict,hx⟩
 ·rcases List.mem_append.1 ((h2 x).1 hx) with hx|hx
  ·exact h.least T hT x hx
  ·obtain⟨r,hr,m',hm',hx⟩:=hH x hx
   exact head_in hV hm' hr hx hT
theorem no_room (hV:LvOk V) (h:InvM V m0 m) {H:List Fct} (hH:∀ x∈H,∃ r∈V.rs,∃ m',InvM V m0 m'∧x∈V.hd m' r) (hn:H.Nodup) (hd:∀ x∈H,x ∉ m) (hl:60 < m.length + H.length):¬ ∃ M,Fit V m0 M:=by
 rintro⟨M,hM⟩
 have:(m++H).length≤M.length:=by
  refine nodup_len (List.nodup_append.2 ⟨h.strict.nodup,hn,fun x hx y hy he=>?_⟩) fun x hx=>?_
  ·subst he;exact hd x hy hx
  ·rcases List.mem_append.1 hx with hx|hx
   ·exact h.least M hM.good x hx
   ·obtain⟨r,hr,m',hm',hx⟩:=hH x hx
    exact head_in hV hm' hr hx hM.good
 have h2:=hM.len
 rw [List.length_append] at this
 omega
theorem fit_done (h:InvM V m0 m) (hf:∀ r∈V.rs,V.mw m r=true) (hc:∀ r∈V.rs,∀ x∈V.hd m r,x∈m):Fit V m0 m :=
 ⟨⟨h.strict,h.a,h.sub,hf,hc⟩,h.len,h.least⟩
theorem same_len {a b:List Fct} (ha:Strict a) (hb:Strict b) (hs:∀ x∈a,x∈b) (hl:b.length≤a.length):a=b:=by
 refine strict_ext ha hb fun x=>⟨hs x,fun hx=>?_⟩
 apply Classical.byContradiction
 intro hn
 have:=nodup_len (a:=x::a) (b:=b) (List.nodup_cons.2 ⟨hn,ha.nodup⟩) fun y hy=>by
  rcases List.mem_cons.1 hy with rfl|hy
  ·exact hx
  ·exact hs y hy
 rw [List.length_cons] at this
 omega
end
theorem arity_at {p:Prg} {n:Int} (h0:0≤n) (h:n < (p.arity.length:Int)):p.arity.getD n.toNat 0=p.arity[n.toNat]'(by omega):=by
 rw [List.getD,List.getElem?_eq_getElem (by omega)];rfl
theorem inR_spec {n a b:Int} (h:inR n a b=true):a≤n∧n≤b:=by
 unfold inR at h;simpa using h
set_option maxHeartbeats 8000000 in
theorem lit_fn (p:Prg) (l:Ltl) (vars:Int) (h0:0≤vars) (h8:vars≤8):Fn 214 [elPrg p,elLtl l,.d (.int .i64 vars)] (fun r=>r = .d (.int .i64 (litE p.arity vars l))):=by
 refine fnp_enter' _ Tryz.func214 rfl rfl (by kernel_rfl) ?_
 intro O w0 E0 β0
 obtain⟨kind,op,pred,terms⟩:=l
 have la:(p.arity.map encI).length=p.arity.length:=List.length_map _
 have lb:(terms.map encTrm).length=terms.length:=List.length_map _
 refine dw_lenA 0 0 rfl rfl (fun hk=>?_)
 refine dw_lenA 1 3 rfl rfl (fun hk2=>?_)
 have ht:=terms_fn terms vars h0 h8
 have w1:=swithin_fn kind 1 4
 have ho:=op_fn kind op
 unfold litE
 dsimp only [elLtl]
 by_cases hk1:inR kind 1 4=true
 ·have hk':=inR_spec hk1
  rw [hk1] at w1
  rw [hk1,if_neg (show ¬ (true=false) by decide)]
  generalize opB kind op=bo at ho ⊢
  by_cases hn:kind=1∨kind=2
  ·have w2:=swithin_fn pred 0 (((p.arity.map encI).length:Int) - 1)
   rw [if_pos hn,← la]
   by_cases hp:inR pred 0 (((p.arity.map encI).length:Int) - 1)=true
   ·have hp':=inR_spec hp
    have hA:=arity_at (p:=p) (n:=pred) (by omega) (by omega)
    rw [hp] at w2 ⊢
    rw [if_neg (show ¬ (true=false) by decide),hA]
    clear hk1 hp hA
    rcases hn with rfl|rfl
    all_goals repeat' (first|refine z0 ?_|refine z12 ?_|apply ds_nil|refine z5 ?_|refine z10 ?_|apply dw_seq2|refine z16 ?_|refine z20 ?_|apply dw_block|apply dw_skip|apply dw_ret|refine z19 ?_|apply thenD_n|apply thenD_r|apply inB_n|apply inB_r|refine z21 ?_ (hc:=by apply w1)|refine z21 ?_ (hc:=by apply w2)|refine z21 ?_ (hc:=by apply ho)|refine z21 ?_ (hc:=by apply ht)|refine z1 ?_|(refine z23 ?_ ?_ <;> intro hg)|(apply dw_cond;exact rfl;all_goals intro hg))
    all_goals first
     | exact ret_i rfl (by simp_all <;> omega)
     | exact ret_i rfl rfl
   ·rw [Bool.not_eq_true] at hp
    rw [hp] at w2 ⊢
    rw [if_pos rfl]
    clear hk1 hp
    rcases hn with rfl|rfl
    all_goals repeat' (first|refine z0 ?_|refine z12 ?_|apply ds_nil|apply dw_seq2|refine z16 ?_|apply dw_block|apply dw_ret|refine z18 ?_|refine z19 ?_|apply thenD_n|apply thenD_r|apply inB_r|refine z21 ?_ (hc:=by apply w1)|refine z21 ?_ (hc:=by apply w2)|refine z21 ?_ (hc:=by apply ho)|refine z1 ?_|(apply dw_cond;exact rfl;all_goals intro hg))
    all_goals first
     | exact ret_i rfl (by simp_all <;> omega)
  ·rw [if_neg hn]
   clear hk1
   rcases (show kind=3∨kind=4 by omega) with rfl|rfl
   all_goals repeat' (first|refine z0 ?_|refine z12 ?_|apply ds_nil|refine z5 ?_|refine z14 ?_|refine z10 ?_|apply dw_seq2|refine z16 ?_|refine z20 ?_|apply dw_block|apply dw_skip|apply dw_ret|refine z18 ?_|refine z19 ?_|apply thenD_n|apply thenD_r|apply inB_n|apply inB_r|refine z21 ?_ (hc:=by apply w1)|refine z21 ?_ (hc:=by apply ho)|refine z21 ?_ (hc:=by apply ht)|refine z1 ?_|(refine z23 ?_ ?_ <;> intro hg)|(apply dw_cond;exact rfl;all_goals intro hg)|((fail_if_success (apply ds_known;exact rfl));apply ds_guardP;exact rfl;exact rfl;exact rfl;all_goals intro hg))
   all_goals first
    | exact ret_i rfl (by simp_all <;> omega)
 ·rw [Bool.not_eq_true] at hk1
  rw [hk1] at w1 ⊢
  rw [if_pos rfl]
  repeat' (first|refine z0 ?_|refine z12 ?_|apply ds_nil|apply dw_seq2|refine z16 ?_|apply dw_block|apply dw_ret|refine z18 ?_|apply thenD_n|apply thenD_r|apply inB_r|refine z21 ?_ (hc:=by apply w1)|refine z1 ?_|((fail_if_success (apply ds_known;exact rfl));apply ds_guardP;exact rfl;exact rfl;exact rfl;all_goals intro hg))
  all_goals exact ret_i rfl rfl
def isTok (kind:Int) (s:ByteArray):Bool :=
 if h:0 < s.size then
  decide (s.size≤5000) && decide (kind≠0) && decide ((tokAt s.data.toList).1=kind) && decide ((tokAt s.data.toList).2=s.size) && decide (tokErr kind s.size s[0]=0)
 else false
theorem tokErr_eq (kind:Int) (n:Nat) (c:UInt8):tokErr kind n c=if kind=0 then 1 else if ((kind=1∨kind=2)∧12 < n)∨(kind=3∧7 < n) then 2 else if kind=3∧1 < n∧c=48 then 1 else 0:=by
 unfold tokErr;rfl
theorem u8i (c d:UInt8):((c.toNat:Int)=(d.toNat:Int))=(c=d):=by
 rw [eq_iff_iff]
 exact⟨fun h=>UInt8.toNat_inj.1 (by omega),fun h=>by rw [h]⟩
theorem u48 (c:UInt8):((c.toNat:Int)=48)=(c=48):=u8i c 48
theorem natc_lt1 (b:Nat):((1:Int) < (b:Int))=(1 < b):=by rw [eq_iff_iff];omega
theorem natc_lt7 (b:Nat):((7:Int) < (b:Int))=(7 < b):=by rw [eq_iff_iff];omega
theorem natc_lt12 (b:Nat):((12:Int) < (b:Int))=(12 < b):=by rw [eq_iff_iff];omega
def encScan (r:List Tok × Int × Int):SV:=.tup [.d (encToks r.1),.d (.int .i64 r.2.1),.d (.int .i64 r.2.2)]
theorem scanS_big (s:ByteArray) (h:5000 < s.size):scanS s=([],0,2):=by unfold scanS;rw [if_pos h]
theorem scanS_ok (s:ByteArray) (h:¬ 5000 < s.size) (l:List Tok) (e:scanAt s false 0 = .ok l):scanS s=(l,0,0):=by unfold scanS;rw [if_neg h,e]
theorem scanS_err (s:ByteArray) (h:¬ 5000 < s.size) (p e:Int) (he:scanAt s false 0 = .error (p,e)):scanS s=([],p,e):=by unfold scanS;rw [if_neg h,he]
theorem i37 (c:UInt8):((c.toNat:Int)=37)=(c=37):=u8i c 37
theorem i32 (c:UInt8):((c.toNat:Int)=32)=(c=32):=u8i c 32
theorem i9 (c:UInt8):((c.toNat:Int)=9)=(c=9):=u8i c 9
theorem i10 (c:UInt8):((c.toNat:Int)=10)=(c=10):=u8i c 10
theorem note_step (s:ByteArray) (note:Bool) (i:Nat) (h:i < s.size) (hn:note=true∨(s[i].toNat:Int)=37):scanAt s note i=scanAt s (decide ((s[i].toNat:Int)≠10)) (i + 1):=by
 rw [scanAt_note s note i h (by rw [i37] at hn;rcases hn with hn|hn <;> simp [hn])]
 congr 1
 rw [Bool.eq_iff_iff]
 simp only [ne_eq,i10]
 simp
theorem blank_step (s:ByteArray) (note:Bool) (i:Nat) (h:i < s.size) (hn:note=false) (h1:¬ (s[i].toNat:Int)=37) (h2:(s[i].toNat:Int)=32∨(s[i].toNat:Int)=9∨(s[i].toNat:Int)=10):scanAt s note i=scanAt s note (i + 1):=by
 subst hn
 rw [i37] at h1
 rw [i32,i9,i10] at h2
 exact scanAt_blank s i h (by simpa using h1) (by simpa [or_assoc] using h2)
theorem tok_step (s:ByteArray) (note:Bool) (i:Nat) (h:i < s.size) (hn:note=false) (h1:¬ (s[i].toNat:Int)=37) (h2:¬ (s[i].toNat:Int)=32) (h3:¬ (s[i].toNat:Int)=9) (h4:¬ (s[i].toNat:Int)=10) (q:Int × Nat) (hq:tokAt (s.data.toList.drop i)=q) :
  scanAt s note i=if tokErr q.1 q.2 s[i]=0 then (scanAt s note (i + q.2)).map (Tok.mk q.1 i (s.extract i (i + q.2))::·) else .error (i,tokErr q.1 q.2 s[i]):=by
 subst hn
 subst hq
 rw [i37] at h1
 rw [i32] at h2
 rw [i9] at h3
 rw [i10] at h4
 have e1:(s[i] == 37)=false:=by simpa using h1
 have e2:(s[i] == 32 || s[i] == 9 || s[i] == 10)=false:=by simp [h2,h3,h4]
 split
 ·rename_i he
  exact scanAt_tok s i h e1 e2 he
 ·rename_i he
  exact scanAt_err s i h e1 e2 he
theorem map_map (x:Except (Int × Int) (List Tok)) (f g:List Tok→List Tok):(x.map f).map g=x.map fun l=>g (f l):=by cases x <;> rfl
theorem tokErr_int (kind:Int) (n:Nat) (c:UInt8):tokErr kind n c=if kind=0 then 1 else if ((kind=1∨kind=2)∧(12:Int) < n)∨(kind=3∧(7:Int) < n) then 2 else if kind=3∧(1:Int) < n∧(c.toNat:Int)=48 then 1 else 0:=by
 simp only [natc_lt12,natc_lt7,natc_lt1,u48]
 exact tokErr_eq kind n c
theorem small_eq (c:UInt8):smallB c=(decide ((97:Int)≤c.toNat) && decide ((c.toNat:Int)≤122)):=by unfold smallB;rfl
theorem great_eq (c:UInt8):greatB c=(decide ((65:Int)≤c.toNat) && decide ((c.toNat:Int)≤90)):=by unfold greatB;rfl
theorem digit_eq (c:UInt8):digitB c=(decide ((48:Int)≤c.toNat) && decide ((c.toNat:Int)≤57)):=by unfold digitB;rfl
set_option maxHeartbeats 8000000 in
theorem small_fn (c:UInt8):Fn 291 [.d (.int .u8 (c.toNat:Int))] (fun r=>r = .d (.bool (smallB c))):=by
 refine fnp_enter' _ Tryz.func291 rfl rfl (by kernel_rfl) ?_
 intro O w0 E0 β0
 repeat' (first|refine z0 ?_|refine z12 ?_|apply ds_nil|apply dw_seq2|refine z16 ?_|apply dw_ret|apply thenD_n|((fail_if_success (apply ds_known;exact rfl));apply ds_guardP;exact rfl;exact rfl;exact rfl;all_goals intro hg))
 all_goals exact ret_b rfl (by rw [small_eq];first|(simp_all;done)|(simp_all;omega))
set_option maxHeartbeats 8000000 in
theorem great_fn (c:UInt8):Fn 292 [.d (.int .u8 (c.toNat:Int))] (fun r=>r = .d (.bool (greatB c))):=by
 refine fnp_enter' _ Tryz.func292 rfl rfl (by kernel_rfl) ?_
 intro O w0 E0 β0
 repeat' (first|refine z0 ?_|refine z12 ?_|apply ds_nil|apply dw_seq2|refine z16 ?_|apply dw_ret|apply thenD_n|((fail_if_success (apply ds_known;exact rfl));apply ds_guardP;exact rfl;exact rfl;exact rfl;all_goals intro hg))
 all_goals exact ret_b rfl (by rw [great_eq];first|(simp_all;done)|(simp_all;omega))
set_option maxHeartbeats 8000000 in
theorem digit_fn (c:UInt8):Fn 295 [.d (.int .u8 (c.toNat:Int))] (fun r=>r = .d (.bool (digitB c))):=by
 refine fnp_enter' _ Tryz.func295 rfl rfl (by kernel_rfl) ?_
 intro O w0 E0 β0
 repeat' (first|refine z0 ?_|refine z12 ?_|apply ds_nil|apply dw_seq2|refine z16 ?_|apply dw_ret|apply thenD_n|((fail_if_success (apply ds_known;exact rfl));apply ds_guardP;exact rfl;exact rfl;exact rfl;all_goals intro hg))
 all_goals exact ret_b rfl (by rw [digit_eq];first|(simp_all;done)|(simp_all;omega))
set_option maxHeartbeats 8000000 in
theorem alnum_fn (c:UInt8):Fn 294 [.d (.int .u8 (c.toNat:Int))] (fun r=>r = .d (.bool (alnumB c))):=by
 refine fnp_enter' _ Tryz.func294 rfl rfl (by kernel_rfl) ?_
 intro O w0 E0 β0
 repeat' (first|refine z0 ?_|refine z12 ?_|apply ds_nil|apply dw_seq2|refine z16 ?_|apply dw_ret|apply thenD_n|refine z21 ?_ (hc:=by apply small_fn)|refine z21 ?_ (hc:=by apply great_fn)|refine z21 ?_ (hc:=by apply digit_fn)|((fail_if_success (apply ds_known;exact rfl));apply ds_guardB;exact rfl;exact rfl;exact rfl;all_goals intro hg))
 all_goals exact ret_b rfl (by unfold alnumB letterB;simp_all)
abbrev FnS (f:FuncId) (args:List SV) (J k:Nat) (H:Hp) (R:Nat→SV→Hp→Prop):Prop:=FnOk false Tryz.prog tab tab_ok f args J k H R
abbrev scH (s:ByteArray) (i:Nat):Hp:=[(0,.blk 323 [.d (.str s),.d (.int .i64 i)])]
set_option maxHeartbeats 8000000 in
theorem sign_fn (s:ByteArray) (i:Nat):FnS 290 [.loc 0 0] 1 1 (scH s i) (fun k2 r H2=>k2=1∧r = .d (.int .u8 (if h:i < s.size then (s[i].toNat:Int) else 0))∧H2=scH s i):=by
 refine fn_enter _ Tryz.func290 rfl rfl (by kernel_rfl) ?_
 intro O w0 E0 β0
 repeat' (first|refine z0 ?_|apply ds_nil|refine z5 ?_|refine z10 ?_|apply dw_seq2|refine z16 ?_|refine z20 ?_|apply dw_skip|apply dw_ret|apply thenD_n|apply thenD_r|(refine z23 ?_ ?_ <;> intro hg)|fail)
 ·refine⟨.inl rfl,_,rfl,rfl,?_,rfl⟩
  rw [dif_pos (by omega)];rfl
 ·refine⟨.inl rfl,_,rfl,rfl,?_,rfl⟩
  rw [dif_neg (by omega)];rfl
theorem note_at (s:ByteArray) (j:Nat) (h:j < s.size) (h1:(s[j].toNat:Int)=37):scanAt s false j=scanAt s true j:=by
 rw [note_step s false j h (.inr h1),note_step s true j h (.inl rfl)]
theorem note_in (s:ByteArray) (j:Nat) (h:j < s.size) (h1:¬ (s[j].toNat:Int)=10):scanAt s true j=scanAt s true (j + 1):=by
 rw [note_step s true j h (.inl rfl),decide_eq_true h1]
theorem note_out (s:ByteArray) (j:Nat) (h:∀ h:j < s.size,(s[j].toNat:Int)=10):scanAt s true j=scanAt s false j:=by
 by_cases hj:j < s.size
 ·have h10:=h hj
  rw [note_step s true j hj (.inl rfl),decide_eq_false (by rw [h10];simp),blank_step s false j hj rfl (by omega) (by omega)]
 ·rw [scanAt_end s true j (by omega),scanAt_end s false j (by omega)]
set_option maxHeartbeats 8000000 in
theorem skip_fn (s:ByteArray) (i:Nat) (hi:i≤s.size) (hs:s.size≤5000):FnS 288 [.loc 0 0] 1 1 (scH s i)
  (fun k2 r H2=>k2=1∧r = .tup []∧∃ j:Nat,i≤j∧j≤s.size∧scanAt s false i=scanAt s false j∧(∀ h:j < s.size,¬ (s[j].toNat:Int)=37∧¬ (s[j].toNat:Int)=32∧¬ (s[j].toNat:Int)=9∧¬ (s[j].toNat:Int)=10)∧H2=scH s j):=by
 refine fn_enter _ Tryz.func288 rfl rfl (by kernel_rfl) ?_
 intro O w0 E0 β0
 repeat' (apply dw_block)
 refine ds_loop (ι:=Nat) (fun j=>⟨1,[(0,.loc 0 0)],scH s j⟩) (fun j=>i≤j∧j≤s.size∧scanAt s false i=scanAt s false j) (fun j=>s.size - j) i ⟨Nat.le_refl _,hi,rfl⟩
  (ent_ren id ⟨rfl,trivial⟩ ⟨rfl,trivial⟩ rfl rfl rfl rfl rfl rfl) ?_
 rintro j ⟨h1,h2,h3⟩
 repeat' (first|refine z0 ?_|apply ds_nil|refine z5 ?_|refine z10 ?_|apply dw_seq2|refine z16 ?_|refine z20 ?_|apply dw_block|apply dw_skip|apply dw_exit|apply dw_ret|apply thenD_n|apply thenD_e|apply thenD_r|apply inB_n|apply inB_r|refine z17 ?_|refine z3 ?_|(refine z23 ?_ ?_ <;> intro hg)|fail)
 all_goals first
  | (exfalso;omega)
  | (refine⟨j + 1,⟨by omega,by omega,h3.trans (blank_step s false j (by omega) rfl (by omega) (by omega))⟩,ent_ren id ⟨rfl,trivial⟩ ⟨rfl,trivial⟩ rfl rfl rfl rfl rfl rfl,by omega⟩)
  | (refine⟨.inl rfl,_,rfl,rfl,rfl,j,h1,h2,h3,?_,rfl⟩
     intro hj
     refine⟨?_,?_,?_,?_⟩ <;> omega)
  | (refine⟨.inr rfl,_,rfl,rfl,rfl,j,h1,h2,h3,?_,rfl⟩
     intro hj
     refine⟨?_,?_,?_,?_⟩ <;> omega)
  | skip
 all_goals
  refine ds_loop (ι:=Nat) (fun m=>⟨1,[(0,.loc 0 0)],scH s m⟩) (fun m=>j≤m∧m≤s.size∧scanAt s false i=scanAt s true m) (fun m=>s.size - m) j
   ⟨Nat.le_refl _,h2,h3.trans (note_at s j (by omega) (by omega))⟩ (ent_ren id ⟨rfl,trivial⟩ ⟨rfl,trivial⟩ rfl rfl rfl rfl rfl rfl) ?_
  rintro m ⟨g1,g2,g3⟩
  repeat' (first|refine z0 ?_|apply ds_nil|refine z5 ?_|refine z14 ?_|refine z10 ?_|apply dw_seq2|refine z16 ?_|refine z20 ?_|apply dw_block|apply dw_skip|apply dw_exit|refine z19 ?_|apply thenD_n|apply thenD_e|apply inB_n|refine z17 ?_|refine z3 ?_|(refine z23 ?_ ?_ <;> intro hg)|((fail_if_success (apply dt_known;exact rfl));apply dt_guardP;exact rfl;exact rfl;exact rfl;all_goals intro hg))
  all_goals first
   | (refine⟨m + 1,⟨by omega,by omega,g3.trans (note_in s m (by omega) (by omega))⟩,ent_ren id ⟨rfl,trivial⟩ ⟨rfl,trivial⟩ rfl rfl rfl rfl rfl rfl,by omega⟩)
   | (have hne:m≠j:=by
       intro e
       subst e
       omega
      refine⟨m,⟨by omega,g2,g3.trans (note_out s m (by intro h;omega))⟩,ent_ren id ⟨rfl,trivial⟩ ⟨rfl,trivial⟩ rfl rfl rfl rfl rfl rfl,by omega⟩)
set_option maxHeartbeats 8000000 in
theorem run_fn (s:ByteArray) (i:Nat) (hi:i≤s.size) (hs:s.size≤5000) (f:FuncId) (p:UInt8→Bool) (hp:∀ c:UInt8,Fn f [.d (.int .u8 (c.toNat:Int))] (fun r=>r = .d (.bool (p c)))) :
  FnS 293 [.loc 0 0,.fn f []] 1 1 (scH s i)
   (fun k2 r H2=>k2=1∧r = .d (.str (s.extract i (i + takeW p (s.data.toList.drop i))))∧H2=scH s (i + takeW p (s.data.toList.drop i))):=by
 refine fn_enter _ Tryz.func293 rfl rfl (by kernel_rfl) ?_
 intro O w0 E0 β0
 repeat' (first|refine z0 ?_|apply ds_nil|apply dw_seq2|refine z16 ?_|apply dw_block|apply thenD_n)
 have hl0:s.data.toList.length=s.size:=by simp
 refine ds_loop (ι:=Nat) (fun j=>⟨1,[(0,.loc 0 0),(1,.fn f []),(5,.d (.int .i64 i))],scH s j⟩) (fun j=>i≤j∧j≤s.size∧i + takeW p (s.data.toList.drop i)=j + takeW p (s.data.toList.drop j)) (fun j=>s.size - j) i ⟨Nat.le_refl _,hi,rfl⟩
  (ent_ren id ⟨rfl,rfl,rfl,trivial⟩ ⟨rfl,trivial⟩ rfl rfl rfl rfl rfl rfl) ?_
 rintro j ⟨h1,h2,h3⟩
 have hstep:=fun h hq=>takeW_step p s.data.toList j h hq
 have hstop:=fun h hq=>takeW_stop p s.data.toList j h hq
 have hend:=takeW_end p s.data.toList j
 repeat' (first|refine z5 ?_|refine z14 ?_|refine z10 ?_|apply dw_seq2|refine z20 ?_|apply dw_exit|apply dw_ret|refine z19 ?_|apply thenD_n|apply thenD_e|refine z17 ?_|((fail_if_success (apply dt_known;exact rfl));apply dt_guardP;exact rfl;exact rfl;exact rfl;all_goals intro hg))
 all_goals first
  | (refine dt_callV rfl rfl rfl rfl (hp _) rfl rfl rfl rfl ⟨_,rfl⟩ ?_;rintro _ rfl)
  | (exact absurd hg (by decide))
  | skip
 repeat' (first|refine z0 ?_|apply ds_nil|refine z5 ?_|refine z10 ?_|apply dw_seq2|refine z16 ?_|refine z20 ?_|apply dw_block|apply dw_skip|apply dw_exit|apply dw_ret|apply thenD_n|apply thenD_e|apply inB_n|refine z17 ?_|refine z3 ?_|(apply dw_cond;exact rfl;all_goals intro hg))
 all_goals first
  | (have hj:i + takeW p (s.data.toList.drop i)=j:=by have:=hend (by omega);omega
     rw [hj]
     exact⟨.inl rfl,_,rfl,rfl,rfl,rfl⟩)
  | (have hq:=hstep (by omega) (by rw [byteAt _ _ (by omega)];first|assumption|simp_all)
     refine⟨j + 1,⟨by omega,by omega,by omega⟩,ent_ren id ⟨rfl,rfl,rfl,trivial⟩ ⟨rfl,trivial⟩ rfl rfl rfl rfl rfl rfl,by omega⟩)
  | (have hq:=hstop (by omega) (by rw [byteAt _ _ (by omega)];first|assumption|simp_all)
     have hj:i + takeW p (s.data.toList.drop i)=j:=by omega
     rw [hj]
     exact⟨.inl rfl,_,rfl,rfl,rfl,rfl⟩)
def pairL:D:=.slice 1 [[.str ⟨#[58,45]⟩],[.str ⟨#[60,61]⟩],[.str ⟨#[33,61]⟩]]
set_option maxHeartbeats 8000000 in
theorem pairs_fn:Fn 297 [] (fun r=>r = .d pairL):=by
 refine fnp_enter' _ Tryz.func297 rfl rfl (by kernel_rfl) ?_
 intro O w0 E0 β0
 repeat' (first|refine z0 ?_|apply ds_nil|apply dw_seq2|refine z16 ?_|apply dw_ret|apply thenD_n|refine z4 ?_|fail)
 exact⟨.inl rfl,_,rfl,rfl,rfl⟩
def hasPre (s t:ByteArray):Bool:=decide (t.size≤s.size) && decide (s.extract 0 t.size=t)
set_option maxHeartbeats 8000000 in
theorem hasPrefix0_fn (s t:ByteArray):Fn 302 [.d (.str s),.d (.str t)] (fun r=>r = .d (.bool (hasPre s t))):=by
 refine fnp_enter' _ Tryz.func302 rfl rfl (by kernel_rfl) ?_
 intro O w0 E0 β0
 repeat' (first|refine z0 ?_|refine z12 ?_|apply ds_nil|apply dw_seq2|refine z16 ?_|apply dw_ret|apply thenD_n|((fail_if_success (apply ds_known;exact rfl));apply ds_guardP;exact rfl;exact rfl;exact rfl;all_goals intro hg))
 all_goals exact ret_b rfl (by
  unfold hasPre
  first
   | (have h:t.size≤s.size:=by omega
      simp [h];done)
   | (have h:¬ t.size≤s.size:=by omega
      simp [h];done))
set_option maxHeartbeats 8000000 in
theorem hasPrefix_fn (s t:ByteArray):Fn 299 [.d (.str s),.d (.str t)] (fun r=>r = .d (.bool (hasPre s t))):=by
 refine fnp_enter' _ Tryz.func299 rfl rfl (by kernel_rfl) ?_
 intro O w0 E0 β0
 repeat' (first|refine z0 ?_|apply ds_nil|apply dw_seq2|refine z16 ?_|apply dw_ret|apply thenD_n|refine z21 ?_ (hc:=by apply hasPrefix0_fn)|fail)
 all_goals exact ret_b rfl rfl
abbrev scH2 (s:ByteArray) (i:Nat):Hp:=[(0,.blk 323 [.d (.str s),.d (.int .i64 i)]),(1,.blk 321 [.loc 0 0])]
set_option maxHeartbeats 8000000 in
theorem begins_fn (s:ByteArray) (i:Nat) (hi:i≤s.size) (t:ByteArray) :
  FnS 298 [.d (.str t),.loc 1 0] 2 2 (scH2 s i) (fun k2 r H2=>k2=2∧r = .d (.bool (hasPre (s.extract i s.size) t))∧H2=scH2 s i):=by
 refine fn_enter _ Tryz.func298 rfl rfl (by kernel_rfl) ?_
 intro O w0 E0 β0
 repeat' (first|refine z0 ?_|apply ds_nil|refine z5 ?_|refine z10 ?_|apply dw_seq2|refine z16 ?_|refine z20 ?_|apply dw_ret|apply thenD_n|refine z22 ?_ (hc:=by apply hasPrefix_fn)|refine z22 ?_ (hc:=by apply hasPrefix_fn)|fail)
 exact⟨.inl rfl,_,rfl,rfl,rfl,rfl⟩
def pairT:List ByteArray:=[⟨#[58,45]⟩,⟨#[60,61]⟩,⟨#[33,61]⟩]
def pairAt (r:ByteArray):Int:=if hasPre r ⟨#[58,45]⟩ then 0 else if hasPre r ⟨#[60,61]⟩ then 1 else if hasPre r ⟨#[33,61]⟩ then 2 else -1
theorem pairAt_hit (r:ByteArray) (j:Nat) (hj:j < pairT.length) (h2:∀ m (_:m < j) (hm3:m < pairT.length),hasPre r pairT[m]=false) (h:hasPre r pairT[j]=true):pairAt r=j:=by
 have hj3:j < 3:=hj
 unfold pairAt
 match j,hj3 with
 | 0,_=>rw [if_pos (show hasPre r ⟨#[58,45]⟩=true from h)];rfl
 | 1,_=>rw [if_neg (by rw [show hasPre r ⟨#[58,45]⟩=false from h2 0 (by omega) (by decide)];decide),if_pos (show hasPre r ⟨#[60,61]⟩=true from h)];rfl
 | 2,_=>rw [if_neg (by rw [show hasPre r ⟨#[58,45]⟩=false from h2 0 (by omega) (by decide)];decide),if_neg (by rw [show hasPre r ⟨#[60,61]⟩=false from h2 1 (by omega) (by decide)];decide),if_pos (show hasPre r ⟨#[33,61]⟩=true from h)];rfl
theorem pairAt_none (r:ByteArray) (h2:∀ m (_:m < 3) (hm3:m < pairT.length),hasPre r pairT[m]=false):pairAt r = -1:=by
 unfold pairAt
 rw [if_neg (by rw [show hasPre r ⟨#[58,45]⟩=false from h2 0 (by omega) (by decide)];decide),if_neg (by rw [show hasPre r ⟨#[60,61]⟩=false from h2 1 (by omega) (by decide)];decide),if_neg (by rw [show hasPre r ⟨#[33,61]⟩=false from h2 2 (by omega) (by decide)];decide)]
set_option maxHeartbeats 8000000 in
theorem indexFunc_fn (s:ByteArray) (i:Nat) (hi:i≤s.size) :
  FnS 301 [.d (.slice 1 (pairT.map fun t=>[.str t])),.fn 298 [.loc 1 0]] 2 2 (scH2 s i) (fun _ r H2=>r = .d (.int .i64 (pairAt (s.extract i s.size)))∧H2=scH2 s i):=by
 refine fn_enter _ Tryz.func301 rfl rfl (by kernel_rfl) ?_
 intro O w0 E0 β0
 repeat' (first|refine z0 ?_|apply ds_nil|apply dw_seq2|refine z16 ?_|apply dw_block|apply thenD_n)
 refine ds_loop (ι:=Nat) (fun j=>⟨2,[(0,.d (.slice 1 (pairT.map fun t=>[.str t]))),(1,.fn 298 [.loc 1 0]),(7,.d (.int .i64 3)),(8,.d (.int .i64 j))],scH2 s i⟩)
  (fun j=>j≤3∧∀ m (hm:m < j) (hm3:m < pairT.length),hasPre (s.extract i s.size) pairT[m]=false) (fun j=>3 - j) 0 ⟨by omega,fun m hm=>absurd hm (by omega)⟩
  (ent_ren id ⟨rfl,rfl,rfl,rfl,trivial⟩ ⟨rfl,rfl,trivial⟩ rfl rfl rfl rfl rfl rfl) ?_
 rintro j ⟨h1,h2⟩
 repeat' (first|refine z0 ?_|apply ds_nil|apply dw_seq2|refine z16 ?_|apply thenD_n)
 have hp3:pairT.length=3:=rfl
 refine dw_condP rfl (fun hlt=>?_) (fun hlt=>?_)
 ·repeat' (first|refine z0 ?_|apply ds_nil|apply dw_seq2|refine z16 ?_|apply dw_block|apply dw_skip|apply thenD_n)
  have hj:j < pairT.length:=by omega
  refine ds_callVO id (begins_fn s i hi pairT[j]) rfl rfl rfl rfl rfl rfl ⟨rfl,rfl,trivial⟩ rfl rfl rfl rfl rfl rfl ?_ ?_
  ·rintro k2 r H2 ⟨rfl,rfl,rfl⟩
   exact⟨rfl,rfl⟩
  rintro k2 r H2 ⟨rfl,rfl,rfl⟩
  repeat' (first|apply ds_nil|apply thenD_n)
  refine dw_cond rfl (fun hh=>?_) (fun hh=>?_)
  ·repeat' (first|refine z0 ?_|apply ds_nil|apply dw_seq2|refine z16 ?_|apply dw_ret|apply thenD_n|apply thenD_r|apply inB_r)
   refine⟨.inl rfl,_,rfl,?_⟩
   rw [pairAt_hit _ j hj h2 hh]
   exact⟨rfl,rfl⟩
  ·repeat' (first|refine z0 ?_|apply ds_nil|refine z16 ?_|apply dw_skip|apply thenD_n|apply inB_n)
   refine⟨j + 1,⟨by omega,fun m hm hm3=>?_⟩,ent_ren id ⟨rfl,rfl,rfl,rfl,trivial⟩ ⟨rfl,rfl,trivial⟩ rfl rfl rfl rfl rfl rfl,by omega⟩
   by_cases e:m=j
   ·subst e;exact hh
   ·exact h2 m (by omega) hm3
 ·repeat' (first|refine z0 ?_|apply ds_nil|apply dw_seq2|refine z16 ?_|apply dw_exit|apply dw_ret|apply thenD_n|apply thenD_e|refine z17 ?_|fail)
  refine⟨.inl rfl,_,rfl,?_,rfl⟩
  rw [pairAt_none _ (fun m hm hm3=>h2 m (by omega) hm3)]
  rfl
set_option maxHeartbeats 8000000 in
theorem containsFunc_fn (s:ByteArray) (i:Nat) (hi:i≤s.size) :
  FnS 296 [.d (.slice 1 (pairT.map fun t=>[.str t])),.fn 298 [.loc 1 0]] 2 2 (scH2 s i) (fun _ r H2=>r = .d (.bool (decide (pairAt (s.extract i s.size) ≥ 0)))∧H2=scH2 s i):=by
 refine fn_enter _ Tryz.func296 rfl rfl (by kernel_rfl) ?_
 intro O w0 E0 β0
 repeat' (first|refine z0 ?_|apply ds_nil|apply dw_seq2|refine z16 ?_|apply thenD_n)
 refine ds_callO id (indexFunc_fn s i hi) rfl rfl rfl rfl ⟨rfl,rfl,trivial⟩ rfl rfl rfl rfl rfl rfl ?_ ?_
 ·rintro k2 r H2 ⟨rfl,rfl⟩
  exact⟨rfl,rfl⟩
 rintro k2 r H2 ⟨rfl,rfl⟩
 repeat' (first|refine z0 ?_|apply ds_nil|apply dw_ret|apply thenD_n)
 exact⟨.inl rfl,_,rfl,rfl,rfl⟩
set_option maxHeartbeats 8000000 in
theorem indexByte0_fn (s:ByteArray) (c:UInt8):Fn 303 [.d (.str s),.d (.int .u8 (c.toNat:Int))] (fun r=>r = .d (.int .i64 (firstIdx s ((c.toNat:Int).toNat.toUInt8)))):=by
 refine fnp_enter' _ Tryz.func303 rfl rfl (by kernel_rfl) ?_
 intro O w0 E0 β0
 repeat' (first|refine z0 ?_|apply ds_nil|apply dw_seq2|refine z16 ?_|apply thenD_n)
 refine ds_ev (ev_indexByte Tryz.func304 rfl rfl rfl rfl rfl rfl rfl) rfl rfl ?_
 repeat' (first|refine z0 ?_|apply ds_nil|apply dw_ret|apply thenD_n)
 exact ret_i rfl rfl
set_option maxHeartbeats 8000000 in
theorem indexByte_fn (s:ByteArray) (c:UInt8):Fn 300 [.d (.str s),.d (.int .u8 (c.toNat:Int))] (fun r=>r = .d (.int .i64 (firstIdx s ((c.toNat:Int).toNat.toUInt8)))):=by
 refine fnp_enter' _ Tryz.func300 rfl rfl (by kernel_rfl) ?_
 intro O w0 E0 β0
 repeat' (first|refine z0 ?_|apply ds_nil|apply dw_seq2|refine z16 ?_|apply dw_ret|apply thenD_n|refine z21 ?_ (hc:=by apply indexByte0_fn)|fail)
 exact ret_i rfl rfl
end Go.Proofs.YtapciiffpnociadGreat
