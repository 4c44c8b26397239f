/- Several texts in one: GxPtr GxShw DagF DagG DagH VwB DagI. Condition: none. -/
import Derived.Test.YtapciiffpnociaaGreatP09
import Derived.Test.YtapciiffpnociaaGreatP14
import Derived.Test.YtapciiffpnociaaGreatP10
import Derived.Test.YtapciiffpnociaaGreatP06
namespace Go.Proofs.YtapciiffpnociaaGreat
open Go Go.RowKit
def CellOk (S:Nat→Prop) (H:Hp) (s:SV) (d:D):Prop:=s = .d d∨(∃ i te es xs,s = .row i∧S i∧Hp.get H i=some (.row te es xs)∧d = .slice es xs)∨(s = .nils∧∃ es,d = .slice es [])
def BlkOk (S:Nat→Prop) (H:Hp) (id:Nat) (ds:List D):Prop:=S id∧∃ ty cs,Hp.get H id=some (.blk ty cs)∧∀ j (h:j < ds.length),∃ s,cs[j]? = some s∧CellOk S H s ds[j]
theorem mem_eq:∀ {H:Hp},(H.map (·.1)).Nodup→∀ {p q:Nat × HB},p∈H→q∈H→p.1=q.1→p=q
 | [],_,_,_,h,_,_=>by simp at h
 | x::H,hn,p,q,hp,hq,he=>by
  obtain⟨h1,h2⟩:=List.nodup_cons.1 hn
  rcases List.mem_cons.1 hp with rfl|hp'
  ·rcases List.mem_cons.1 hq with rfl|hq'
   ·rfl
   ·exact absurd (List.mem_map.2 ⟨q,hq',he.symm⟩) h1
  ·rcases List.mem_cons.1 hq with rfl|hq'
   ·exact absurd (List.mem_map.2 ⟨p,hp',he⟩) h1
   ·exact mem_eq h2 hp' hq' he
theorem Hp.mem_del {i:Nat}:∀ {H:Hp} {p:Nat × HB},p∈H→p.1≠i→p∈Hp.del H i
 | [],_,h,_=>by simp at h
 | (d,s)::H,p,hp,hne=>by
  simp only [Hp.del]
  cases hb:Nat.beq d i with
  | true =>
   have:=Nat.eq_of_beq_eq_true hb
   rcases List.mem_cons.1 hp with rfl|hp'
   ·exact absurd this hne
   ·exact hp'
  | false =>
   rcases List.mem_cons.1 hp with rfl|hp'
   ·exact List.mem_cons_self ..
   ·exact List.mem_cons_of_mem _ (Hp.mem_del hp' hne)
section
variable {Γ : Ctx} {k : Nat} {L : Sl} {H : Hp} {a : Act} {w : World} {e : Env} {S : Nat → Prop} {X' : Nat → Prop}
theorem cell_rep (m:Models Γ k L H e a w) (h1:∀ b,X' b→Γ.X e H b) (h2:∀ p∈H,S p.1→∀ b,HB.owned e p=some b→¬ X' b) {s:SV} {d:D} (h:CellOk S H s d) {v:Value} (hr:Rel (Γ.X e H) e w s v):RepC X' w v d:=by
 rcases h with rfl|⟨i,te,es,xs,rfl,hS,hH,rfl⟩|⟨rfl,es,rfl⟩
 ·exact RepC.keep (Nat.le_refl _) (fun _ _ _=>rfl) (fun b _ h=>h1 b h) hr
 ·rw [hr.2.1]
  refine RepC.keep (Nat.le_refl _) (fun _ _ _=>rfl) (fun b _ h=>?_) (row_data m hH)
  rcases h1 b h with ho|ho
  ·exact .inl ho
  ·obtain⟨p,hp,hpb⟩:=List.mem_filterMap.1 ho
   have hne:p.1≠i:=by
    intro hpi
    have:=mem_eq m.ids hp (Hp.mem_of hH) hpi
    subst this
    exact h2 _ hp hS b hpb h
   exact .inr (List.mem_filterMap.2 ⟨p,Hp.mem_del hp hne,hpb⟩)
 ·rw [show v = .slice none 0 0 from hr];exact .nil
theorem ptr_rep (m:Models Γ k L H e a w) (h1:∀ b,X' b→Γ.X e H b) (h2:∀ p∈H,S p.1→∀ b,HB.owned e p=some b→¬ X' b) {id:Nat} {ds:List D} (h:BlkOk S H id ds) {v:Value} (hv:v = .pointer (some ⟨e.β id,0,none⟩)):RepC X' w v (.ptr ds):=by
 obtain⟨hS,ty,cs,hH,hc⟩:=h
 have hmem:=Hp.mem_of hH
 obtain⟨us,g1,g2,_⟩:=(m.heap _ hmem).2
 subst hv
 have hcell:∀ j (hj:j < ds.length),∃ u,us[j]? = some u∧RepC X' w u ds[j]:=by
  intro j hj
  obtain⟨s,q1,q2⟩:=hc j hj
  obtain⟨u,q3,q4⟩:=RelL.get _ _ g2 j s q1
  exact⟨u,q3,cell_rep m h1 h2 q2 q4⟩
 refine .ptr (fun j=>us.getD j undef) (h2 _ hmem hS _ rfl) (dg g1) (fun j hj=>?_) (fun j hj=>?_)
 ·obtain⟨u,q3,_⟩:=hcell j hj
  rw [cell_of_row w _ _ _ ty (0,0) g1,Nat.zero_add]
  simp [List.getD,q3]
 ·obtain⟨u,q3,q4⟩:=hcell j hj
  simp only [List.getD,q3,Option.getD_some]
  exact q4
theorem ptrs_rep (m:Models Γ k L H e a w) (h1:∀ b,X' b→Γ.X e H b) (h2:∀ p∈H,S p.1→∀ b,HB.owned e p=some b→¬ X' b) {i n cap:Nat} {te:TypeId} {cs:List SV} {dss:List (List D)} (hS:S i) (hH:Hp.get H i=some (.blk te cs)) (hn:dss.length=n)
  (hc:∀ j (h:j < dss.length),∃ id,cs[j]? = some (.loc id 0)∧BlkOk S H id dss[j]) {v:Value} (hr:Rel (Γ.X e H) e w (.sl i 0 n cap) v):RepC X' w v (.slice 1 (dss.map fun ds=>[.ptr ds])):=by
 obtain⟨_,hnc,hcm,o,rfl,ho⟩:=hr
 have hmem:=Hp.mem_of hH
 obtain⟨us,g1,g2,_⟩:=(m.heap _ hmem).2
 have hcell:∀ j (hj:j < dss.length),∃ u,us[j]? = some u∧RepC X' w u (.ptr dss[j]):=by
  intro j hj
  obtain⟨id,q1,q2⟩:=hc j hj
  obtain⟨u,q3,q4⟩:=RelL.get _ _ g2 j _ q1
  exact⟨u,q3,ptr_rep m h1 h2 q2 q4.2⟩
 subst hn
 refine .slice (fun i' _=>us.getD i' undef) (by simp) hnc hcm (h2 _ hmem hS _ rfl) (dg g1) (fun i' hi=>by simp) (fun i' hi j hj=>?_) (fun i' hi j hj=>?_)
 ·rw [List.length_map] at hi
  simp only [List.getElem_map,List.length_cons,List.length_nil,Nat.zero_add,Nat.lt_one_iff] at hj
  subst hj
  obtain⟨u,q3,_⟩:=hcell i' hi
  have:o=0:=ho (by omega)
  subst this
  rw [cell_of_row w _ _ _ te (0,0) g1,Nat.zero_add,Nat.mul_one]
  simp [List.getD,q3]
 ·rw [List.length_map] at hi
  simp only [List.getElem_map,List.length_cons,List.length_nil,Nat.zero_add,Nat.lt_one_iff] at hj
  subst hj
  obtain⟨u,q3,q4⟩:=hcell i' hi
  simp only [List.getD,q3,Option.getD_some,List.getElem_map,List.getElem_cons_zero]
  exact q4
end
theorem FnP.use_at {dr:Bool} {P:Program} {τ:List (Nat × TI)} {τok:d7 P τ} {f:FuncId} {args:List SV} {R:SV→Prop} (hc:FnP dr P τ τok f args R) (e:Env) {w:World} (O:Nat→Prop) (hO:∀ b,O b→b < w.heap.size) (hlow:SV.lowL 0 args=true)
  (vs:List Value) (hr:RelL O e w args vs) :
  Calls P f vs.toArray w (fun en w'=>∃ r v,R r∧en = .returned v∧Beld dr w.heap.size w w'∧r.low 0=true∧Rel O e w' r v):=by
 have hX:∀ e' b,Ctx.X ⟨P,τ,τok,O,w,fun b=>b∈aw (e.ren id 0) [],0,0,(e.ren id 0).an,none,dm,true,dr⟩ e' [] b↔O b:=by
  intro e' b
  unfold Ctx.X
  simp [aw]
 refine (hc.2 O (e.ren id 0) w vs ⟨fun _=>Iff.rfl,by simp,by simp,by simp [aw],by simp [aw],rfl,rfl,rfl,fun _=>Nat.le_refl _,Nat.le_refl _,fun _ _ _=>rfl,fun b hb=>⟨hO b hb,by simp [aw]⟩,fun j hj=>absurd hj (Nat.not_lt_zero j),fun j hj=>absurd hj (Nat.not_lt_zero j)⟩ ?_).mono ?_
 ·exact RelL.keep (Nat.le_refl _) (fun _ _ _=>rfl) (fun b _ hy=>(hX _ b).1 hy) _ _ (RelL.env _ _ hlow hr)
 ·rintro en w' ⟨k',r,H',e',v,⟨rfl,hlr,hR⟩,rfl,hH,hrel⟩
  refine⟨r,v,hR,rfl,⟨⟨hH.os,hH.tape,hH.output,hH.size,fun b hb=>hH.block b hb (by simp [aw])⟩,hH.drawn⟩,hlr,?_⟩
  exact Rel.keep (Nat.le_refl _) (fun _ _ _=>rfl) (fun b _ hy=>(hX _ b).2 hy) _ _ (Rel.env _ _ hlr hrel)
theorem sure_rel {X Y:Nat→Prop} {e e':Env} {w w':World} {s:SV} {u v:Value} (hu:s.sure=some u) (hr:Rel X e w s v):Rel Y e' w' s v:=by
 cases s with
 | d x =>
  cases x with
  | int i n=>cases hr;exact .int (by assumption)
  | bool b=>cases hr;exact .bool
  | str s=>cases hr;exact .str (by assumption)
  | slice=>simp [SV.sure] at hu
  | ptr=>simp [SV.sure] at hu
 | _=>simp [SV.sure] at hu
section
variable {Γ : Ctx} {k : Nat} {L : Sl} {H : Hp} {K : cq} {ops : List Oper} {rest : List Oper}
theorem ds_lend {f:FuncId} {xs:List Operand} {ts:Array TypeId} {ty:TypeId} {pos:String} {af:Array Edge} {g:Option (Nat × Bool)} {d:Nat} {args:List SV} {r:SV} {u:Value} (hw:bf ops L g=some true)
  (hl:∀ e a w,Models Γ k L H e a w→RelL Γ.O e w args (xs.map a.eval)) (hc:FnP Γ.dr Γ.P Γ.τ Γ.τok f args (fun s=>s=r)) (hu:r.sure=some u) (hlow:SV.lowL 0 args=true) (hd:Nat.blt d Γ.n=true)
  (hk:DS false Γ ops rest K k ((d,r)::L) H) :
  DS false Γ ops (⟨some d,.call { callee:=.value (.func f),args:=xs.toArray,argTypes:=ts },ty,pos,af,g⟩::rest) K k L H:=by
 refine gl hw fun e a w m=>?_
 unfold Oper.wp
 rw [kl hc.1]
 rw [Oper.upon_enter]
 refine (hc.use_at (τ:=Γ.τ) (τok:=Γ.τok) e Γ.O (fun b hb=>Nat.lt_of_lt_of_le (m.obound b hb).1 m.size) hlow _ (hl e a w m)).mono ?_
 rintro en w' ⟨r',v,rfl,rfl,hb,hlr,hrel⟩
 exact⟨k,_,H,e,(m.below hb).put (Nat.le_of_ble_eq_true hd) (sure_rel hu hrel),hk⟩
theorem ent_frz {S:Nat→Prop} {i n cap:Nat} {te:TypeId} {cs:List SV} {dss:List (List D)} (t:Nat) {H':Hp} (hL:L.get t = .sl i 0 n cap) (hS:S i) (hH:Hp.get H i=some (.blk te cs)) (hn:dss.length=n)
  (hc:∀ j (h:j < dss.length),∃ id,cs[j]? = some (.loc id 0)∧BlkOk S H id dss[j]) (hsub:∀ p∈H',p∈H∧¬ S p.1) (hid:(H'.map (·.1)).Nodup) (hown:∀ e,(aw e H).Nodup→(aw e H').Nodup) :
  Ent Γ k L H k ((t,.d (.slice 1 (dss.map fun ds=>[.ptr ds])))::L) H':=by
 intro e a w m
 have hX:∀ b,Γ.X e H' b→Γ.X e H b:=fun b hb=>hb.imp id fun hb=>by
  obtain⟨p,hp,ho⟩:=List.mem_filterMap.1 hb
  exact List.mem_filterMap.2 ⟨p,(hsub p hp).1,ho⟩
 have hX2:∀ p∈H,S p.1→∀ b,HB.owned e p=some b→¬ Γ.X e H' b:=by
  intro p hp hSp b hb hx
  rcases hx with hx|hx
  ·exact (m.mine b (List.mem_filterMap.2 ⟨p,hp,hb⟩)).2 hx
  ·obtain⟨q,hq,hqb⟩:=List.mem_filterMap.1 hx
   exact m.owned_ne (hsub q hq).1 hp (fun he=>(hsub q hq).2 (he▸hSp)) hqb hb
 refine⟨e,⟨⟨m.top,fun p hp=>⟨(m.heap p (hsub p hp).1).1,HRel.keep (Nat.le_refl _) (fun _ _ _=>rfl) (fun b _ hy=>hX b hy) p (fun _ _=>rfl) (m.heap p (hsub p hp).1).2⟩,hid,hown e m.nodup,fun b hb=>m.mine b (by
  obtain⟨p,hp,ho⟩:=List.mem_filterMap.1 hb
  exact List.mem_filterMap.2 ⟨p,(hsub p hp).1,ho⟩),m.os,m.tape,m.output,m.drawn,m.size,m.block,m.obound,m.jle,m.anchor⟩,m.defers,m.len,fun t'=>?_⟩⟩
 rw [Sl.get_cons]
 split
 ·rename_i ht
  subst ht
  have hs:=m.slot t
  rw [hL] at hs
  exact ptrs_rep m hX hX2 hS hH hn hc hs
 ·exact Rel.keep (Nat.le_refl _) (fun _ _ _=>rfl) (fun b _ hy=>hX b hy) _ _ (m.slot t')
end
section
variable {Γ : Ctx} {k : Nat} {L : Sl} {H : Hp} {K : cq} {ops : List Oper} {rest : List Oper} {t t' ty : TypeId} {x y : Operand}
theorem ds_append_ptr {d te t2 i off n cap es j te2:Nat} {cs:List SV} {sv:SV} {pos:String} {af:Array Edge} {g:Option (Nat × Bool)}
  (ht:Γ.sh t = .slice te) (hkn:(Γ.sh te).known=true) (hes:Γ.cells te=es) (hpos:Nat.blt 0 es=true) (hz:Nat.beq (ay Γ.τ te).zero.length (Γ.cells te)=true) (hzo:gg (ay Γ.τ te).zero=true)
  (hx:a8 L x = .sl i off n cap) (hH:Hp.get H i=some (.blk te cs)) (hfit:off + cap≤cs.length) (hy:a8 L y = .sl j 0 1 1) (hHj:Hp.get H j=some (.blk te2 [sv])) (he1:es=1) (hw:bf ops L g=some true) (hd:Nat.blt d Γ.n=true)
  (hroom:(n + 1) * (ay Γ.τ te).bytes≤140737488355328) (h63:n + 1≤maxLen)
  (hk1:n + 1≤cap→DS false Γ ops rest K k ((d,.sl i off (n + 1) cap)::L) (Hp.set H i (.blk te (jv cs (off + n) [sv]))))
  (hk2:∀ cap',cap < n + 1→n + 1≤cap'→cap'≤maxLen→DS false Γ ops rest K (k + 1) ((d,.sl k 0 (n + 1) cap')::L) ((k,.blk te ((cs.drop off).take n++[sv]++List.replicate (cap' - (n + 1)) .junk))::H)) :
  DS false Γ ops (⟨some d,.call { callee:=.builtin .append,args:=#[x,y],argTypes:=#[t,t] },t2,pos,af,g⟩::rest) K k L H:=by
 have hfit:off + cap * es≤cs.length:=by rw [he1,Nat.mul_one];exact hfit
 refine gl hw fun e a w m=>?_
 obtain⟨inf,zv,hi,hzz,hs,hb,hzc⟩:=Ctx.info (Sh.known_ne hkn)
 have hut:=Ctx.slice ht
 obtain⟨hdom,hnc,hcm,o',hvx,ho'⟩:=evT m hx (cSV_sl · _ _ _ _)
 obtain⟨_,_,_,oy,hvy,hoy⟩:=evT m hy (cSV_sl · _ _ _ _)
 have hoy0:=hoy (by omega)
 subst hoy0
 obtain⟨us,hhj,hjs,honej⟩:=(m.heap _ (Hp.mem_of hHj)).2
 have hul1:=RelL.length _ _ hjs
 obtain⟨vs,hh,hcs,hone⟩:=(m.heap _ (Hp.mem_of hH)).2
 have hvl:=RelL.length _ _ hcs
 have hsz:inf.size=es:=by rw [hs,hes]
 have hpos':=Nat.le_of_ble_eq_true hpos
 have u1:us.length=1 * es:=by rw [← hul1,he1];rfl
 have u2:∀ q u,us[q]? = some u→w.cell? ((⟨e.β j,0,none⟩:Addr).add q)=some u:=by
  intro q u hq
  rw [Addr.add_at,cell_of_row w _ _ _ te2 (0,0) hhj]
  simpa using hq
 have u3:=honej
 have hul:[sv].length=us.length:=hul1
 have huflat:RelL (Γ.X e H) e w [sv] us:=hjs
 by_cases hcap:n + 1≤cap
 ·have hoo:o' = off:=ho' (by omega)
  subst hoo
  have hfit2:o' + n * inf.size + us.length≤vs.toArray.size:=by
   rw [u1,hsz,List.size_toArray,← hvl,Nat.add_assoc,← Nat.add_mul]
   exact Nat.le_trans (Nat.add_le_add_left (Nat.mul_le_mul_right _ hcap) _) hfit
  have hrun:=run_append_room_at (P:=Γ.P) w t t2 te inf hut hi (e.β i) o' n cap te vs.toArray hh ⟨e.β j,0,none⟩ 1 1 us (by rw [hsz];exact u1) u2 u3 hcap hfit2
  have hop:(execOp a.eval ⟨some d,.call { callee:=.builtin .append,args:=#[x,y],argTypes:=#[t,t] },t2,pos,af,g⟩).run Γ.P w = .ok (.value (.slice (some ⟨e.β i,o',none⟩) (n + 1) cap)) (w.setRow (e.β i) (vs.toArray.toList.take (o' + n * inf.size)++us++vs.toArray.toList.drop (o' + n * inf.size + us.length)).toArray):=by
   simp only [execOp,resolve,invoke,builtin,Sem.run_bind,Sem.run_pure,Result.andThen_ok,List.map_toArray,List.map_cons,List.map_nil,hvx,hvy,hrun]
  unfold Oper.wp
  rw [hop]
  have m2:Models Γ (lo k) L (Hp.set H i (.blk te (jv cs (o' + n * es) ([sv])))) e a (w.setRow (e.β i) (vs.toArray.toList.take (o' + n * inf.size)++us++vs.toArray.toList.drop (o' + n * inf.size + us.length)).toArray):=by
   refine m.turn (b':=.blk te (jv cs (o' + n * es) ([sv]))) hH ?_ rfl rfl rfl (fun _=>Nat.le_refl _) (fun c _ hc=>setRow_other w _ c _ (fun h=>hc (by simp [HB.owned,h]))) rfl ?_
   ·simp [World.setRow]
   ·refine⟨_,setRow_heap w (e.β i) vs.toArray _ te (0,0) hh,?_,fun v hv=>?_⟩
    ·have hkeep:∀ b,b < w.heap.size→¬ Γ.X e H b→(w.setRow (e.β i) (vs.toArray.toList.take (o' + n * inf.size)++us++vs.toArray.toList.drop (o' + n * inf.size + us.length)).toArray).heap[b]? = w.heap[b]?:=fun b _ hb=>setRow_other w _ b _ (fun h=>hb (.inr (List.mem_filterMap.2 ⟨_,Hp.mem_of hH,by simp [HB.owned,h]⟩)))
     refine RelL.keep (by simp [World.setRow]) hkeep (fun _ _ h=>h) _ _ ?_
     unfold jv
     rw [hsz,hul]
     exact RelL.append _ _ _ _ (RelL.append _ _ _ _ (RelL.take _ _ hcs _) huflat) (RelL.drop _ _ hcs _)
    ·simp only [List.mem_append] at hv
     rcases hv with (hv|hv)|hv
     ·exact hone v (List.mem_of_mem_take hv)
     ·exact u3 v hv
     ·exact hone v (List.mem_of_mem_drop hv)
  exact⟨_,_,_,_,m2.put (s:=.sl i o' (n + 1) cap) (Nat.le_of_ble_eq_true hd) ⟨hdom,hcap,hcm,o',rfl,fun _=>rfl⟩,by rw [he1,Nat.mul_one];exact hk1 hcap⟩
 ·have hlt:cap < n + 1:=by omega
  have hol:((vs.drop off).take (n * es)).length=n * inf.size:=by
   rw [List.length_take,List.length_drop,← hvl,hsz]
   have:n * es≤cap * es:=Nat.mul_le_mul_right _ hnc
   omega
  have holds:∀ j v,((vs.drop off).take (n * es))[j]? = some v→w.cell? ((⟨e.β i,o',none⟩:Addr).add j)=some v:=by
   intro j v hj
   have hjl:j < n * es:=by
    rw [List.getElem?_take] at hj
    split at hj
    ·assumption
    ·cases hj
   have hn0:0 < cap:=by
    rcases Nat.eq_zero_or_pos n with h|h
    ·rw [h,Nat.zero_mul] at hjl;omega
    ·omega
   have hoo:=ho' hn0
   subst hoo
   rw [List.getElem?_take,if_pos hjl,List.getElem?_drop] at hj
   rw [Addr.add_at,cell_of_row w _ _ _ te (0,0) hh]
   simpa using hj
  have h63':((n + 1:Nat):Int)≤9223372036854775807:=by unfold maxLen at h63;omega
  have hrun:=run_append_grow (P:=Γ.P) w t t2 te inf zv hut hi hzz ⟨e.β i,o',none⟩ n cap ((vs.drop off).take (n * es)) hol holds ⟨e.β j,0,none⟩ 1 1 us (by rw [hsz];exact u1) u2 hlt h63' (growslice_fits hlt (by rw [hb];exact hroom))
  have hge:=grownCap_ge w (n + 1) cap te
  have hcm':grownCap w (n + 1) cap te≤maxLen:=grownCap_le_maxLen w (n + 1) cap te h63
  generalize grownCap w (n + 1) cap te=c' at hrun hge hcm'
  have hop:(execOp a.eval ⟨some d,.call { callee:=.builtin .append,args:=#[x,y],argTypes:=#[t,t] },t2,pos,af,g⟩).run Γ.P w = .ok (.value (.slice (some ⟨w.heap.size,0,none⟩) (n + 1) c'))
    (w.drew.alloc (.cells (((vs.drop off).take (n * es)).toArray++us.toArray++Builtin.zeroCells zv.cells (c' - (n + 1))) te)):=by
   simp only [execOp,resolve,invoke,builtin,Sem.run_bind,Sem.run_pure,Result.andThen_ok,List.map_toArray,List.map_cons,List.map_nil,hvx,hvy,hrun]
  unfold Oper.wp
  rw [hop]
  have m1:Models Γ (lo k) L H e a w.drew:=m.below ((Beld.refl _ _ _).drew)
  have hzsz:zv.cells.size=es:=by rw [← Array.length_toList,hzc,Nat.eq_of_beq_eq_true hz,hes]
  have m2:=(m1.alloc (f5 k) (cs:=(cs.drop off).take (n * es)++[sv]++List.replicate ((c' - (n + 1)) * es) .junk)
   (vs:=(vs.drop off).take (n * es)++us++(Builtin.zeroCells zv.cells (c' - (n + 1))).toList) te
   (RelL.append _ _ _ _ (RelL.append _ _ _ _ (RelL.take _ _ (RelL.drop _ _ (RelL.keep (w:=w) (w':=w.drew) (Nat.le_refl _) (fun _ _ _=>rfl) (fun _ _ h=>h) _ _ hcs) _) _) (RelL.keep (w:=w) (w':=w.drew) (Nat.le_refl _) (fun _ _ _=>rfl) (fun _ _ h=>h) _ _ huflat)) (junk_rel _ _ (by rw [Array.length_toList,size_zeroCells,hzsz])))
   (fun v hv=>by
    simp only [List.mem_append] at hv
    rcases hv with (hv|hv)|hv
    ·exact hone v (List.mem_of_mem_drop (List.mem_of_mem_take hv))
    ·exact u3 v hv
    ·have:=jz hv
     rw [hzc] at this
     exact (fj (X:=Γ.X e H) (e:=e) (w:=w) _ hzo).2 v this)).cast (fe k)
  have harr:((vs.drop off).take (n * es)++us++(Builtin.zeroCells zv.cells (c' - (n + 1))).toList).toArray=((vs.drop off).take (n * es)).toArray++us.toArray++Builtin.zeroCells zv.cells (c' - (n + 1)):=by simp
  rw [harr] at m2
  refine⟨_,_,_,_,m2.put (s:=.sl k 0 (n + 1) c') (Nat.le_of_ble_eq_true hd) ⟨.inr rfl,hge,hcm',0,?_,fun _=>rfl⟩,by rw [he1,Nat.mul_one,Nat.mul_one];exact hk2 c' hlt hge hcm'⟩
  show _=Value.slice (some ⟨(e.bind k w.heap.size).β k,0,none⟩) (n + 1) c'
  rw [show (e.bind k w.heap.size).β k=w.heap.size from if_pos rfl]
theorem ds_append_ptr0 {d te t2 es j te2:Nat} {sv:SV} {pos:String} {af:Array Edge} {g:Option (Nat × Bool)}
  (ht:Γ.sh t = .slice te) (hkn:(Γ.sh te).known=true) (hes:Γ.cells te=es) (hpos:Nat.blt 0 es=true) (hz:Nat.beq (ay Γ.τ te).zero.length (Γ.cells te)=true) (hzo:gg (ay Γ.τ te).zero=true)
  (hx:a8 L x = .nils) (hy:a8 L y = .sl j 0 1 1) (hHj:Hp.get H j=some (.blk te2 [sv])) (he1:es=1) (hw:bf ops L g=some true) (hd:Nat.blt d Γ.n=true)
  (hroom:(ay Γ.τ te).bytes≤140737488355328)
  (hk2:∀ cap',1≤cap'→cap'≤maxLen→DS false Γ ops rest K (k + 1) ((d,.sl k 0 1 cap')::L) ((k,.blk te ([sv]++List.replicate (cap' - 1) .junk))::H)) :
  DS false Γ ops (⟨some d,.call { callee:=.builtin .append,args:=#[x,y],argTypes:=#[t,t] },t2,pos,af,g⟩::rest) K k L H:=by
 refine gl hw fun e a w m=>?_
 obtain⟨inf,zv,hi,hzz,hs,hb,hzc⟩:=Ctx.info (Sh.known_ne hkn)
 have hut:=Ctx.slice ht
 have hvx:=evNils m hx
 obtain⟨_,_,_,oy,hvy,hoy⟩:=evT m hy (cSV_sl · _ _ _ _)
 have hoy0:=hoy (by omega)
 subst hoy0
 obtain⟨us,hhj,hjs,honej⟩:=(m.heap _ (Hp.mem_of hHj)).2
 have hul1:=RelL.length _ _ hjs
 have hsz:inf.size=es:=by rw [hs,hes]
 have hpos':=Nat.le_of_ble_eq_true hpos
 have u1:us.length=1 * es:=by rw [← hul1,he1];rfl
 have u2:∀ q u,us[q]? = some u→w.cell? ((⟨e.β j,0,none⟩:Addr).add q)=some u:=by
  intro q u hq
  rw [Addr.add_at,cell_of_row w _ _ _ te2 (0,0) hhj]
  simpa using hq
 have u3:=honej
 have hul:[sv].length=us.length:=hul1
 have huflat:RelL (Γ.X e H) e w [sv] us:=hjs
 have hrun:=run_append_nil (P:=Γ.P) (w:=w) t t2 te inf zv hut hi hzz ⟨e.β j,0,none⟩ 1 1 us (by rw [hsz];exact u1) u2 (by omega) (by omega) (by rw [hb];omega)
 have hge:=grownCap_ge w 1 0 te
 have hcm':grownCap w 1 0 te≤maxLen:=grownCap_le_maxLen w 1 0 te (by unfold maxLen;omega)
 generalize grownCap w 1 0 te=c' at hrun hge hcm'
 have hop:(execOp a.eval ⟨some d,.call { callee:=.builtin .append,args:=#[x,y],argTypes:=#[t,t] },t2,pos,af,g⟩).run Γ.P w = .ok (.value (.slice (some ⟨w.heap.size,0,none⟩) 1 c'))
   (w.drew.alloc (.cells (us.toArray++Builtin.zeroCells zv.cells (c' - 1)) te)):=by
  simp only [execOp,resolve,invoke,builtin,Sem.run_bind,Sem.run_pure,Result.andThen_ok,List.map_toArray,List.map_cons,List.map_nil,hvx,hvy,hrun]
 unfold Oper.wp
 rw [hop]
 have m1:Models Γ (lo k) L H e a w.drew:=m.below ((Beld.refl _ _ _).drew)
 have hzsz:zv.cells.size=es:=by rw [← Array.length_toList,hzc,Nat.eq_of_beq_eq_true hz,hes]
 have m2:=(m1.alloc (f5 k) (cs:=[sv]++List.replicate ((c' - 1) * es) .junk)
  (vs:=us++(Builtin.zeroCells zv.cells (c' - 1)).toList) te
  (RelL.append _ _ _ _ (RelL.keep (w:=w) (w':=w.drew) (Nat.le_refl _) (fun _ _ _=>rfl) (fun _ _ h=>h) _ _ huflat) (junk_rel _ _ (by rw [Array.length_toList,size_zeroCells,hzsz])))
  (fun v hv=>by
   simp only [List.mem_append] at hv
   rcases hv with hv|hv
   ·exact u3 v hv
   ·have:=jz hv
    rw [hzc] at this
    exact (fj (X:=Γ.X e H) (e:=e) (w:=w) _ hzo).2 v this)).cast (fe k)
 have harr:(us++(Builtin.zeroCells zv.cells (c' - 1)).toList).toArray=us.toArray++Builtin.zeroCells zv.cells (c' - 1):=by simp
 rw [harr] at m2
 refine⟨_,_,_,_,m2.put (s:=.sl k 0 1 c') (Nat.le_of_ble_eq_true hd) ⟨.inr rfl,hge,hcm',0,?_,fun _=>rfl⟩,by rw [he1,Nat.mul_one];exact hk2 c' hge hcm'⟩
 show _=Value.slice (some ⟨(e.bind k w.heap.size).β k,0,none⟩) 1 c'
 rw [show (e.bind k w.heap.size).β k=w.heap.size from if_pos rfl]
end
end Go.Proofs.YtapciiffpnociaaGreat
namespace Go.Proofs.YtapciiffpnociaaGreat
open Go Go.RowKit
def shC (H:Hp):SV→Option D
 | .d x=>some x
 | .row j=>match Hp.get H j with|some (.row _ es xs)=>some (.slice es xs)|_=>none
 | _=>none
def shCs (H:Hp):List SV→Option (List D)
 | []=>some []
 | s::l=>match shC H s,shCs H l with|some d,some ds=>some (d::ds)|_,_=>none
def shQ (H:Hp) (i:Nat):Option D:=match Hp.get H i with|some (.blk _ cs)=>(match shCs H cs with|some ds=>some (.ptr ds)|none=>none)|_=>none
def shC2 (H:Hp):SV→Option D
 | .loc i 0=>shQ H i
 | s=>shC H s
def shCs2 (H:Hp):List SV→Option (List D)
 | []=>some []
 | s::l=>match shC2 H s,shCs2 H l with|some d,some ds=>some (d::ds)|_,_=>none
def shP (H:Hp) (i:Nat):SV:=match Hp.get H i with|some (.blk _ cs)=>(match shCs2 H cs with|some ds=>.pd ds|none=>.loc i 0)|_=>.loc i 0
def shR (H:Hp) (j:Nat):SV:=match Hp.get H j with|some (.row _ es xs)=>.d (.slice es xs)|_=>.row j
def shK (H:Hp):SV→SV
 | .row j=>shR H j
 | .loc i 0=>shP H i
 | s=>s
def shKs (H:Hp):List SV→List SV
 | []=>[]
 | s::l=>shK H s::shKs H l
def shS (H:Hp):SV→SV
 | .fn f caps=>.fn f (shKs H caps)
 | s=>shK H s
def shL (H:Hp):List SV→List SV
 | []=>[]
 | s::l=>shS H s::shL H l
def scalTs:List SV→Bool
 | []=>true
 | s::l=>scalB s && scalTs l
def scalT:SV→Bool
 | .tup l=>scalTs l
 | s=>scalB s
theorem scalTs_rel {X Y:Nat→Prop} {e e':Env} {w w':World}:∀ {l:List SV} {vs:List Value},scalTs l=true→RelL X e w l vs→RelL Y e' w' l vs
 | [],[],_,_=>trivial
 | [],_::_,_,h=>h
 | _::_,[],_,h=>h
 | s::l,v::vs,h,g=>by
  simp only [scalTs,Bool.and_eq_true] at h
  exact⟨scal_rel h.1 g.1,scalTs_rel h.2 g.2⟩
theorem scalT_rel {X Y:Nat→Prop} {e e':Env} {w w':World} {s:SV} {v:Value} (h:scalT s=true) (hr:Rel X e w s v):Rel Y e' w' s v:=by
 cases s with
 | tup l =>
  obtain⟨vs,h1,h2⟩:=hr
  exact⟨vs,h1,scalTs_rel h h2⟩
 | d x=>exact scal_rel (s:=.d x) h hr
 | _=>cases h
section
variable {Γ : Ctx} {k : Nat → Prop} {L : Sl} {H : Hp} {a : Act} {w : World} {e : Env}
theorem row_out (m:Models Γ k L H e a w) {i es:Nat} {te:TypeId} {xs:List (List D)} (hH:Hp.get H i=some (.row te es xs)):RepC Γ.O w (e.η i) (.slice es xs) :=
 RepC.keep (Nat.le_refl _) (fun _ _ _=>rfl) (fun _ _ h=>.inl h) (row_data m hH)
theorem shC_rel (m:Models Γ k L H e a w) {s:SV} {d:D} {v:Value} (h:shC H s=some d) (hr:Rel (Γ.X e H) e w s v):RepC Γ.O w v d:=by
 unfold shC at h
 split at h
 ·cases h
  exact RepC.keep (Nat.le_refl _) (fun _ _ _=>rfl) (fun _ _ h=>.inl h) hr
 ·split at h
  ·rename_i hH
   cases h
   rw [hr.2.1]
   exact row_out m hH
  ·cases h
 ·cases h
theorem shCs_rel (m:Models Γ k L H e a w):∀ {cs:List SV} {ds:List D} {vs:List Value},shCs H cs=some ds→RelL (Γ.X e H) e w cs vs→∀ j (h:j < ds.length),∃ u,vs[j]? = some u∧RepC Γ.O w u ds[j]
 | [],ds,_,h,_,j,hj=>by cases h;exact absurd hj (Nat.not_lt_zero j)
 | _::_,_,[],_,g,_,_=>g.elim
 | s::cs,ds,v::vs,h,g,j,hj=>by
  unfold shCs at h
  split at h
  ·rename_i d ds' h1 h2
   cases h
   cases j with
   | zero=>exact⟨v,rfl,shC_rel m h1 g.1⟩
   | succ j=>exact shCs_rel m h2 g.2 j (by simpa using hj)
  ·cases h
theorem shC2_rel (m:Models Γ k L H e a w) {s:SV} {d:D} {v:Value} (h:shC2 H s=some d) (hr:Rel (Γ.X e H) e w s v):RepC Γ.O w v d:=by
 unfold shC2 at h
 split at h
 ·unfold shQ at h
  split at h
  ·rename_i ty cs hH
   split at h
   ·rename_i ds hds
    cases h
    obtain⟨vs,h1,h2,_⟩:=(m.heap _ (Hp.mem_of hH)).2
    have hown:e.β _∈aw e H:=List.mem_filterMap.2 ⟨_,Hp.mem_of hH,rfl⟩
    rw [hr.2]
    refine .ptr (fun j=>vs.getD j undef) (m.mine _ hown).2 (Array.getElem?_eq_some_iff.1 h1).1 (fun j hj=>?_) (fun j hj=>?_)
    ·obtain⟨u,u1,u2⟩:=shCs_rel m hds h2 j hj
     simp [World.cell?,h1,u1]
    ·obtain⟨u,u1,u2⟩:=shCs_rel m hds h2 j hj
     simp only [List.getD,u1,Option.getD_some]
     exact u2
   ·cases h
  ·cases h
 ·exact shC_rel m h hr
theorem shCs2_rel (m:Models Γ k L H e a w):∀ {cs:List SV} {ds:List D} {vs:List Value},shCs2 H cs=some ds→RelL (Γ.X e H) e w cs vs→∀ j (h:j < ds.length),∃ u,vs[j]? = some u∧RepC Γ.O w u ds[j]
 | [],ds,_,h,_,j,hj=>by cases h;exact absurd hj (Nat.not_lt_zero j)
 | _::_,_,[],_,g,_,_=>g.elim
 | s::cs,ds,v::vs,h,g,j,hj=>by
  unfold shCs2 at h
  split at h
  ·rename_i d ds' h1 h2
   cases h
   cases j with
   | zero=>exact⟨v,rfl,shC2_rel m h1 g.1⟩
   | succ j=>exact shCs2_rel m h2 g.2 j (by simpa using hj)
  ·cases h
theorem shK_rel (m:Models Γ k L H e a w) {s:SV} {v:Value} (hr:Rel (Γ.X e H) e w s v):Rel Γ.O e w (shK H s) v:=by
 have hk:Rel Γ.O e w s v:=Rel.keep (Nat.le_refl _) (fun _ _ _=>rfl) (fun _ _ h=>.inl h) _ _ hr
 unfold shK
 split
 ·rename_i j
  unfold shR
  split
  ·rename_i hH
   rw [hr.2.1]
   exact row_out m hH
  ·exact hk
 ·rename_i i
  unfold shP
  split
  ·rename_i ty cs hH
   split
   ·rename_i ds hds
    obtain⟨vs,h1,h2,_⟩:=(m.heap _ (Hp.mem_of hH)).2
    have hown:e.β i∈aw e H:=List.mem_filterMap.2 ⟨_,Hp.mem_of hH,rfl⟩
    refine⟨e.β i,0,hr.2,(Array.getElem?_eq_some_iff.1 h1).1,(m.mine _ hown).2,fun j hj=>?_⟩
    obtain⟨u,u1,u2⟩:=shCs2_rel m hds h2 j hj
    refine⟨u,?_,u2⟩
    simp [World.cell?,h1,u1]
   ·exact hk
  ·exact hk
 ·exact hk
theorem shKs_rel (m:Models Γ k L H e a w):∀ {l:List SV} {vs:List Value},RelL (Γ.X e H) e w l vs→RelL Γ.O e w (shKs H l) vs
 | [],[],_=>trivial
 | [],_::_,h=>h
 | _::_,[],h=>h
 | _::_,_::_,h=>⟨shK_rel m h.1,shKs_rel m h.2⟩
theorem shS_rel (m:Models Γ k L H e a w) {s:SV} {v:Value} (hr:Rel (Γ.X e H) e w s v):Rel Γ.O e w (shS H s) v:=by
 unfold shS
 split
 ·obtain⟨vs,h1,h2⟩:=hr
  exact⟨vs,h1,shKs_rel m h2⟩
 ·exact shK_rel m hr
theorem shL_rel (m:Models Γ k L H e a w):∀ {l:List SV} {vs:List Value},RelL (Γ.X e H) e w l vs→RelL Γ.O e w (shL H l) vs
 | [],[],_=>trivial
 | [],_::_,h=>h
 | _::_,[],h=>h
 | _::_,_::_,h=>⟨shS_rel m h.1,shL_rel m h.2⟩
end
section
variable {Γ : Ctx} {k : Nat} {L : Sl} {H : Hp} {K : cq} {ops : List Oper} {rest : List Oper}
theorem ds_callP {f:FuncId} {xs:List Operand} {ts:Array TypeId} {ty:TypeId} {pos:String} {af:Array Edge} {g:Option (Nat × Bool)} {d:Nat} {args:List SV} {R:SV→Prop} (hc:FnP Γ.dr Γ.P Γ.τ Γ.τok f args R)
  (ha:shL H (opsL L xs)=args) (hs:∀ r,R r→scalT r=true) (hw:bf ops L g=some true) (hok:eb xs=true) (hlow:SV.lowL 0 args=true) (hd:Nat.blt d Γ.n=true)
  (hk:∀ r,R r→DS false Γ ops rest K k ((d,r)::L) H):DS false Γ ops (⟨some d,.call { callee:=.value (.func f),args:=xs.toArray,argTypes:=ts },ty,pos,af,g⟩::rest) K k L H:=by
 refine gl hw fun e a w m=>?_
 unfold Oper.wp
 rw [kl hc.1]
 rw [Oper.upon_enter]
 refine (hc.use_at (τ:=Γ.τ) (τok:=Γ.τok) e Γ.O (fun b hb=>Nat.lt_of_lt_of_le (m.obound b hb).1 m.size) hlow _ (ha▸shL_rel m (ie m xs hok))).mono ?_
 rintro en w' ⟨r,v,hR,rfl,hb,hlr,hrel⟩
 exact⟨k,_,H,e,(m.below hb).put (Nat.le_of_ble_eq_true hd) (scalT_rel (hs r hR) hrel),hk r hR⟩
end
theorem FnP.shown {dr:Bool} {P:Program} {τ:List (Nat × TI)} {τok:d7 P τ} {f:FuncId} {args args':List SV} {J k:Nat} {H:Hp} {R:SV→Prop} (hc:FnP dr P τ τok f args' R) (ha:shL H args=args') (hlow:SV.lowL 0 args' = true) (hs:∀ r,R r→scalT r=true) :
  FnOk dr P τ τok f args J k H (fun k2 r H2=>k2=k∧R r∧H2=H):=by
 refine⟨hc.1,fun O e w vs hH hr=>?_⟩
 have m:Models ⟨P,τ,τok,O,w,fun b=>b∈aw e H,0,J,e.an,none,dm,true,dr⟩ (lo k) [] H e { tmps:=#[],defers:=[] } w:=⟨hH,.nil,rfl,fun _=>trivial⟩
 refine (hc.use_at (τ:=τ) (τok:=τok) e O (fun b hb=>Nat.lt_of_lt_of_le (m.obound b hb).1 m.size) hlow _ (ha▸shL_rel m hr)).mono ?_
 rintro en w' ⟨r,v,hR,rfl,hb,hlr,hrel⟩
 exact⟨k,r,H,e,v,⟨rfl,hR,rfl⟩,rfl,(m.below hb).toHeap,scalT_rel (hs r hR) hrel⟩
theorem FnP.shownR {dr:Bool} {P:Program} {τ:List (Nat × TI)} {τok:d7 P τ} {f:FuncId} {args args':List SV} {J k:Nat} {H:Hp} {R:SV→Prop} (hc:FnP dr P τ τok f args' R) (ha:shL H args=args') (hlow:SV.lowL 0 args' = true) (hs:∀ r,R r→scalT r=true) :
  FnOk dr P τ τok f args J k H (fun _ r H2=>R r∧H2=H):=by
 obtain⟨h1,h2⟩:=FnP.shown (J:=J) (k:=k) (H:=H) hc ha hlow hs
 refine⟨h1,fun O e w vs hH hr=>(h2 O e w vs hH hr).mono ?_⟩
 rintro en w' ⟨k',r,H',e',v,⟨_,hR,hH'⟩,h⟩
 exact⟨k',r,H',e',v,⟨hR,hH'⟩,h⟩
theorem posU_cons (x:Upd) (l:List Upd) (i:UId):posU (x::l) i=(if cv x.id i < 0 then 1 else 0) + posU l i:=by
 unfold posU
 rw [List.countP_cons]
 split <;> simp_all <;> omega
theorem posU_zero {l:List Upd} {i:UId} (h:∀ x∈l,¬ cv x.id i < 0):posU l i=0:=List.countP_eq_zero.2 fun u hu=>by simpa using h u hu
theorem posU_ins:∀ {l:List Upd} {u:Upd},StrU l→hasU l u.id=false→l.take (posU l u.id)++u::l.drop (posU l u.id)=insU l u
 | [],u,_,_=>rfl
 | x::l,u,hs,hn=>by
  obtain⟨h1,h2⟩:=List.pairwise_cons.1 hs
  unfold hasU at hn
  rw [List.any_cons,Bool.or_eq_false_iff] at hn
  have ha:=ordId_anti x.id u.id
  unfold insU
  split
  ·rename_i hlt
   rw [posU_zero (fun z hz=>?_)]
   ·rfl
   ·rcases List.mem_cons.1 hz with rfl|hz
    ·omega
    ·have h3:=kv hlt (h1 z hz)
     have h4:=ordId_anti z.id u.id
     omega
  ·rename_i hlt
   have hne:cv x.id u.id≠0:=fun h=>by rw [same_eq,decide_eq_true h] at hn;simp at hn
   rw [posU_cons,if_pos (by omega),Nat.add_comm,List.take_succ_cons,List.drop_succ_cons,List.cons_append,posU_ins h2 hn.2]
attribute [local irreducible] DW DS DL DQ Ev FnOk FnP em b9 DT
set_option maxHeartbeats 8000000 in
theorem dput_fn (l:List Upd) (u:Upd) (hl:l.length≤100000) (hs:StrU l) (hn:hasU l u.id=false):FnOk false Tryz.prog tab cn 71 [.row 0,jc u] 1 1 [(0,.row 53 5 (l.map a7))]
  (fun k r H=>k=2∧r = .row 1∧H=[(1,.row 53 5 ((insU l u).map a7))]):=by
 refine co _ Tryz.func71 rfl rfl (by kernel_rfl) ?_
 intro O w0 E0 β0
 have ll:(l.map a7).length=l.length:=List.length_map _
 have w:=at_fn l u.id (by omega) hs
 have hpl:posU l u.id≤l.length:=List.countP_le_length
 have w2:=insertU_fn l u (posU l u.id) hpl (by omega)
 rw [posU_ins hs hn] at w2
 repeat' (first|refine z0 ?_|apply ag|apply ae|refine z16 ?_|apply aa|refine z1 ?_|fail)
 refine ds_callP w rfl (by rintro r rfl;rfl) rfl rfl rfl rfl ?_
 rintro r rfl
 repeat' (first|refine z0 ?_|apply ag|apply ae|refine z16 ?_|apply aa|refine z4 ?_|fail)
 refine ds_callO id w2 rfl rfl rfl rfl ⟨rfl,trivial⟩ rfl rfl rfl rfl rfl rfl ?_ ?_
 ·rintro k2 r H2 ⟨rfl,rfl,rfl⟩;exact⟨rfl,rfl⟩
 rintro k2 r H2 ⟨rfl,rfl,rfl⟩
 change DS _ _ _ _ _ _ _ _
 repeat' (first|refine z0 ?_|apply ag|apply aj|apply aa)
 exact⟨.inl rfl,_,rfl,fun j=>match j with|1=>3|j=>j,2,.row 1,[(1,.row 53 5 ((insU l u).map a7))],rfl,⟨rfl,trivial⟩,rfl,rfl,rfl,rfl,rfl,rfl,rfl,rfl,rfl⟩
set_option maxHeartbeats 8000000 in
theorem cloneId_fn (l:List (UId)) (hl:l.length≤8796093022208):Fn 110 [.d (.slice 2 (l.map dj))] (fun r=>r = .d (.slice 2 (l.map dj))):=by
 refine ak _ Tryz.func110 rfl rfl (by kernel_rfl) ?_
 intro O w0 E0 β0
 have la:(l.map dj).length=l.length:=List.length_map _
 repeat' (first|refine z0 ?_|apply ag|apply ae|refine z16 ?_|apply aa)
 refine ds_eqnil rfl rfl rfl rfl rfl (fun h=>?_) ?_
 ·have h0:l=[]:=List.map_eq_nil_iff.1 h
  subst h0
  repeat' (first|refine z0 ?_|apply ag|apply ae|refine z16 ?_|refine z18 ?_|apply aa)
  refine ba (cr 2 2 rfl) ?_
  repeat' (first|apply aj|apply av)
  exact⟨.inl rfl,_,rfl,rfl,rfl⟩
 ·repeat' (first|(apply ds_bs0;exact rfl;exact rfl;exact rfl;exact rfl;exact rfl;exact rfl;exact rfl;exact rfl)|(first|refine z0 ?_|apply ag|apply ae|refine z16 ?_|apply ai|refine z19 ?_|apply aa|refine z2 ?_|fail))
  refine ba (dp 2 rfl rfl rfl) ?_
  repeat' (apply aj)
  exact⟨.inl rfl,_,rfl,rfl,rfl⟩
set_option maxHeartbeats 8000000 in
theorem wown_fn (u:Upd) (h1:u.parents.length≤1000000) (h2:u.takes.length≤1000000) (h3:u.says.length≤1000000) (h4:∀ f∈u.says,f.args.length≤1000000):Fn 72 [jc u] (fun r=>r=jc u):=by
 refine ak _ Tryz.func72 rfl rfl (by kernel_rfl) ?_
 intro O w0 E0 β0
 have w1:=cloneId_fn u.parents (by omega)
 have w2:=cloneId_fn u.takes (by omega)
 repeat' (first|refine z0 ?_|apply ag|refine z5 ?_|refine z6 ?_|refine z7 ?_|refine z11 ?_|apply ae|refine z16 ?_|refine z20 ?_|apply ah|apply aa|refine z22 ?_ (hc:=by apply w1)|refine z22 ?_ (hc:=by apply w2)|refine z1 ?_|fail)
 have ls:(u.says.map a6).length=u.says.length:=List.length_map _
 refine ba (k0 11 3 58 2 rfl rfl rfl) ?_
 refine bh (ι:=Nat) (fun i=>⟨3,[(2,.loc 0 0),(3,.loc 1 0),(16,.d (.slice 2 (u.says.map a6))),(17,.d (.int .i64 (u.says.map a6).length)),(18,.d (.int .i64 i))],
   [(0,.blk 53 [.d (.int .i64 0),.d (.int .i64 0),.nils,.nils,.nils]),(1,.blk 53 [.d (.int .i64 u.id.author),.d (.int .i64 u.id.number),.d (.slice 2 (u.parents.map dj)),.row 2,.d (.slice 2 (u.takes.map dj))]),(2,.row 58 2 ((u.says.take i).map a6))]⟩)
  (fun i=>i≤u.says.length) (fun i=>u.says.length - i) 0 (Nat.zero_le _) (ap (fun j=>match j with|0=>1|1=>11|2=>13|j=>j) ⟨rfl,rfl,rfl,rfl,rfl,trivial⟩ ⟨rfl,rfl,rfl,trivial⟩ rfl rfl rfl rfl rfl rfl) ?_
 clear w1 w2
 intro i hle
 have lt:((u.says.take i).map a6).length=i:=by rw [List.length_map,List.length_take];omega
 by_cases hi:i < u.says.length
 ·have w:=own_fn u.says[i] (by have:=h4 _ (List.getElem_mem hi);omega)
  repeat' (first|refine z0 ?_|apply ag|refine z5 ?_|refine z6 ?_|refine z9 ?_|refine z11 ?_|apply ae|refine z16 ?_|refine z20 ?_|apply ah|apply ai|apply au|apply aj|apply aa|apply aq|apply bg|refine z17 ?_|refine z22 ?_ (hc:=by apply w)|refine z1 ?_|refine z3 ?_|(refine z23 ?_ ?_ <;> intro hg)|fail)
  all_goals try (exfalso;omega)
  exact⟨i + 1,hi,ap (fun j=>match j with|2=>9|j=>j) ⟨rfl,rfl,rfl,rfl,rfl,trivial⟩ ⟨rfl,rfl,by rw [List.take_succ_eq_append_getElem hi,List.map_append];rfl,trivial⟩ rfl rfl rfl rfl rfl rfl,by omega⟩
 ·have htk:u.says.take i=u.says:=List.take_of_length_le (by omega)
  rw [htk]
  repeat' (first|refine z0 ?_|apply ag|refine z5 ?_|apply ae|refine z16 ?_|refine z20 ?_|apply ah|apply ai|apply au|apply aa|apply aq|refine z17 ?_|refine z1 ?_|refine z3 ?_|(refine z23 ?_ ?_ <;> intro hg)|fail)
  all_goals try (exfalso;omega)
  refine ba (ent_cellseal 0 3 2 rfl rfl rfl rfl rfl) ?_
  repeat' (apply aj)
  exact⟨.inl rfl,_,rfl,rfl,rfl⟩
structure ShortU (u:Upd):Prop where
 parents:u.parents.length≤100000
 takes:u.takes.length≤100000
 says:u.says.length≤1000000
 args:∀ f∈u.says,f.args.length≤1000000
set_option maxHeartbeats 8000000 in
theorem downs_fn (l:List Upd) (hl:l.length≤100000) (hs:∀ u∈l,ShortU u):FnRow false Tryz.prog tab cn 51 [.d (.slice 5 (l.map a7))] 53 5 (fun ys=>ys=l.map a7):=by
 refine co _ Tryz.func51 rfl rfl (by kernel_rfl) ?_
 intro O w0 E0 β0
 have ll:(l.map a7).length=l.length:=List.length_map _
 repeat' (first|refine z0 ?_|apply ag|apply ae|refine z16 ?_|apply ah|apply aa)
 refine ba (ea (t:=3) 53 5 rfl) ?_
 refine bh (ι:=Nat) (fun i=>⟨1,[(3,.row 0),(6,.d (.slice 5 (l.map a7))),(7,.d (.int .i64 (l.map a7).length)),(8,.d (.int .i64 i))],[(0,.row 53 5 ((l.take i).map a7))]⟩)
  (fun i=>i≤l.length) (fun i=>l.length - i) 0 (Nat.zero_le _) (ap id ⟨rfl,rfl,rfl,rfl,trivial⟩ ⟨rfl,trivial⟩ rfl rfl rfl rfl rfl rfl) ?_
 intro i hle
 have lt:((l.take i).map a7).length=i:=by rw [List.length_map,List.length_take];omega
 by_cases hi:i < l.length
 ·have hu:=hs _ (List.getElem_mem hi)
  have w:=wown_fn l[i] (Nat.le_trans hu.parents (by decide)) (Nat.le_trans hu.takes (by decide)) hu.says hu.args
  repeat' (first|refine z0 ?_|apply ag|apply ae|refine z16 ?_|apply ah|apply ai|apply au|apply aj|apply aa|apply aq|apply bg|refine z17 ?_|refine z21 ?_ (hc:=by apply w)|refine z1 ?_|refine z3 ?_|refine z4 ?_|refine z2 ?_|(refine z23 ?_ ?_ <;> intro hg)|fail)
  all_goals try (exfalso;omega)
  exact⟨i + 1,hi,ap (fun j=>match j with|0=>2|j=>j) ⟨rfl,rfl,rfl,rfl,trivial⟩ ⟨by rw [List.take_succ_eq_append_getElem hi,List.map_append];rfl,trivial⟩ rfl rfl rfl rfl rfl rfl,by omega⟩
 ·have htk:l.take i=l:=List.take_of_length_le (by omega)
  rw [htk]
  repeat' (first|refine z0 ?_|apply ag|apply ae|refine z16 ?_|apply ah|apply ai|apply au|apply aj|apply aa|apply aq|refine z17 ?_|refine z1 ?_|refine z3 ?_|(refine z23 ?_ ?_ <;> intro hg)|fail)
  all_goals try (exfalso;omega)
  exact⟨.inl rfl,_,rfl,id,1,.row 0,[(0,.row 53 5 (l.map a7))],rfl,⟨rfl,trivial⟩,rfl,rfl,rfl,rfl,rfl,rfl,_,rfl,rfl,rfl⟩
set_option maxHeartbeats 8000000 in
theorem dOwn_fn (r:Rpl) (h1:r.has.length≤100000) (h2:r.waits.length≤100000) (hs:∀ u∈r.has,ShortU u) (hw:∀ u∈r.waits,ShortU u):FnOk false Tryz.prog tab cn 25 [elRpl r] 0 0 []
  (fun k res H=>k=2∧res = .agg [.row 0,.row 1]∧H=[(0,.row 53 5 (r.has.map a7)),(1,.row 53 5 (r.waits.map a7))]):=by
 refine co _ Tryz.func25 rfl rfl (by kernel_rfl) ?_
 intro O w0 E0 β0
 have w1:=downs_fn r.has h1 hs
 have w2:=downs_fn r.waits h2 hw
 repeat' (first|apply ag|refine z5 ?_|apply ae|refine z16 ?_|refine z20 ?_|apply aa|refine z1 ?_|fail)
 refine dt_callW rfl rfl w1 rfl rfl rfl rfl ⟨_,rfl⟩ ?_
 rintro _ rfl
 repeat' refine z5 ?_
 refine dt_callW rfl rfl w2 rfl rfl rfl rfl ⟨_,rfl⟩ ?_
 rintro _ rfl
 repeat' (first|refine z5 ?_|refine z6 ?_|refine z11 ?_|apply aj|apply aa)
 exact⟨.inl rfl,_,rfl,fun j=>match j with|0=>4|1=>7|j=>j,2,.agg [.row 0,.row 1],[(0,.row 53 5 (r.has.map a7)),(1,.row 53 5 (r.waits.map a7))],rfl,⟨rfl,rfl,trivial⟩,rfl,rfl,rfl,rfl,rfl,rfl,rfl,rfl,rfl⟩
end Go.Proofs.YtapciiffpnociaaGreat
namespace Go.Proofs.YtapciiffpnociaaGreat
open Go Go.RowKit
theorem FnTr.of {dr:Bool} {P:Program} {τ:List (Nat × TI)} {τok:d7 P τ} {f:FuncId} {args:List SV} {te0 te:TypeId} {es0 es:Nat} {xs ys:List (List D)} (h:FnOk dr P τ τok f args 1 1 [(0,.row te0 es0 xs)] (fun k r H=>k=2∧r = .row 1∧H=[(1,.row te es ys)])) :
  FnTr dr P τ τok f args te0 es0 xs te es (fun zs=>zs=ys):=by
 unfold FnTr
 refine⟨h.1,fun O e w vs hH hr=>(h.2 O e w vs hH hr).mono ?_⟩
 rintro en w' ⟨k',r,H',e',v,⟨_,h2,h3⟩,h4⟩
 exact⟨k',r,H',e',v,⟨ys,rfl,h2,h3⟩,h4⟩
theorem idxF_or {α:Type} (p:α→Bool) (l:List α):(idxF p l = -1∧∀ x∈l,p x=false)∨∃ (i:Nat) (hi:i < l.length),idxF p l=i∧p (l[i]'hi)=true:=by
 cases h:l.findIdx? p with
 | none=>exact .inl ⟨by unfold idxF;rw [h],by simpa using List.findIdx?_eq_none_iff.1 h⟩
 | some i =>
  obtain⟨hi,hp,_⟩:=List.findIdx?_eq_some_iff_getElem.1 h
  exact .inr ⟨i,hi,by unfold idxF;rw [h],hp⟩
theorem erase_filter {l:List Upd} (hs:StrU l) {i:Nat} (hi:i < l.length):l.eraseIdx i=l.filter fun v=>!(v.id.same (l[i]'hi).id):=by
 have hn:∀ j (hj:j < l.length),j≠i→(!((l[j]'hj).id.same (l[i]'hi).id))=true:=fun j hj hne=>by
  rw [Bool.not_eq_true',← Bool.not_eq_true,same_iff]
  intro he
  have h1:=hs.uniq (List.getElem_mem hj) (List.getElem_mem hi) he
  exact hne ((List.getElem_inj hs.nodup).1 h1)
 have e:l=l.take i++l[i]'hi::l.drop (i + 1):=by rw [← List.drop_eq_getElem_cons hi,List.take_append_drop]
 have e1:(l.take i).filter (fun v=>!(v.id.same (l[i]'hi).id))=l.take i:=List.filter_eq_self.2 fun v hv=>by
  obtain⟨j,hj,rfl⟩:=List.mem_iff_getElem.1 hv
  rw [List.length_take] at hj
  rw [List.getElem_take]
  exact hn j (by omega) (by omega)
 have e2:(l.drop (i + 1)).filter (fun v=>!(v.id.same (l[i]'hi).id))=l.drop (i + 1):=List.filter_eq_self.2 fun v hv=>by
  obtain⟨j,hj,rfl⟩:=List.mem_iff_getElem.1 hv
  rw [List.length_drop] at hj
  rw [List.getElem_drop]
  exact hn _ (by omega) (by omega)
 have e3:(!((l[i]'hi).id.same (l[i]'hi).id))=false:=by rw [Bool.not_eq_false',same_iff]
 have key:∀ f:Upd→Bool,(l.take i).filter f=l.take i→(l.drop (i + 1)).filter f=l.drop (i + 1)→f (l[i]'hi)=false→l.filter f=l.take i++l.drop (i + 1):=fun f f1 f2 f3=>by
  have h:=congrArg (List.filter f) e
  rw [List.filter_append,List.filter_cons,f3,if_neg (by simp),f1,f2] at h
  exact h
 rw [List.eraseIdx_eq_take_drop_succ]
 exact (key _ e1 e2 e3).symm
attribute [local irreducible] DW DS DL DQ Ev FnOk FnP em b9 DT
abbrev vwB (p:Prg) (sn:List Fct):HB:=.blk 47 [.row 1,.row 2,.d (.slice 1 (p.arity.map bi)),.d (.slice 1 (p.names.map encT)),.d (.slice 5 (p.rules.map dx)),.d (.slice 2 (sn.map a6))]
abbrev vwD (p:Prg) (sn:List Fct) (r:Rpl):List D:=[.slice 5 (r.has.map a7),.slice 5 (r.waits.map a7),.slice 1 (p.arity.map bi),.slice 1 (p.names.map encT),.slice 5 (p.rules.map dx),.slice 2 (sn.map a6)]
abbrev vwH (p:Prg) (sn:List Fct) (r:Rpl):Hp:=[(0,vwB p sn),(1,.row 53 5 (r.has.map a7)),(2,.row 53 5 (r.waits.map a7))]
set_option maxHeartbeats 8000000 in
theorem put1V_fn (p:Prg) (sn:List Fct) (r:Rpl) (u:Upd) (hl:r.has.length≤1000000) (hs:StrU r.has) (h:u.parents.length + u.takes.length≤1000000):Fn 74 ([jc u]++[.pd [.ptr (vwD p sn r)]]) (fun res=>res = .d (.bool (readyU r.has u))):=by
 refine ak _ Tryz.func74 rfl rfl (by kernel_rfl) ?_
 intro O w0 E0 β0
 have w:=dready_fn r.has u hl hs h
 repeat' (first|refine z0 ?_|apply ag|refine z5 ?_|refine z10 ?_|apply ae|refine z16 ?_|refine z20 ?_|apply aj|apply aa|refine z22 ?_ (hc:=by apply w)|refine z1 ?_|fail)
 exact cm rfl rfl
set_option maxHeartbeats 8000000 in
theorem putV_fn (p:Prg) (sn:List Fct) (r:Rpl) (u:Upd) (hok:RplOk r.both r) (h1:r.has.length≤100000) (h2:r.waits.length≤100000) (hu:ShortU u) (hr:∀ u∈r.has,ShortU u) (hw:∀ u∈r.waits,ShortU u) :
  FnOk false Tryz.prog tab cn 35 [.loc 0 0,jc u] 1 3 (vwH p sn r) (fun k res H=>k=3∧(
   ((hasU r.has u.id=true∨hasU r.waits u.id=true)∧res = .d (.bool true)∧H=vwH p sn r) ∨
   (hasU r.has u.id=false∧hasU r.waits u.id=false∧200≤r.has.length + r.waits.length∧res = .d (.bool false)∧H=vwH p sn r) ∨
   (hasU r.has u.id=false∧hasU r.waits u.id=false∧r.has.length + r.waits.length < 200∧∃ r2:Rpl,RplOk (u::r.both) r2∧res = .d (.bool true)∧H=vwH p sn r2))):=by
 have sh:=hok.sh
 have sw:=hok.sw
 refine co _ Tryz.func35 rfl rfl (by kernel_rfl) ?_
 intro O w0 E0 β0
 have w1:FnOk false Tryz.prog tab cn 34 [.row 0,elId u.id] 1 1 [(0,.row 53 5 (r.has.map a7))] (fun _ res H2=>res = .d (.bool (hasU r.has u.id))∧H2=[(0,.row 53 5 (r.has.map a7))]) :=
  FnP.shownR (dhas_fn r.has u.id (by omega) sh) rfl rfl (by rintro _ rfl;rfl)
 repeat' (first|refine z0 ?_|apply ag|refine z5 ?_|apply ae|refine z16 ?_|refine z20 ?_|apply aa|refine z1 ?_|fail)
 refine dt_callR (fun j=>match j with|0=>1|j=>j) w1 (by rintro _ rfl;exact⟨rfl,rfl⟩) ⟨_,rfl⟩ rfl rfl rfl rfl ⟨rfl,trivial⟩ rfl rfl rfl rfl rfl rfl rfl rfl rfl ?_
 rintro _ rfl
 have w2:FnOk false Tryz.prog tab cn 34 [.row 0,elId u.id] 1 1 [(0,.row 53 5 (r.waits.map a7))] (fun _ res H2=>res = .d (.bool (hasU r.waits u.id))∧H2=[(0,.row 53 5 (r.waits.map a7))]) :=
  FnP.shownR (dhas_fn r.waits u.id (by omega) sw) rfl rfl (by rintro _ rfl;rfl)
 have hty:=hasU_app r.has r.waits u.id
 cases hb1:hasU r.has u.id with
 | true =>
  repeat' (first|refine z0 ?_|apply ag|refine z5 ?_|refine z14 ?_|refine z10 ?_|apply ae|refine z16 ?_|apply aj|refine z18 ?_|apply aa|apply av)
  exact⟨.inl rfl,_,rfl,id,3,.d (.bool true),vwH p sn r,rfl,⟨rfl,rfl,rfl,trivial⟩,rfl,rfl,rfl,rfl,rfl,rfl,rfl,.inl ⟨Or.inl rfl,rfl,rfl⟩⟩
 | false =>
  repeat' refine z5 ?_
  refine dt_callR (fun j=>match j with|0=>2|j=>j) w2 (by rintro _ rfl;exact⟨rfl,rfl⟩) ⟨_,rfl⟩ rfl rfl rfl rfl ⟨rfl,trivial⟩ rfl rfl rfl rfl rfl rfl rfl rfl rfl ?_
  rintro _ rfl
  cases hb2:hasU r.waits u.id with
  | true =>
   repeat' (first|refine z0 ?_|apply ag|refine z5 ?_|refine z10 ?_|apply ae|refine z16 ?_|apply aj|refine z18 ?_|apply aa|apply av)
   exact⟨.inl rfl,_,rfl,id,3,.d (.bool true),vwH p sn r,rfl,⟨rfl,rfl,rfl,trivial⟩,rfl,rfl,rfl,rfl,rfl,rfl,rfl,.inl ⟨Or.inr rfl,rfl,rfl⟩⟩
  | false =>
   have lh:(r.has.map a7).length=r.has.length:=List.length_map _
   have lw:(r.waits.map a7).length=r.waits.length:=List.length_map _
   by_cases hf:200≤r.has.length + r.waits.length
   ·repeat' (first|refine z0 ?_|apply ag|refine z5 ?_|refine z10 ?_|apply ae|refine z16 ?_|refine z20 ?_|apply ai|apply aj|refine z19 ?_|apply aa|apply av|(refine z23 ?_ ?_ <;> intro hg)|fail)
    all_goals try (exfalso;omega)
    exact⟨.inl rfl,_,rfl,id,3,.d (.bool false),vwH p sn r,rfl,⟨rfl,rfl,rfl,trivial⟩,rfl,rfl,rfl,rfl,rfl,rfl,rfl,.inr (.inl ⟨rfl,rfl,hf,rfl,rfl⟩)⟩
   ·have wo:=wown_fn u (Nat.le_trans hu.parents (by decide)) (Nat.le_trans hu.takes (by decide)) hu.says hu.args
    repeat' (first|refine z0 ?_|apply ag|refine z5 ?_|refine z10 ?_|apply ae|refine z16 ?_|refine z20 ?_|apply ai|refine z19 ?_|apply aa|refine z22 ?_ (hc:=by apply wo)|(refine z23 ?_ ?_ <;> intro hg)|fail)
    all_goals try (exfalso;omega)
    have wp:=FnTr.of (dput_fn r.waits u h2 sw hb2)
    refine dt_callT 2 wp rfl rfl rfl rfl rfl rfl rfl ⟨_,rfl⟩ rfl rfl ?_
    rintro _ rfl
    repeat' (first|refine z5 ?_|refine z6 ?_|refine z11 ?_|apply ah|apply aa)
    refine bh (ι:=Rpl) (fun x=>⟨4,[(2,.loc 3 0)],[(0,vwB p sn),(1,.row 53 5 (x.has.map a7)),(2,.row 53 5 (x.waits.map a7)),(3,.blk 87 [.loc 0 0])]⟩)
     (fun x=>RplGo (u::r.both) x∧x.has.length + x.waits.length=r.has.length + r.waits.length + 1) (fun x=>x.waits.length) ⟨r.has,insU r.waits u⟩ ⟨hok.more hb1 hb2,by dsimp only;rw [insU_len];omega⟩ (ap (fun j=>match j with|2=>12|j=>j) ⟨rfl,trivial⟩ ⟨rfl,rfl,rfl,rfl,trivial⟩ rfl rfl rfl rfl rfl rfl) ?_
    clear w1 w2 wo wp
    rintro x ⟨hx,hcnt⟩
    have hshort:∀ v,v∈x.has∨v∈x.waits→ShortU v:=fun v hv=>by
     rcases List.mem_cons.1 ((hx.all v).2 hv) with rfl|h
     ·exact hu
     ·rcases List.mem_append.1 h with h|h
      ·exact hr _ h
      ·exact hw _ h
    have lxh:(x.has.map a7).length=x.has.length:=List.length_map _
    have lxw:(x.waits.map a7).length=x.waits.length:=List.length_map _
    have wi:=indexU_fn (caps:=[.pd [.ptr (vwD p sn x)]]) (fun v=>readyU x.has v) x.waits rfl (fun v hv=>put1V_fn p sn x v (by omega) hx.sh (by have h:=hshort v (.inr hv);have:=h.parents;have:=h.takes;omega))
    repeat' (first|refine z0 ?_|apply ae|refine z16 ?_|apply ah)
    refine ds_callP wi rfl (by rintro _ rfl;rfl) rfl rfl rfl rfl ?_
    rintro _ rfl
    rcases idxF_or (fun v=>readyU x.has v) x.waits with ⟨hn,hall⟩|⟨i,hi,hn,hri⟩
    ·rw [hn]
     repeat' (first|refine z0 ?_|apply ag|apply ae|refine z16 ?_|apply aj|refine z18 ?_|apply aa|apply av|apply br)
     all_goals try (exfalso;omega)
     exact⟨.inl rfl,_,rfl,id,3,.d (.bool true),vwH p sn x,rfl,⟨rfl,rfl,rfl,trivial⟩,rfl,rfl,rfl,rfl,rfl,rfl,rfl,.inr (.inr ⟨rfl,rfl,by omega,x,hx.done hall,rfl,rfl⟩)⟩
    ·rw [hn]
     have hnh:hasU x.has (x.waits[i]'hi).id=false:=by
      cases hb:hasU x.has (x.waits[i]'hi).id with
      | false=>rfl
      | true =>
       obtain⟨v,hv,he⟩:=hasU_iff.1 hb
       exact absurd he (hx.apart v hv _ (List.getElem_mem hi))
     have wd:=FnTr.of (deleteU_fn x.waits i hi (by omega))
     have wp:=FnTr.of (dput_fn x.has (x.waits[i]'hi) (by omega) hx.sh hnh)
     clear wi
     repeat' (first|refine z0 ?_|apply ag|refine z5 ?_|apply ae|refine z16 ?_|refine z20 ?_|apply ai|refine z19 ?_|apply aa|refine z1 ?_|refine z3 ?_|fail)
     all_goals try (exfalso;omega)
     refine dt_callT 2 wd rfl rfl rfl rfl rfl rfl rfl ⟨_,rfl⟩ rfl rfl ?_
     rintro _ rfl
     repeat' (first|refine z5 ?_|refine z6 ?_|refine z11 ?_|refine z20 ?_|apply aa)
     all_goals try (exfalso;omega)
     refine dt_callT 1 wp rfl rfl rfl rfl rfl rfl rfl ⟨_,rfl⟩ rfl rfl ?_
     rintro _ rfl
     repeat' (first|refine z5 ?_|refine z6 ?_|refine z11 ?_|apply aa|apply bg)
     all_goals try (exfalso;omega)
     have hgo:=hx.move (List.getElem_mem hi) hri
     rw [← erase_filter hx.sw hi] at hgo
     exact⟨⟨insU x.has (x.waits[i]'hi),x.waits.eraseIdx i⟩,⟨hgo,by dsimp only;rw [insU_len,List.length_eraseIdx_of_lt hi];omega⟩,ap (fun j=>match j with|1=>23|2=>13|j=>j) ⟨rfl,trivial⟩ ⟨rfl,rfl,rfl,rfl,trivial⟩ rfl rfl rfl rfl rfl rfl,by dsimp only;rw [List.length_eraseIdx_of_lt hi];omega⟩
theorem short_of {u:Upd} (h:dy u=0):ShortU u:=by
 have g:=checkU_good h
 refine⟨by have:=g.np;omega,by have:=g.nt;omega,by have:=g.ns;omega,fun f hf=>?_⟩
 have h1:=List.all_eq_true.1 g.says f hf
 unfold saysB at h1
 simp only [Bool.and_eq_true,decide_eq_true_eq] at h1
 omega
theorem checkR_ok {r:Rpl} (h:ez r=0):r.has.length + r.waits.length≤200∧(∀ u∈r.both,dy u=0)∧RplOk r.both r:=by
 unfold ez at h
 split at h
 ·cases h
 rename_i h1
 split at h
 ·rename_i h2;exact absurd h h2
 rename_i h2
 split at h
 ·cases h
 rename_i h3
 split at h
 ·cases h
 rename_i h4
 split at h
 ·cases h
 rename_i h5
 simp only [not_or,Bool.not_eq_false,Bool.not_eq_true] at h3 h4 h5
 have hc:=firstL_none (Decidable.not_not.1 h2)
 have sh:=rises_str h3.1
 have sw:=rises_str h3.2.1
 have hready:∀ u∈r.has,readyU r.has u=true:=fun u hu=>by
  have:=List.any_eq_false.1 h4 u hu
  simpa using this
 have hnr:∀ u∈r.has,¬ Reach r.has (df u) u.id:=fun u hu hre=>by
  have:=List.any_eq_false.1 h5.1 u hu
  exact this ((behM_iff sh (df u) u.id).2 hre)
 refine⟨by omega,hc,RplGo.done ⟨sh,sw,fun u=>List.mem_append,fun u hu v hv he=>?_,fun u hu=>(no_round_der hready hnr u hu).mono fun v hv=>List.mem_append_left _ hv⟩ fun u hu=>?_⟩
 ·have:=List.any_eq_false.1 h3.2.2 v hv
  exact this (hasU_iff.2 ⟨u,hu,he⟩)
 ·have:=List.any_eq_false.1 h5.2 u hu
  simpa using this
end Go.Proofs.YtapciiffpnociaaGreat
