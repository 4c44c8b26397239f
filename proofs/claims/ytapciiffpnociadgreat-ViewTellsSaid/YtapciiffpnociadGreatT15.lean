/- Several texts in one: GxPtr GxShw DagF DagG DagH VwB DagI. Condition: none. -/
import Derived.Test.YtapciiffpnociadGreatT09
import Derived.Test.YtapciiffpnociadGreatT14
import Derived.Test.YtapciiffpnociadGreatT10
import Derived.Test.YtapciiffpnociadGreatT06
set_option maxHeartbeats 8000000
open Array renaming length_toList→A2
open Bool renaming and_eq_true→Ae,not_eq_true→Cm
open List renaming getD→A6,getElem?_take→Bi,getElem_map→Dh,getElem_mem→Aj,length_cons→Bj,length_drop→A7,length_eraseIdx_of_lt→Ft,length_map→Aa,length_nil→Dl,length_take→Aq,map_append→Ar,map_cons→A3,map_nil→Db,map_toArray→D1,mem_append→Cj,mem_of_mem_drop→B2,mem_of_mem_take→Bq,replicate→Ap,take_of_length_le→Ai,take_succ_eq_append_getElem→An
open Nat renaming blt→Av,eq_of_beq_eq_true→Ao,le_of_ble_eq_true→Ab,le_refl→Ah,le_trans→A5,lt_of_lt_of_le→A0,lt_one_iff→H6,mul_le_mul_right→Be,mul_one→Dv,not_lt_zero→A9,zero_add→Dk
open Option renaming getD_some→B6
namespace Go.Proofs.YtapciiffpnociadGreat
section
open Go Go.RowKit
def CellOk (S:Nat->Prop) (H:Hp) (s:SV) (d:D):Prop:=s = .d d∨(∃ i te es xs,s = .row i/\S i/\Hp.get H i=some (.row te es xs)/\d = .slice es xs)∨(s = .nils/\∃ es,d = .slice es [])
def BlkOk (S:Nat->Prop) (H:Hp) (id:Nat) (ds:List D):Prop:=S id/\∃ ty cs,Hp.get H id=some (.blk ty cs)/\∀ j (h:j<ds.length),∃ s,cs[j]?=some s/\CellOk S H s ds[j]
theorem mem_eq:∀ {H:Hp},(H.map (·.1)).Nodup->∀ {p q:Nat×HB},p∈H->q∈H->p.1=q.1->p=q
 | [],_,_,_,h,_,_=>by simp at h
 | x::H,hn,p,q,hp,hq,he=>by
  obtain⟨h1,h2⟩:=List.nodup_cons.1 hn
  rcases List.mem_cons.1 hp with rfl|hp'
  ·rcases List.mem_cons.1 hq with rfl|hq'
   ·rfl
   ·exact absurd (List.mem_map.2 ⟨q,hq',he.symm⟩) h1
  ·rcases List.mem_cons.1 hq with rfl|hq'
   ·exact absurd (List.mem_map.2 ⟨p,hp',he⟩) h1
   ·exact mem_eq h2 hp' hq' he
theorem Hp.mem_del {i:Nat}:∀ {H:Hp} {p:Nat×HB},p∈H->p.1≠i->p∈Hp.del H i
 | [],_,h,_=>by simp at h
 | (d,s)::H,p,hp,hne=>by
  simp only [Hp.del]
  cases hb:Nat.beq d i with
  | true =>
   have:=Ao hb
   rcases List.mem_cons.1 hp with rfl|hp'
   ·exact absurd this hne
   ·exact hp'
  | false =>
   rcases List.mem_cons.1 hp with rfl|hp'
   ·exact List.mem_cons_self ..
   ·exact List.mem_cons_of_mem _ (Hp.mem_del hp' hne)
section
variable {Γ : Ctx} {k : Nat} {L : Sl} {H : Hp} {a : Act} {w : World} {e : Env} {S : Nat -> Prop} {X' : Nat -> Prop}
theorem cell_rep (m:Models Γ k L H e a w) (h1:∀ b,X' b->Γ.X e H b) (h2:∀ p∈H,S p.1->∀ b,HB.owned e p=some b->¬ X' b) {s:SV} {d:D} (h:CellOk S H s d) {v:Value} (hr:Rel (Γ.X e H) e w s v):RepC X' w v d:=by
 rcases h with rfl|⟨i,te,es,xs,rfl,hS,hH,rfl⟩|⟨rfl,es,rfl⟩
 ·exact RepC.keep (Ah _) (λ_ _ _=>rfl) (λb _ h=>h1 b h) hr
 ·rw [hr.2.1];refine RepC.keep (Ah _) (λ_ _ _=>rfl) (λb _ h=>?_) (qn m hH);rcases h1 b h with ho|ho
  ·exact .inl ho
  ·obtain⟨p,hp,hpb⟩:=List.mem_filterMap.1 ho;have hne:p.1≠i:=by
    intro hpi;have:=mem_eq m.ids hp (Hp.mem_of hH) hpi
    subst this;exact h2 _ hp hS b hpb h
   exact .inr (List.mem_filterMap.2 ⟨p,Hp.mem_del hp hne,hpb⟩)
 ·rw [show v = .slice none 0 0 from hr];exact .nil
theorem ptr_rep (m:Models Γ k L H e a w) (h1:∀ b,X' b->Γ.X e H b) (h2:∀ p∈H,S p.1->∀ b,HB.owned e p=some b->¬ X' b) {id:Nat} {ds:List D} (h:BlkOk S H id ds) {v:Value} (hv:v = .pointer (some ⟨e.β id,0,none⟩)):RepC X' w v (.ptr ds):=by
 obtain⟨hS,ty,cs,hH,hc⟩:=h;have hmem:=Hp.mem_of hH;obtain⟨us,g1,g2,_⟩:=(m.heap _ hmem).2;subst hv;have hcell:∀ j (hj:j<ds.length),∃ u,us[j]?=some u/\RepC X' w u ds[j]:=by
  intro j hj;obtain⟨s,q1,q2⟩:=hc j hj;obtain⟨u,q3,q4⟩:=RelL.get _ _ g2 j s q1;exact⟨u,q3,cell_rep m h1 h2 q2 q4⟩
 refine .ptr (λj=>us.getD j undef) (h2 _ hmem hS _ rfl) (dn g1) (λj hj=>?_) (λj hj=>?_)
 ·obtain⟨u,q3,_⟩:=hcell j hj;rw [cell_of_row w _ _ _ ty (0,0) g1,Dk];simp [A6,q3]
 ·obtain⟨u,q3,q4⟩:=hcell j hj;simp only [A6,q3,B6];exact q4
theorem ptrs_rep (m:Models Γ k L H e a w) (h1:∀ b,X' b->Γ.X e H b) (h2:∀ p∈H,S p.1->∀ b,HB.owned e p=some b->¬ X' b) {i n cap:Nat} {te:TypeId} {cs:List SV} {dss:List (List D)} (hS:S i) (hH:Hp.get H i=some (.blk te cs)) (hn:dss.length=n)
  (hc:∀ j (h:j<dss.length),∃ id,cs[j]?=some (.loc id 0)/\BlkOk S H id dss[j]) {v:Value} (hr:Rel (Γ.X e H) e w (.sl i 0 n cap) v):RepC X' w v (.slice 1 (dss.map λds=>[.ptr ds])):=by
 obtain⟨_,hnc,hcm,o,rfl,ho⟩:=hr;have hmem:=Hp.mem_of hH;obtain⟨us,g1,g2,_⟩:=(m.heap _ hmem).2;have hcell:∀ j (hj:j<dss.length),∃ u,us[j]?=some u/\RepC X' w u (.ptr dss[j]):=by
  intro j hj;obtain⟨id,q1,q2⟩:=hc j hj;obtain⟨u,q3,q4⟩:=RelL.get _ _ g2 j _ q1;exact⟨u,q3,ptr_rep m h1 h2 q2 q4.2⟩
 subst hn;refine .slice (λi' _=>us.getD i' undef) (by simp) hnc hcm (h2 _ hmem hS _ rfl) (dn g1) (λi' hi=>by simp) (λi' hi j hj=>?_) (λi' hi j hj=>?_)
 ·rw [Aa] at hi;simp only [Dh,Bj,Dl,Dk,H6] at hj;subst hj;obtain⟨u,q3,_⟩:=hcell i' hi;have:o=0:=ho (by omega)
  subst this;rw [cell_of_row w _ _ _ te (0,0) g1,Dk,Dv];simp [A6,q3]
 ·rw [Aa] at hi;simp only [Dh,Bj,Dl,Dk,H6] at hj;subst hj;obtain⟨u,q3,q4⟩:=hcell i' hi;simp only [A6,q3,B6,Dh,List.getElem_cons_zero];exact q4
end
theorem FnP.use_at {dr:Bool} {P:Program} {τ:List (Nat×TI)} {τok:dz P τ} {f:FuncId} {args:List SV} {R:SV->Prop} (hc:FnP dr P τ τok f args R) (e:Env) {w:World} (O:Nat->Prop) (hO:∀ b,O b->b<w.heap.size) (hlow:SV.lowL 0 args=true)
  (vs:List Value) (hr:RelL O e w args vs) :
  Calls P f vs.toArray w (λen w'=>∃ r v,R r/\en = .returned v/\Beld dr w.heap.size w w'/\r.low 0=true/\Rel O e w' r v):=by
 have hX:∀ e' b,Ctx.X ⟨P,τ,τok,O,w,λb=>b∈ah (e.ren id 0) [],0,0,(e.ren id 0).an,none,dl,true,dr⟩ e' [] b↔O b:=by
  intro e' b;unfold Ctx.X;simp [ah]
 refine (hc.2 O (e.ren id 0) w vs ⟨λ_=>Iff.rfl,by simp,by simp,by simp [ah],by simp [ah],rfl,rfl,rfl,λ_=>Ah _,Ah _,λ_ _ _=>rfl,λb hb=>⟨hO b hb,by simp [ah]⟩,λj hj=>absurd hj (A9 j),λj hj=>absurd hj (A9 j)⟩ ?_).mono ?_
 ·exact RelL.keep (Ah _) (λ_ _ _=>rfl) (λb _ hy=>(hX _ b).1 hy) _ _ (RelL.env _ _ hlow hr)
 ·rintro en w' ⟨k',r,H',e',v,⟨rfl,hlr,hR⟩,rfl,hH,hrel⟩;refine⟨r,v,hR,rfl,⟨⟨hH.os,hH.tape,hH.output,hH.size,λb hb=>hH.block b hb (by simp [ah])⟩,hH.drawn⟩,hlr,?_⟩
  exact Rel.keep (Ah _) (λ_ _ _=>rfl) (λb _ hy=>(hX _ b).2 hy) _ _ (Rel.env _ _ hlr hrel)
theorem sure_rel {X Y:Nat->Prop} {e e':Env} {w w':World} {s:SV} {u v:Value} (hu:s.sure=some u) (hr:Rel X e w s v):Rel Y e' w' s v:=by
 cases s with
 | d x =>
  cases x with
  | int i n=>cases hr;exact .int (by assumption)
  | bool b=>cases hr;exact .bool
  | str s=>cases hr;exact .str (by assumption)
  | slice=>simp [SV.sure] at hu
  | ptr=>simp [SV.sure] at hu
 | _=>simp [SV.sure] at hu
section
variable {Γ : Ctx} {k : Nat} {L : Sl} {H : Hp} {K : cy} {ops : List Oper} {rest : List Oper}
theorem ds_lend {f:FuncId} {xs:List Operand} {ts:Array TypeId} {ty:TypeId} {pos:String} {af:Array Edge} {g:Option (Nat×Bool)} {d:Nat} {args:List SV} {r:SV} {u:Value} (hw:au ops L g=some true)
  (hl:∀ e a w,Models Γ k L H e a w->RelL Γ.O e w args (xs.map a.eval)) (hc:FnP Γ.dr Γ.P Γ.τ Γ.τok f args (λs=>s=r)) (hu:r.sure=some u) (hlow:SV.lowL 0 args=true) (hd:Av d Γ.n=true)
  (hk:DS false Γ ops rest K k ((d,r)::L) H) :
  DS false Γ ops (⟨some d,.call { callee:=.value (.func f),args:=xs.toArray,argTypes:=ts },ty,pos,af,g⟩::rest) K k L H:=by
 refine gp hw λe a w m=>?_
 unfold Oper.wp;rw [j9 hc.1];rw [Oper.upon_enter];refine (hc.use_at (τ:=Γ.τ) (τok:=Γ.τok) e Γ.O (λb hb=>A0 (m.obound b hb).1 m.size) hlow _ (hl e a w m)).mono ?_;rintro en w' ⟨r',v,rfl,rfl,hb,hlr,hrel⟩;exact⟨k,_,H,e,(m.below hb).put (Ab hd) (sure_rel hu hrel),hk⟩
theorem ent_frz {S:Nat->Prop} {i n cap:Nat} {te:TypeId} {cs:List SV} {dss:List (List D)} (t:Nat) {H':Hp} (hL:L.get t = .sl i 0 n cap) (hS:S i) (hH:Hp.get H i=some (.blk te cs)) (hn:dss.length=n)
  (hc:∀ j (h:j<dss.length),∃ id,cs[j]?=some (.loc id 0)/\BlkOk S H id dss[j]) (hsub:∀ p∈H',p∈H/\¬ S p.1) (hid:(H'.map (·.1)).Nodup) (hown:∀ e,(ah e H).Nodup->(ah e H').Nodup) :
  Ent Γ k L H k ((t,.d (.slice 1 (dss.map λds=>[.ptr ds])))::L) H':=by
 intro e a w m;have hX:∀ b,Γ.X e H' b->Γ.X e H b:=λb hb=>hb.imp id λhb=>by
  obtain⟨p,hp,ho⟩:=List.mem_filterMap.1 hb;exact List.mem_filterMap.2 ⟨p,(hsub p hp).1,ho⟩
 have hX2:∀ p∈H,S p.1->∀ b,HB.owned e p=some b->¬ Γ.X e H' b:=by
  intro p hp hSp b hb hx;rcases hx with hx|hx
  ·exact (m.mine b (List.mem_filterMap.2 ⟨p,hp,hb⟩)).2 hx
  ·obtain⟨q,hq,hqb⟩:=List.mem_filterMap.1 hx;exact m.owned_ne (hsub q hq).1 hp (λhe=>(hsub q hq).2 (he▸hSp)) hqb hb
 refine⟨e,⟨⟨m.top,λp hp=>⟨(m.heap p (hsub p hp).1).1,HRel.keep (Ah _) (λ_ _ _=>rfl) (λb _ hy=>hX b hy) p (λ_ _=>rfl) (m.heap p (hsub p hp).1).2⟩,hid,hown e m.nodup,λb hb=>m.mine b (by
  obtain⟨p,hp,ho⟩:=List.mem_filterMap.1 hb;exact List.mem_filterMap.2 ⟨p,(hsub p hp).1,ho⟩),m.os,m.tape,m.output,m.drawn,m.size,m.block,m.obound,m.jle,m.anchor⟩,m.defers,m.len,λt'=>?_⟩⟩
 rw [Sl.get_cons];split
 ·rename_i ht;subst ht;have hs:=m.slot t;rw [hL] at hs;exact ptrs_rep m hX hX2 hS hH hn hc hs
 ·exact Rel.keep (Ah _) (λ_ _ _=>rfl) (λb _ hy=>hX b hy) _ _ (m.slot t')
end
section
variable {Γ : Ctx} {k : Nat} {L : Sl} {H : Hp} {K : cy} {ops : List Oper} {rest : List Oper} {t t' ty : TypeId} {x y : Operand}
theorem ds_append_ptr {d te t2 i off n cap es j te2:Nat} {cs:List SV} {sv:SV} {pos:String} {af:Array Edge} {g:Option (Nat×Bool)}
  (ht:Γ.sh t = .slice te) (hkn:(Γ.sh te).known=true) (hes:Γ.cells te=es) (hpos:Av 0 es=true) (hz:Nat.beq (aj Γ.τ te).zero.length (Γ.cells te)=true) (hzo:gk (aj Γ.τ te).zero=true)
  (hx:ap L x = .sl i off n cap) (hH:Hp.get H i=some (.blk te cs)) (hfit:off+cap<=cs.length) (hy:ap L y = .sl j 0 1 1) (hHj:Hp.get H j=some (.blk te2 [sv])) (he1:es=1) (hw:au ops L g=some true) (hd:Av d Γ.n=true)
  (hroom:(n+1)*(aj Γ.τ te).bytes<=140737488355328) (h63:n+1<=maxLen)
  (hk1:n+1<=cap->DS false Γ ops rest K k ((d,.sl i off (n+1) cap)::L) (Hp.set H i (.blk te (ky cs (off+n) [sv]))))
  (hk2:∀ cap',cap<n+1->n+1<=cap'->cap'<=maxLen->DS false Γ ops rest K (k+1) ((d,.sl k 0 (n+1) cap')::L) ((k,.blk te ((cs.drop off).take n++[sv]++Ap (cap'-(n+1)) .junk))::H)) :
  DS false Γ ops (⟨some d,.call { callee:=.builtin .append,args:=#[x,y],argTypes:=#[t,t] },t2,pos,af,g⟩::rest) K k L H:=by
 have hfit:off+cap*es<=cs.length:=by rw [he1,Dv];exact hfit
 refine gp hw λe a w m=>?_
 obtain⟨inf,zv,hi,hzz,hs,hb,hzc⟩:=Ctx.info (Sh.known_ne hkn);have hut:=Ctx.slice ht;obtain⟨hdom,hnc,hcm,o',hvx,ho'⟩:=evT m hx (cSV_sl · _ _ _ _);obtain⟨_,_,_,oy,hvy,hoy⟩:=evT m hy (cSV_sl · _ _ _ _);have hoy0:=hoy (by omega);subst hoy0;obtain⟨us,hhj,hjs,honej⟩:=(m.heap _ (Hp.mem_of hHj)).2;have hul1:=RelL.length _ _ hjs;obtain⟨vs,hh,hcs,hone⟩:=(m.heap _ (Hp.mem_of hH)).2;have hvl:=RelL.length _ _ hcs;have hsz:inf.size=es:=by rw [hs,hes]
 have hpos':=Ab hpos;have u1:us.length=1*es:=by rw [<- hul1,he1];rfl
 have u2:∀ q u,us[q]?=some u->w.cell? ((⟨e.β j,0,none⟩:Addr).add q)=some u:=by
  intro q u hq;rw [Addr.add_at,cell_of_row w _ _ _ te2 (0,0) hhj];simpa using hq
 have u3:=honej;have hul:[sv].length=us.length:=hul1;have huflat:RelL (Γ.X e H) e w [sv] us:=hjs;by_cases hcap:n+1<=cap
 ·have hoo:o'=off:=ho' (by omega);subst hoo;have hfit2:o'+n*inf.size+us.length<=vs.toArray.size:=by
   rw [u1,hsz,List.size_toArray,<- hvl,Nat.add_assoc,<- Nat.add_mul];exact A5 (Nat.add_le_add_left (Be _ hcap) _) hfit
  have hrun:=qm (P:=Γ.P) w t t2 te inf hut hi (e.β i) o' n cap te vs.toArray hh ⟨e.β j,0,none⟩ 1 1 us (by rw [hsz];exact u1) u2 u3 hcap hfit2;have hop:(execOp a.eval ⟨some d,.call { callee:=.builtin .append,args:=#[x,y],argTypes:=#[t,t] },t2,pos,af,g⟩).run Γ.P w = .ok (.value (.slice (some ⟨e.β i,o',none⟩) (n+1) cap)) (w.setRow (e.β i) (vs.toArray.toList.take (o'+n*inf.size)++us++vs.toArray.toList.drop (o'+n*inf.size+us.length)).toArray):=by
   simp only [execOp,resolve,invoke,builtin,Sem.run_bind,Sem.run_pure,Result.andThen_ok,D1,A3,Db,hvx,hvy,hrun]
  unfold Oper.wp;rw [hop];have m2:Models Γ (lo k) L (Hp.set H i (.blk te (ky cs (o'+n*es) ([sv])))) e a (w.setRow (e.β i) (vs.toArray.toList.take (o'+n*inf.size)++us++vs.toArray.toList.drop (o'+n*inf.size+us.length)).toArray):=by
   refine m.turn (b':=.blk te (ky cs (o'+n*es) ([sv]))) hH ?_ rfl rfl rfl (λ_=>Ah _) (λc _ hc=>setRow_other w _ c _ (λh=>hc (by simp [HB.owned,h]))) rfl ?_
   ·simp [World.setRow]
   ·refine⟨_,setRow_heap w (e.β i) vs.toArray _ te (0,0) hh,?_,λv hv=>?_⟩
    ·have hkeep:∀ b,b<w.heap.size->¬ Γ.X e H b->(w.setRow (e.β i) (vs.toArray.toList.take (o'+n*inf.size)++us++vs.toArray.toList.drop (o'+n*inf.size+us.length)).toArray).heap[b]?=w.heap[b]?:=λb _ hb=>setRow_other w _ b _ (λh=>hb (.inr (List.mem_filterMap.2 ⟨_,Hp.mem_of hH,by simp [HB.owned,h]⟩)))
     refine RelL.keep (by simp [World.setRow]) hkeep (λ_ _ h=>h) _ _ ?_;unfold ky;rw [hsz,hul];exact RelL.append _ _ _ _ (RelL.append _ _ _ _ (RelL.take _ _ hcs _) huflat) (RelL.drop _ _ hcs _)
    ·simp only [Cj] at hv;rcases hv with (hv|hv)|hv
     ·exact hone v (Bq hv)
     ·exact u3 v hv
     ·exact hone v (B2 hv)
  exact⟨_,_,_,_,m2.put (s:=.sl i o' (n+1) cap) (Ab hd) ⟨hdom,hcap,hcm,o',rfl,λ_=>rfl⟩,by rw [he1,Dv];exact hk1 hcap⟩
 ·have hlt:cap<n+1:=by omega
  have hol:((vs.drop off).take (n*es)).length=n*inf.size:=by
   rw [Aq,A7,<- hvl,hsz];have:n*es<=cap*es:=Be _ hnc
   omega
  have holds:∀ j v,((vs.drop off).take (n*es))[j]?=some v->w.cell? ((⟨e.β i,o',none⟩:Addr).add j)=some v:=by
   intro j v hj;have hjl:j<n*es:=by
    rw [Bi] at hj;split at hj
    ·assumption
    ·cases hj
   have hn0:0<cap:=by
    rcases Nat.eq_zero_or_pos n with h|h
    ·rw [h,Nat.zero_mul] at hjl;omega
    ·omega
   have hoo:=ho' hn0;subst hoo;rw [Bi,if_pos hjl,List.getElem?_drop] at hj;rw [Addr.add_at,cell_of_row w _ _ _ te (0,0) hh];simpa using hj
  have h63':((n+1:Nat):Int)<=9223372036854775807:=by unfold maxLen at h63;omega
  have hrun:=run_append_grow (P:=Γ.P) w t t2 te inf zv hut hi hzz ⟨e.β i,o',none⟩ n cap ((vs.drop off).take (n*es)) hol holds ⟨e.β j,0,none⟩ 1 1 us (by rw [hsz];exact u1) u2 hlt h63' (growslice_fits hlt (by rw [hb];exact hroom));have hge:=grownCap_ge w (n+1) cap te;have hcm':grownCap w (n+1) cap te<=maxLen:=grownCap_le_maxLen w (n+1) cap te h63;generalize grownCap w (n+1) cap te=c' at hrun hge hcm';have hop:(execOp a.eval ⟨some d,.call { callee:=.builtin .append,args:=#[x,y],argTypes:=#[t,t] },t2,pos,af,g⟩).run Γ.P w = .ok (.value (.slice (some ⟨w.heap.size,0,none⟩) (n+1) c'))
    (w.drew.alloc (.cells (((vs.drop off).take (n*es)).toArray++us.toArray++Builtin.zeroCells zv.cells (c'-(n+1))) te)):=by
   simp only [execOp,resolve,invoke,builtin,Sem.run_bind,Sem.run_pure,Result.andThen_ok,D1,A3,Db,hvx,hvy,hrun]
  unfold Oper.wp;rw [hop];have m1:Models Γ (lo k) L H e a w.drew:=m.below ((Beld.refl _ _ _).drew);have hzsz:zv.cells.size=es:=by rw [<- A2,hzc,Ao hz,hes]
  have m2:=(m1.alloc (gn k) (cs:=(cs.drop off).take (n*es)++[sv]++Ap ((c'-(n+1))*es) .junk)
   (vs:=(vs.drop off).take (n*es)++us++(Builtin.zeroCells zv.cells (c'-(n+1))).toList) te
   (RelL.append _ _ _ _ (RelL.append _ _ _ _ (RelL.take _ _ (RelL.drop _ _ (RelL.keep (w:=w) (w':=w.drew) (Ah _) (λ_ _ _=>rfl) (λ_ _ h=>h) _ _ hcs) _) _) (RelL.keep (w:=w) (w':=w.drew) (Ah _) (λ_ _ _=>rfl) (λ_ _ h=>h) _ _ huflat)) (junk_rel _ _ (by rw [A2,size_zeroCells,hzsz])))
   (λv hv=>by
    simp only [Cj] at hv;rcases hv with (hv|hv)|hv
    ·exact hone v (B2 (Bq hv))
    ·exact u3 v hv
    ·have:=k7 hv
     rw [hzc] at this;exact (f7 (X:=Γ.X e H) (e:=e) (w:=w) _ hzo).2 v this)).cast (ff k)
  have harr:((vs.drop off).take (n*es)++us++(Builtin.zeroCells zv.cells (c'-(n+1))).toList).toArray=((vs.drop off).take (n*es)).toArray++us.toArray++Builtin.zeroCells zv.cells (c'-(n+1)):=by simp
  rw [harr] at m2;refine⟨_,_,_,_,m2.put (s:=.sl k 0 (n+1) c') (Ab hd) ⟨.inr rfl,hge,hcm',0,?_,λ_=>rfl⟩,by rw [he1,Dv,Dv];exact hk2 c' hlt hge hcm'⟩
  show _=Value.slice (some ⟨(e.bind k w.heap.size).β k,0,none⟩) (n+1) c';rw [show (e.bind k w.heap.size).β k=w.heap.size from if_pos rfl]
theorem ds_append_ptr0 {d te t2 es j te2:Nat} {sv:SV} {pos:String} {af:Array Edge} {g:Option (Nat×Bool)}
  (ht:Γ.sh t = .slice te) (hkn:(Γ.sh te).known=true) (hes:Γ.cells te=es) (hpos:Av 0 es=true) (hz:Nat.beq (aj Γ.τ te).zero.length (Γ.cells te)=true) (hzo:gk (aj Γ.τ te).zero=true)
  (hx:ap L x = .nils) (hy:ap L y = .sl j 0 1 1) (hHj:Hp.get H j=some (.blk te2 [sv])) (he1:es=1) (hw:au ops L g=some true) (hd:Av d Γ.n=true)
  (hroom:(aj Γ.τ te).bytes<=140737488355328)
  (hk2:∀ cap',1<=cap'->cap'<=maxLen->DS false Γ ops rest K (k+1) ((d,.sl k 0 1 cap')::L) ((k,.blk te ([sv]++Ap (cap'-1) .junk))::H)) :
  DS false Γ ops (⟨some d,.call { callee:=.builtin .append,args:=#[x,y],argTypes:=#[t,t] },t2,pos,af,g⟩::rest) K k L H:=by
 refine gp hw λe a w m=>?_
 obtain⟨inf,zv,hi,hzz,hs,hb,hzc⟩:=Ctx.info (Sh.known_ne hkn);have hut:=Ctx.slice ht;have hvx:=evNils m hx;obtain⟨_,_,_,oy,hvy,hoy⟩:=evT m hy (cSV_sl · _ _ _ _);have hoy0:=hoy (by omega);subst hoy0;obtain⟨us,hhj,hjs,honej⟩:=(m.heap _ (Hp.mem_of hHj)).2;have hul1:=RelL.length _ _ hjs;have hsz:inf.size=es:=by rw [hs,hes]
 have hpos':=Ab hpos;have u1:us.length=1*es:=by rw [<- hul1,he1];rfl
 have u2:∀ q u,us[q]?=some u->w.cell? ((⟨e.β j,0,none⟩:Addr).add q)=some u:=by
  intro q u hq;rw [Addr.add_at,cell_of_row w _ _ _ te2 (0,0) hhj];simpa using hq
 have u3:=honej;have hul:[sv].length=us.length:=hul1;have huflat:RelL (Γ.X e H) e w [sv] us:=hjs;have hrun:=run_append_nil (P:=Γ.P) (w:=w) t t2 te inf zv hut hi hzz ⟨e.β j,0,none⟩ 1 1 us (by rw [hsz];exact u1) u2 (by omega) (by omega) (by rw [hb];omega);have hge:=grownCap_ge w 1 0 te;have hcm':grownCap w 1 0 te<=maxLen:=grownCap_le_maxLen w 1 0 te (by unfold maxLen;omega);generalize grownCap w 1 0 te=c' at hrun hge hcm';have hop:(execOp a.eval ⟨some d,.call { callee:=.builtin .append,args:=#[x,y],argTypes:=#[t,t] },t2,pos,af,g⟩).run Γ.P w = .ok (.value (.slice (some ⟨w.heap.size,0,none⟩) 1 c'))
   (w.drew.alloc (.cells (us.toArray++Builtin.zeroCells zv.cells (c'-1)) te)):=by
  simp only [execOp,resolve,invoke,builtin,Sem.run_bind,Sem.run_pure,Result.andThen_ok,D1,A3,Db,hvx,hvy,hrun]
 unfold Oper.wp;rw [hop];have m1:Models Γ (lo k) L H e a w.drew:=m.below ((Beld.refl _ _ _).drew);have hzsz:zv.cells.size=es:=by rw [<- A2,hzc,Ao hz,hes]
 have m2:=(m1.alloc (gn k) (cs:=[sv]++Ap ((c'-1)*es) .junk)
  (vs:=us++(Builtin.zeroCells zv.cells (c'-1)).toList) te
  (RelL.append _ _ _ _ (RelL.keep (w:=w) (w':=w.drew) (Ah _) (λ_ _ _=>rfl) (λ_ _ h=>h) _ _ huflat) (junk_rel _ _ (by rw [A2,size_zeroCells,hzsz])))
  (λv hv=>by
   simp only [Cj] at hv;rcases hv with hv|hv
   ·exact u3 v hv
   ·have:=k7 hv
    rw [hzc] at this;exact (f7 (X:=Γ.X e H) (e:=e) (w:=w) _ hzo).2 v this)).cast (ff k)
 have harr:(us++(Builtin.zeroCells zv.cells (c'-1)).toList).toArray=us.toArray++Builtin.zeroCells zv.cells (c'-1):=by simp
 rw [harr] at m2;refine⟨_,_,_,_,m2.put (s:=.sl k 0 1 c') (Ab hd) ⟨.inr rfl,hge,hcm',0,?_,λ_=>rfl⟩,by rw [he1,Dv];exact hk2 c' hge hcm'⟩
 show _=Value.slice (some ⟨(e.bind k w.heap.size).β k,0,none⟩) 1 c';rw [show (e.bind k w.heap.size).β k=w.heap.size from if_pos rfl]
end
end
section
open Go Go.RowKit
def shC (H:Hp):SV->Option D
 | .d x=>some x
 | .row j=>match Hp.get H j with|some (.row _ es xs)=>some (.slice es xs)|_=>none
 | _=>none
def shCs (H:Hp):List SV->Option (List D)
 | []=>some []
 | s::l=>match shC H s,shCs H l with|some d,some ds=>some (d::ds)|_,_=>none
def shQ (H:Hp) (i:Nat):Option D:=match Hp.get H i with|some (.blk _ cs)=>(match shCs H cs with|some ds=>some (.ptr ds)|none=>none)|_=>none
def shC2 (H:Hp):SV->Option D
 | .loc i 0=>shQ H i
 | s=>shC H s
def shCs2 (H:Hp):List SV->Option (List D)
 | []=>some []
 | s::l=>match shC2 H s,shCs2 H l with|some d,some ds=>some (d::ds)|_,_=>none
def shP (H:Hp) (i:Nat):SV:=match Hp.get H i with|some (.blk _ cs)=>(match shCs2 H cs with|some ds=>.pd ds|none=>.loc i 0)|_=>.loc i 0
def shR (H:Hp) (j:Nat):SV:=match Hp.get H j with|some (.row _ es xs)=>.d (.slice es xs)|_=>.row j
def shK (H:Hp):SV->SV
 | .row j=>shR H j
 | .loc i 0=>shP H i
 | s=>s
def shKs (H:Hp):List SV->List SV
 | []=>[]
 | s::l=>shK H s::shKs H l
def shS (H:Hp):SV->SV
 | .fn f caps=>.fn f (shKs H caps)
 | s=>shK H s
def shL (H:Hp):List SV->List SV
 | []=>[]
 | s::l=>shS H s::shL H l
def scalTs:List SV->Bool
 | []=>true
 | s::l=>scalB s && scalTs l
def scalT:SV->Bool
 | .tup l=>scalTs l
 | s=>scalB s
theorem scalTs_rel {X Y:Nat->Prop} {e e':Env} {w w':World}:∀ {l:List SV} {vs:List Value},scalTs l=true->RelL X e w l vs->RelL Y e' w' l vs
 | [],[],_,_=>trivial
 | [],_::_,_,h=>h
 | _::_,[],_,h=>h
 | s::l,v::vs,h,g=>by
  simp only [scalTs,Ae] at h
  exact⟨scal_rel h.1 g.1,scalTs_rel h.2 g.2⟩
theorem scalT_rel {X Y:Nat->Prop} {e e':Env} {w w':World} {s:SV} {v:Value} (h:scalT s=true) (hr:Rel X e w s v):Rel Y e' w' s v:=by
 cases s with
 | tup l =>
  obtain⟨vs,h1,h2⟩:=hr;exact⟨vs,h1,scalTs_rel h h2⟩
 | d x=>exact scal_rel (s:=.d x) h hr
 | _=>cases h
section
variable {Γ : Ctx} {k : Nat -> Prop} {L : Sl} {H : Hp} {a : Act} {w : World} {e : Env}
theorem row_out (m:Models Γ k L H e a w) {i es:Nat} {te:TypeId} {xs:List (List D)} (hH:Hp.get H i=some (.row te es xs)):RepC Γ.O w (e.η i) (.slice es xs) :=
 RepC.keep (Ah _) (λ_ _ _=>rfl) (λ_ _ h=>.inl h) (qn m hH)
theorem shC_rel (m:Models Γ k L H e a w) {s:SV} {d:D} {v:Value} (h:shC H s=some d) (hr:Rel (Γ.X e H) e w s v):RepC Γ.O w v d:=by
 unfold shC at h;split at h
 ·cases h;exact RepC.keep (Ah _) (λ_ _ _=>rfl) (λ_ _ h=>.inl h) hr
 ·split at h
  ·rename_i hH;cases h;rw [hr.2.1];exact row_out m hH
  ·cases h
 ·cases h
theorem shCs_rel (m:Models Γ k L H e a w):∀ {cs:List SV} {ds:List D} {vs:List Value},shCs H cs=some ds->RelL (Γ.X e H) e w cs vs->∀ j (h:j<ds.length),∃ u,vs[j]?=some u/\RepC Γ.O w u ds[j]
 | [],ds,_,h,_,j,hj=>by cases h;exact absurd hj (A9 j)
 | _::_,_,[],_,g,_,_=>g.elim
 | s::cs,ds,v::vs,h,g,j,hj=>by
  unfold shCs at h
  split at h
  ·rename_i d ds' h1 h2
   cases h
   cases j with
   | zero=>exact⟨v,rfl,shC_rel m h1 g.1⟩
   | succ j=>exact shCs_rel m h2 g.2 j (by simpa using hj)
  ·cases h
theorem shC2_rel (m:Models Γ k L H e a w) {s:SV} {d:D} {v:Value} (h:shC2 H s=some d) (hr:Rel (Γ.X e H) e w s v):RepC Γ.O w v d:=by
 unfold shC2 at h;split at h
 ·unfold shQ at h;split at h
  ·rename_i ty cs hH;split at h
   ·rename_i ds hds;cases h;obtain⟨vs,h1,h2,_⟩:=(m.heap _ (Hp.mem_of hH)).2;have hown:e.β _∈ah e H:=List.mem_filterMap.2 ⟨_,Hp.mem_of hH,rfl⟩;rw [hr.2];refine .ptr (λj=>vs.getD j undef) (m.mine _ hown).2 (Array.getElem?_eq_some_iff.1 h1).1 (λj hj=>?_) (λj hj=>?_)
    ·obtain⟨u,u1,u2⟩:=shCs_rel m hds h2 j hj;simp [World.cell?,h1,u1]
    ·obtain⟨u,u1,u2⟩:=shCs_rel m hds h2 j hj;simp only [A6,u1,B6];exact u2
   ·cases h
  ·cases h
 ·exact shC_rel m h hr
theorem shCs2_rel (m:Models Γ k L H e a w):∀ {cs:List SV} {ds:List D} {vs:List Value},shCs2 H cs=some ds->RelL (Γ.X e H) e w cs vs->∀ j (h:j<ds.length),∃ u,vs[j]?=some u/\RepC Γ.O w u ds[j]
 | [],ds,_,h,_,j,hj=>by cases h;exact absurd hj (A9 j)
 | _::_,_,[],_,g,_,_=>g.elim
 | s::cs,ds,v::vs,h,g,j,hj=>by
  unfold shCs2 at h
  split at h
  ·rename_i d ds' h1 h2
   cases h
   cases j with
   | zero=>exact⟨v,rfl,shC2_rel m h1 g.1⟩
   | succ j=>exact shCs2_rel m h2 g.2 j (by simpa using hj)
  ·cases h
theorem shK_rel (m:Models Γ k L H e a w) {s:SV} {v:Value} (hr:Rel (Γ.X e H) e w s v):Rel Γ.O e w (shK H s) v:=by
 have hk:Rel Γ.O e w s v:=Rel.keep (Ah _) (λ_ _ _=>rfl) (λ_ _ h=>.inl h) _ _ hr;unfold shK;split
 ·rename_i j;unfold shR;split
  ·rename_i hH;rw [hr.2.1];exact row_out m hH
  ·exact hk
 ·rename_i i;unfold shP;split
  ·rename_i ty cs hH;split
   ·rename_i ds hds;obtain⟨vs,h1,h2,_⟩:=(m.heap _ (Hp.mem_of hH)).2;have hown:e.β i∈ah e H:=List.mem_filterMap.2 ⟨_,Hp.mem_of hH,rfl⟩;refine⟨e.β i,0,hr.2,(Array.getElem?_eq_some_iff.1 h1).1,(m.mine _ hown).2,λj hj=>?_⟩
    obtain⟨u,u1,u2⟩:=shCs2_rel m hds h2 j hj;refine⟨u,?_,u2⟩
    simp [World.cell?,h1,u1]
   ·exact hk
  ·exact hk
 ·exact hk
theorem shKs_rel (m:Models Γ k L H e a w):∀ {l:List SV} {vs:List Value},RelL (Γ.X e H) e w l vs->RelL Γ.O e w (shKs H l) vs
 | [],[],_=>trivial
 | [],_::_,h=>h
 | _::_,[],h=>h
 | _::_,_::_,h=>⟨shK_rel m h.1,shKs_rel m h.2⟩
theorem shS_rel (m:Models Γ k L H e a w) {s:SV} {v:Value} (hr:Rel (Γ.X e H) e w s v):Rel Γ.O e w (shS H s) v:=by
 unfold shS;split
 ·obtain⟨vs,h1,h2⟩:=hr;exact⟨vs,h1,shKs_rel m h2⟩
 ·exact shK_rel m hr
theorem shL_rel (m:Models Γ k L H e a w):∀ {l:List SV} {vs:List Value},RelL (Γ.X e H) e w l vs->RelL Γ.O e w (shL H l) vs
 | [],[],_=>trivial
 | [],_::_,h=>h
 | _::_,[],h=>h
 | _::_,_::_,h=>⟨shS_rel m h.1,shL_rel m h.2⟩
end
section
variable {Γ : Ctx} {k : Nat} {L : Sl} {H : Hp} {K : cy} {ops : List Oper} {rest : List Oper}
theorem ds_callP {f:FuncId} {xs:List Operand} {ts:Array TypeId} {ty:TypeId} {pos:String} {af:Array Edge} {g:Option (Nat×Bool)} {d:Nat} {args:List SV} {R:SV->Prop} (hc:FnP Γ.dr Γ.P Γ.τ Γ.τok f args R)
  (ha:shL H (nb L xs)=args) (hs:∀ r,R r->scalT r=true) (hw:au ops L g=some true) (hok:eb xs=true) (hlow:SV.lowL 0 args=true) (hd:Av d Γ.n=true)
  (hk:∀ r,R r->DS false Γ ops rest K k ((d,r)::L) H):DS false Γ ops (⟨some d,.call { callee:=.value (.func f),args:=xs.toArray,argTypes:=ts },ty,pos,af,g⟩::rest) K k L H:=by
 refine gp hw λe a w m=>?_
 unfold Oper.wp;rw [j9 hc.1];rw [Oper.upon_enter];refine (hc.use_at (τ:=Γ.τ) (τok:=Γ.τok) e Γ.O (λb hb=>A0 (m.obound b hb).1 m.size) hlow _ (ha▸shL_rel m (ij m xs hok))).mono ?_;rintro en w' ⟨r,v,hR,rfl,hb,hlr,hrel⟩;exact⟨k,_,H,e,(m.below hb).put (Ab hd) (scalT_rel (hs r hR) hrel),hk r hR⟩
end
theorem FnP.shown {dr:Bool} {P:Program} {τ:List (Nat×TI)} {τok:dz P τ} {f:FuncId} {args args':List SV} {J k:Nat} {H:Hp} {R:SV->Prop} (hc:FnP dr P τ τok f args' R) (ha:shL H args=args') (hlow:SV.lowL 0 args'=true) (hs:∀ r,R r->scalT r=true) :
  FnOk dr P τ τok f args J k H (λk2 r H2=>k2=k/\R r/\H2=H):=by
 refine⟨hc.1,λO e w vs hH hr=>?_⟩
 have m:Models ⟨P,τ,τok,O,w,λb=>b∈ah e H,0,J,e.an,none,dl,true,dr⟩ (lo k) [] H e { tmps:=#[],defers:=[] } w:=⟨hH,.nil,rfl,λ_=>trivial⟩
 refine (hc.use_at (τ:=τ) (τok:=τok) e O (λb hb=>A0 (m.obound b hb).1 m.size) hlow _ (ha▸shL_rel m hr)).mono ?_;rintro en w' ⟨r,v,hR,rfl,hb,hlr,hrel⟩;exact⟨k,r,H,e,v,⟨rfl,hR,rfl⟩,rfl,(m.below hb).toHeap,scalT_rel (hs r hR) hrel⟩
theorem FnP.shownR {dr:Bool} {P:Program} {τ:List (Nat×TI)} {τok:dz P τ} {f:FuncId} {args args':List SV} {J k:Nat} {H:Hp} {R:SV->Prop} (hc:FnP dr P τ τok f args' R) (ha:shL H args=args') (hlow:SV.lowL 0 args'=true) (hs:∀ r,R r->scalT r=true) :
  FnOk dr P τ τok f args J k H (λ_ r H2=>R r/\H2=H):=by
 obtain⟨h1,h2⟩:=FnP.shown (J:=J) (k:=k) (H:=H) hc ha hlow hs;refine⟨h1,λO e w vs hH hr=>(h2 O e w vs hH hr).mono ?_⟩
 rintro en w' ⟨k',r,H',e',v,⟨_,hR,hH'⟩,h⟩;exact⟨k',r,H',e',v,⟨hR,hH'⟩,h⟩
theorem posU_cons (x:Upd) (l:List Upd) (i:UId):wz (x::l) i=(if bw x.id i<0 then 1 else 0)+wz l i:=by
 unfold wz;rw [List.countP_cons];split<;>simp_all<;>omega
theorem posU_zero {l:List Upd} {i:UId} (h:∀ x∈l,¬ bw x.id i<0):wz l i=0:=List.countP_eq_zero.2 λu hu=>by simpa using h u hu
theorem posU_ins:∀ {l:List Upd} {u:Upd},StrU l->hasU l u.id=false->l.take (wz l u.id)++u::l.drop (wz l u.id)=po l u
 | [],u,_,_=>rfl
 | x::l,u,hs,hn=>by
  obtain⟨h1,h2⟩:=List.pairwise_cons.1 hs
  unfold hasU at hn
  rw [List.any_cons,Bool.or_eq_false_iff] at hn
  have ha:=uc x.id u.id
  unfold po
  split
  ·rename_i hlt
   rw [posU_zero (λz hz=>?_)]
   ·rfl
   ·rcases List.mem_cons.1 hz with rfl|hz
    ·omega
    ·have h3:=mn hlt (h1 z hz)
     have h4:=uc z.id u.id
     omega
  ·rename_i hlt
   have hne:bw x.id u.id≠0:=λh=>by rw [same_eq,decide_eq_true h] at hn;simp at hn
   rw [posU_cons,if_pos (by omega),Nat.add_comm,List.take_succ_cons,List.drop_succ_cons,List.cons_append,posU_ins h2 hn.2]
attribute [local irreducible] DW DS DL DQ Ev FnOk FnP ef bt DT
theorem dput_fn (l:List Upd) (u:Upd) (hl:l.length<=100000) (hs:StrU l) (hn:hasU l u.id=false):FnOk false Tryz.prog tab b9 198 [.row 0,gc u] 1 1 [(0,.row 82 5 (l.map aa))]
  (λk r H=>k=2/\r = .row 1/\H=[(1,.row 82 5 ((po l u).map aa))]):=by
 refine frE Tryz.func198 ?_;intro O w0 E0 β0;have ll:(l.map aa).length=l.length:=Aa _;have w:=at_fn l u.id (by omega) hs;have hpl:wz l u.id<=l.length:=List.countP_le_length;have w2:=insertU_fn l u (wz l u.id) hpl (by omega);rw [posU_ins hs hn] at w2;repeat' (first|refine zs ?_|fail)
 refine ds_callP w rfl (by rintro r rfl;rfl) rfl rfl rfl rfl ?_;rintro r rfl;repeat' (first|refine zs ?_|fail)
 refine ds_callO id w2 rfl rfl rfl rfl ⟨rfl,trivial⟩ rfl rfl rfl rfl rfl rfl ?_ ?_
 ·rintro k2 r H2 ⟨rfl,rfl,rfl⟩;exact⟨rfl,rfl⟩
 rintro k2 r H2 ⟨rfl,rfl,rfl⟩;change DS _ _ _ _ _ _ _ _;repeat' (first|refine zr ?_|fail)
 exact⟨.inl rfl,_,rfl,kp (λj=>match j with|1=>3|j=>j) 2 (.row 1) ([(1,.row 82 5 ((po l u).map aa))]) ⟨rfl,rfl,rfl⟩⟩
theorem cloneId_fn (l:List (UId)) (hl:l.length<=8796093022208):Fn 253 [.d (.slice 2 (l.map ck))] (λr=>r = .d (.slice 2 (l.map ck))):=by
 refine fqE Tryz.func253 ?_;intro O w0 E0 β0;have la:(l.map ck).length=l.length:=Aa _;repeat' (first|refine zs ?_|fail)
 refine ds_eqnil rfl rfl rfl rfl rfl (λh=>?_) ?_
 ·have h0:l=[]:=List.map_eq_nil_iff.1 h;subst h0;repeat' (first|refine zs ?_|fail)
  refine ak (cr 2 2 rfl) ?_;repeat' (first|refine zr ?_|fail)
  exact⟨.inl rfl,_,rfl,rfl,rfl⟩
 ·repeat' (first|(apply x5;exact rfl;exact rfl;exact rfl;exact rfl;exact rfl;exact rfl;exact rfl;exact rfl)|(first|refine zs ?_|fail))
  refine ak (bh 2 rfl rfl rfl) ?_;repeat' (apply c9)
  exact⟨.inl rfl,_,rfl,rfl,rfl⟩
theorem wown_fn (u:Upd) (h1:u.parents.length<=1000000) (h2:u.takes.length<=1000000) (h3:u.says.length<=1000000) (h4:∀ f∈u.says,f.args.length<=1000000):Fn 199 [gc u] (λr=>r=gc u):=by
 refine fqE Tryz.func199 ?_;intro O w0 E0 β0;have w1:=cloneId_fn u.parents (by omega);have w2:=cloneId_fn u.takes (by omega);repeat' (first|refine zs ?_|refine z22 ?_ (hc:=by apply w1)|refine z22 ?_ (hc:=by apply w2)|fail)
 have ls:(u.says.map ae).length=u.says.length:=Aa _;refine ak (kg 11 3 37 2 rfl rfl rfl) ?_;refine ag (ι:=Nat) (λi=>⟨3,[(2,.loc 0 0),(3,.loc 1 0),(16,.d (.slice 2 (u.says.map ae))),(17,.d (.int .i64 (u.says.map ae).length)),(18,.d (.int .i64 i))],
   [(0,.blk 82 [.d (.int .i64 0),.d (.int .i64 0),.nils,.nils,.nils]),(1,.blk 82 [.d (.int .i64 u.id.author),.d (.int .i64 u.id.number),.d (.slice 2 (u.parents.map ck)),.row 2,.d (.slice 2 (u.takes.map ck))]),(2,.row 37 2 ((u.says.take i).map ae))]⟩)
  (λi=>i<=u.says.length) (λi=>u.says.length-i) 0 (Nat.zero_le _) (er (λj=>match j with|0=>1|1=>11|2=>13|j=>j)) ?_
 clear w1 w2;intro i hle;have lt:((u.says.take i).map ae).length=i:=by rw [Aa,Aq];omega
 by_cases hi:i<u.says.length
 ·have w:=own_fn u.says[i] (by have:=h4 _ (Aj hi);omega);repeat' (first|refine zr ?_|refine z22 ?_ (hc:=by apply w)|(refine zm ?_ ?_<;>intro hg)|(exfalso;omega))
  exact⟨i+1,hi,ai (λj=>match j with|2=>9|j=>j) ⟨rfl,rfl,rfl,rfl,rfl,trivial⟩ ⟨rfl,rfl,by rw [An hi,Ar];rfl,trivial⟩ rfl rfl rfl rfl rfl rfl,by omega⟩
 ·have htk:u.says.take i=u.says:=Ai (by omega);rw [htk];repeat' (first|refine zs ?_|(refine zm ?_ ?_<;>intro hg)|(exfalso;omega))
  refine ak (pq 0 3 2 rfl rfl rfl rfl rfl) ?_;repeat' (apply c9)
  exact⟨.inl rfl,_,rfl,rfl,rfl⟩
structure ShortU (u:Upd):Prop where
 parents:u.parents.length<=100000
 takes:u.takes.length<=100000
 says:u.says.length<=1000000
 args:∀ f∈u.says,f.args.length<=1000000
theorem downs_fn (l:List Upd) (hl:l.length<=100000) (hs:∀ u∈l,ShortU u):FnRow false Tryz.prog tab b9 186 [.d (.slice 5 (l.map aa))] 82 5 (λys=>ys=l.map aa):=by
 refine frE Tryz.func186 ?_;intro O w0 E0 β0;have ll:(l.map aa).length=l.length:=Aa _;repeat' (first|refine zs ?_|fail)
 refine ak (cd (t:=3) 82 5 rfl) ?_;refine ag (ι:=Nat) (λi=>⟨1,[(3,.row 0),(6,.d (.slice 5 (l.map aa))),(7,.d (.int .i64 (l.map aa).length)),(8,.d (.int .i64 i))],[(0,.row 82 5 ((l.take i).map aa))]⟩)
  (λi=>i<=l.length) (λi=>l.length-i) 0 (Nat.zero_le _) (er id) ?_
 intro i hle;have lt:((l.take i).map aa).length=i:=by rw [Aa,Aq];omega
 by_cases hi:i<l.length
 ·have hu:=hs _ (Aj hi);have w:=wown_fn l[i] (A5 hu.parents (by decide)) (A5 hu.takes (by decide)) hu.says hu.args;repeat' (first|refine zr ?_|refine z21 ?_ (hc:=by apply w)|(refine zm ?_ ?_<;>intro hg)|(exfalso;omega))
  exact⟨i+1,hi,ai (λj=>match j with|0=>2|j=>j) ⟨rfl,rfl,rfl,rfl,trivial⟩ ⟨by rw [An hi,Ar];rfl,trivial⟩ rfl rfl rfl rfl rfl rfl,by omega⟩
 ·have htk:l.take i=l:=Ai (by omega);rw [htk];repeat' (first|refine zr ?_|(refine zm ?_ ?_<;>intro hg)|(exfalso;omega))
  exact⟨.inl rfl,_,rfl,kp id 1 (.row 0) ([(0,.row 82 5 (l.map aa))]) ⟨_,rfl,rfl,rfl⟩⟩
theorem dOwn_fn (r:Rpl) (h1:r.has.length<=100000) (h2:r.waits.length<=100000) (hs:∀ u∈r.has,ShortU u) (hw:∀ u∈r.waits,ShortU u):FnOk false Tryz.prog tab b9 137 [jf r] 0 0 []
  (λk res H=>k=2/\res = .agg [.row 0,.row 1]/\H=[(0,.row 82 5 (r.has.map aa)),(1,.row 82 5 (r.waits.map aa))]):=by
 refine frE Tryz.func137 ?_;intro O w0 E0 β0;have w1:=downs_fn r.has h1 hs;have w2:=downs_fn r.waits h2 hw;repeat' (first|refine zs ?_|fail)
 refine dt_callW rfl rfl w1 rfl rfl rfl rfl ⟨_,rfl⟩ ?_;rintro _ rfl;repeat' refine z5 ?_
 refine dt_callW rfl rfl w2 rfl rfl rfl rfl ⟨_,rfl⟩ ?_;rintro _ rfl;repeat' (first|refine zr ?_|fail)
 exact⟨.inl rfl,_,rfl,kp (λj=>match j with|0=>4|1=>7|j=>j) 2 (.agg [.row 0,.row 1]) ([(0,.row 82 5 (r.has.map aa)),(1,.row 82 5 (r.waits.map aa))]) ⟨rfl,rfl,rfl⟩⟩
end
section
open Go Go.RowKit
theorem FnTr.of {dr:Bool} {P:Program} {τ:List (Nat×TI)} {τok:dz P τ} {f:FuncId} {args:List SV} {te0 te:TypeId} {es0 es:Nat} {xs ys:List (List D)} (h:FnOk dr P τ τok f args 1 1 [(0,.row te0 es0 xs)] (λk r H=>k=2/\r = .row 1/\H=[(1,.row te es ys)])) :
  FnTr dr P τ τok f args te0 es0 xs te es (λzs=>zs=ys):=by
 unfold FnTr;refine⟨h.1,λO e w vs hH hr=>(h.2 O e w vs hH hr).mono ?_⟩
 rintro en w' ⟨k',r,H',e',v,⟨_,h2,h3⟩,h4⟩;exact⟨k',r,H',e',v,⟨ys,rfl,h2,h3⟩,h4⟩
theorem idxF_or {α:Type} (p:α->Bool) (l:List α):(kr p l = -1/\∀ x∈l,p x=false)∨∃ (i:Nat) (hi:i<l.length),kr p l=i/\p (l[i]'hi)=true:=by
 cases h:l.findIdx? p with
 | none=>exact .inl ⟨by unfold kr;rw [h],by simpa using List.findIdx?_eq_none_iff.1 h⟩
 | some i =>
  obtain⟨hi,hp,_⟩:=List.findIdx?_eq_some_iff_getElem.1 h;exact .inr ⟨i,hi,by unfold kr;rw [h],hp⟩
theorem erase_filter {l:List Upd} (hs:StrU l) {i:Nat} (hi:i<l.length):l.eraseIdx i=l.filter λv=>!(v.id.same (l[i]'hi).id):=by
 have hn:∀ j (hj:j<l.length),j≠i->(!((l[j]'hj).id.same (l[i]'hi).id))=true:=λj hj hne=>by
  rw [Bool.not_eq_true',<- Cm,same_iff];intro he;have h1:=hs.uniq (Aj hj) (Aj hi) he;exact hne ((List.getElem_inj hs.nodup).1 h1)
 have e:l=l.take i++l[i]'hi::l.drop (i+1):=by rw [<- List.drop_eq_getElem_cons hi,List.take_append_drop]
 have e1:(l.take i).filter (λv=>!(v.id.same (l[i]'hi).id))=l.take i:=List.filter_eq_self.2 λv hv=>by
  obtain⟨j,hj,rfl⟩:=List.mem_iff_getElem.1 hv;rw [Aq] at hj;rw [List.getElem_take];exact hn j (by omega) (by omega)
 have e2:(l.drop (i+1)).filter (λv=>!(v.id.same (l[i]'hi).id))=l.drop (i+1):=List.filter_eq_self.2 λv hv=>by
  obtain⟨j,hj,rfl⟩:=List.mem_iff_getElem.1 hv;rw [A7] at hj;rw [List.getElem_drop];exact hn _ (by omega) (by omega)
 have e3:(!((l[i]'hi).id.same (l[i]'hi).id))=false:=by rw [Bool.not_eq_false',same_iff]
 have key:∀ f:Upd->Bool,(l.take i).filter f=l.take i->(l.drop (i+1)).filter f=l.drop (i+1)->f (l[i]'hi)=false->l.filter f=l.take i++l.drop (i+1):=λf f1 f2 f3=>by
  have h:=congrArg (List.filter f) e;rw [List.filter_append,List.filter_cons,f3,if_neg (by simp),f1,f2] at h;exact h
 rw [List.eraseIdx_eq_take_drop_succ];exact (key _ e1 e2 e3).symm
attribute [local irreducible] DW DS DL DQ Ev FnOk FnP ef bt DT
abbrev vwB (p:Prg) (sn:List Fct):HB:=.blk 136 [.row 1,.row 2,.d (.slice 1 (p.arity.map aq)),.d (.slice 1 (p.names.map oq)),.d (.slice 5 (p.rules.map dj)),.d (.slice 2 (sn.map ae))]
abbrev vwD (p:Prg) (sn:List Fct) (r:Rpl):List D:=[.slice 5 (r.has.map aa),.slice 5 (r.waits.map aa),.slice 1 (p.arity.map aq),.slice 1 (p.names.map oq),.slice 5 (p.rules.map dj),.slice 2 (sn.map ae)]
abbrev vwH (p:Prg) (sn:List Fct) (r:Rpl):Hp:=[(0,vwB p sn),(1,.row 82 5 (r.has.map aa)),(2,.row 82 5 (r.waits.map aa))]
theorem put1V_fn (p:Prg) (sn:List Fct) (r:Rpl) (u:Upd) (hl:r.has.length<=1000000) (hs:StrU r.has) (h:u.parents.length+u.takes.length<=1000000):Fn 201 ([gc u]++[.pd [.ptr (vwD p sn r)]]) (λres=>res = .d (.bool (readyU r.has u))):=by
 refine fqE Tryz.func201 ?_;intro O w0 E0 β0;have w:=dready_fn r.has u hl hs h;repeat' (first|refine zr ?_|refine z22 ?_ (hc:=by apply w)|fail)
 exact a7 rfl rfl
theorem putV_fn (p:Prg) (sn:List Fct) (r:Rpl) (u:Upd) (hok:RplOk r.both r) (h1:r.has.length<=100000) (h2:r.waits.length<=100000) (hu:ShortU u) (hr:∀ u∈r.has,ShortU u) (hw:∀ u∈r.waits,ShortU u) :
  FnOk false Tryz.prog tab b9 141 [.loc 0 0,gc u] 1 3 (vwH p sn r) (λk res H=>k=3/\(
   ((hasU r.has u.id=true∨hasU r.waits u.id=true)/\res = .d (.bool true)/\H=vwH p sn r) ∨
   (hasU r.has u.id=false/\hasU r.waits u.id=false/\200<=r.has.length+r.waits.length/\res = .d (.bool false)/\H=vwH p sn r) ∨
   (hasU r.has u.id=false/\hasU r.waits u.id=false/\r.has.length+r.waits.length<200/\∃ r2:Rpl,RplOk (u::r.both) r2/\res = .d (.bool true)/\H=vwH p sn r2))):=by
 have sh:=hok.sh;have sw:=hok.sw;refine frE Tryz.func141 ?_;intro O w0 E0 β0;have w1:FnOk false Tryz.prog tab b9 140 [.row 0,o8 u.id] 1 1 [(0,.row 82 5 (r.has.map aa))] (λ_ res H2=>res = .d (.bool (hasU r.has u.id))/\H2=[(0,.row 82 5 (r.has.map aa))]) :=
  FnP.shownR (zb r.has u.id (by omega) sh) rfl rfl (by rintro _ rfl;rfl)
 repeat' (first|refine zs ?_|fail)
 refine s8 (λj=>match j with|0=>1|j=>j) w1 (by rintro _ rfl;exact⟨rfl,rfl⟩) ⟨_,rfl⟩ rfl rfl rfl rfl ⟨rfl,trivial⟩ rfl rfl rfl rfl rfl rfl rfl rfl rfl ?_;rintro _ rfl;have w2:FnOk false Tryz.prog tab b9 140 [.row 0,o8 u.id] 1 1 [(0,.row 82 5 (r.waits.map aa))] (λ_ res H2=>res = .d (.bool (hasU r.waits u.id))/\H2=[(0,.row 82 5 (r.waits.map aa))]) :=
  FnP.shownR (zb r.waits u.id (by omega) sw) rfl rfl (by rintro _ rfl;rfl)
 have hty:=hasU_app r.has r.waits u.id;cases hb1:hasU r.has u.id with
 | true =>
  repeat' (first|refine zr ?_|fail)
  exact⟨.inl rfl,_,rfl,kp id 3 (.d (.bool true)) (vwH p sn r) ⟨rfl,.inl ⟨Or.inl rfl,rfl,rfl⟩⟩⟩
 | false =>
  repeat' refine z5 ?_
  refine s8 (λj=>match j with|0=>2|j=>j) w2 (by rintro _ rfl;exact⟨rfl,rfl⟩) ⟨_,rfl⟩ rfl rfl rfl rfl ⟨rfl,trivial⟩ rfl rfl rfl rfl rfl rfl rfl rfl rfl ?_;rintro _ rfl;cases hb2:hasU r.waits u.id with
  | true =>
   repeat' (first|refine zr ?_|fail)
   exact⟨.inl rfl,_,rfl,kp id 3 (.d (.bool true)) (vwH p sn r) ⟨rfl,.inl ⟨Or.inr rfl,rfl,rfl⟩⟩⟩
  | false =>
   have lh:(r.has.map aa).length=r.has.length:=Aa _;have lw:(r.waits.map aa).length=r.waits.length:=Aa _;by_cases hf:200<=r.has.length+r.waits.length
   ·repeat' (first|refine zr ?_|(refine zm ?_ ?_<;>intro hg)|(exfalso;omega))
    exact⟨.inl rfl,_,rfl,kp id 3 (.d (.bool false)) (vwH p sn r) ⟨rfl,.inr (.inl ⟨rfl,rfl,hf,rfl,rfl⟩)⟩⟩
   ·have wo:=wown_fn u (A5 hu.parents (by decide)) (A5 hu.takes (by decide)) hu.says hu.args;repeat' (first|refine zs ?_|refine z22 ?_ (hc:=by apply wo)|(refine zm ?_ ?_<;>intro hg)|(exfalso;omega))
    have wp:=FnTr.of (dput_fn r.waits u h2 sw hb2);refine dt_callT 2 wp rfl rfl rfl rfl rfl rfl rfl ⟨_,rfl⟩ rfl rfl ?_;rintro _ rfl;repeat' (first|refine zs ?_|fail)
    refine ag (ι:=Rpl) (λx=>⟨4,[(2,.loc 3 0)],[(0,vwB p sn),(1,.row 82 5 (x.has.map aa)),(2,.row 82 5 (x.waits.map aa)),(3,.blk 196 [.loc 0 0])]⟩)
     (λx=>RplGo (u::r.both) x/\x.has.length+x.waits.length=r.has.length+r.waits.length+1) (λx=>x.waits.length) ⟨r.has,po r.waits u⟩ ⟨hok.more hb1 hb2,by dsimp only;rw [xt];omega⟩ (er (λj=>match j with|2=>12|j=>j)) ?_
    clear w1 w2 wo wp;rintro x ⟨hx,hcnt⟩;have hshort:∀ v,v∈x.has∨v∈x.waits->ShortU v:=λv hv=>by
     rcases List.mem_cons.1 ((hx.all v).2 hv) with rfl|h
     ·exact hu
     ·rcases List.mem_append.1 h with h|h
      ·exact hr _ h
      ·exact hw _ h
    have lxh:(x.has.map aa).length=x.has.length:=Aa _;have lxw:(x.waits.map aa).length=x.waits.length:=Aa _;have wi:=indexU_fn (caps:=[.pd [.ptr (vwD p sn x)]]) (λv=>readyU x.has v) x.waits rfl (λv hv=>put1V_fn p sn x v (by omega) hx.sh (by have h:=hshort v (.inr hv);have:=h.parents;have:=h.takes;omega));repeat' (first|refine zs ?_|fail)
    refine ds_callP wi rfl (by rintro _ rfl;rfl) rfl rfl rfl rfl ?_;rintro _ rfl;rcases idxF_or (λv=>readyU x.has v) x.waits with ⟨hn,hall⟩|⟨i,hi,hn,hri⟩
    ·rw [hn];repeat' (first|refine zr ?_|(exfalso;omega))
     exact⟨.inl rfl,_,rfl,kp id 3 (.d (.bool true)) (vwH p sn x) ⟨rfl,.inr (.inr ⟨rfl,rfl,by omega,x,hx.done hall,rfl,rfl⟩)⟩⟩
    ·rw [hn];have hnh:hasU x.has (x.waits[i]'hi).id=false:=by
      cases hb:hasU x.has (x.waits[i]'hi).id with
      | false=>rfl
      | true =>
       obtain⟨v,hv,he⟩:=hasU_iff.1 hb;exact absurd he (hx.apart v hv _ (Aj hi))
     have wd:=FnTr.of (deleteU_fn x.waits i hi (by omega));have wp:=FnTr.of (dput_fn x.has (x.waits[i]'hi) (by omega) hx.sh hnh);clear wi;repeat' (first|refine zs ?_|(exfalso;omega))
     refine dt_callT 2 wd rfl rfl rfl rfl rfl rfl rfl ⟨_,rfl⟩ rfl rfl ?_;rintro _ rfl;repeat' (first|refine zs ?_|(exfalso;omega))
     refine dt_callT 1 wp rfl rfl rfl rfl rfl rfl rfl ⟨_,rfl⟩ rfl rfl ?_;rintro _ rfl;repeat' (first|refine zs ?_|(exfalso;omega))
     have hgo:=hx.move (Aj hi) hri;rw [<- erase_filter hx.sw hi] at hgo;exact⟨⟨po x.has (x.waits[i]'hi),x.waits.eraseIdx i⟩,⟨hgo,by dsimp only;rw [xt,Ft hi];omega⟩,er (λj=>match j with|1=>23|2=>13|j=>j),by dsimp only;rw [Ft hi];omega⟩
theorem qh {u:Upd} (h:db u=0):ShortU u:=by
 have g:=checkU_good h;refine⟨by have:=g.np;omega,by have:=g.nt;omega,by have:=g.ns;omega,λf hf=>?_⟩
 have h1:=List.all_eq_true.1 g.says f hf;unfold saysB at h1;simp only [Ae,decide_eq_true_eq] at h1;omega
theorem checkR_ok {r:Rpl} (h:dp r=0):r.has.length+r.waits.length<=200/\(∀ u∈r.both,db u=0)/\RplOk r.both r:=by
 unfold dp at h;split at h
 ·cases h
 rename_i h1;split at h
 ·rename_i h2;exact absurd h h2
 rename_i h2;split at h
 ·cases h
 rename_i h3;split at h
 ·cases h
 rename_i h4;split at h
 ·cases h
 rename_i h5;simp only [not_or,Bool.not_eq_false,Cm] at h3 h4 h5;have hc:=rv (Decidable.not_not.1 h2);have sh:=si h3.1;have sw:=si h3.2.1;have hready:∀ u∈r.has,readyU r.has u=true:=λu hu=>by
  have:=List.any_eq_false.1 h4 u hu
  simpa using this
 have hnr:∀ u∈r.has,¬ Reach r.has (cv u) u.id:=λu hu hre=>by
  have:=List.any_eq_false.1 h5.1 u hu
  exact this ((behM_iff sh (cv u) u.id).2 hre)
 refine⟨by omega,hc,RplGo.done ⟨sh,sw,λu=>Cj,λu hu v hv he=>?_,λu hu=>(no_round_der hready hnr u hu).mono λv hv=>List.mem_append_left _ hv⟩ λu hu=>?_⟩
 ·have:=List.any_eq_false.1 h3.2.2 v hv
  exact this (hasU_iff.2 ⟨u,hu,he⟩)
 ·have:=List.any_eq_false.1 h5.2 u hu
  simpa using this
end
end Go.Proofs.YtapciiffpnociadGreat
