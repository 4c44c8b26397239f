/- Several texts in one: GxSto GxApp GxApn GxBld GxFin. Condition: none. -/
import Derived.Test.YtapciiffpnociabGreatDoorR02
import Derived.Laws.AppendOwnNone
namespace Go.Proofs.YtapciiffpnociabGreatDoor
open Go Go.RowKit
def Hp.set:Hp→Nat→HB→Hp
 | [],_,_=>[]
 | (d,s)::H,i,b=>match Nat.beq d i with|true=>(d,b)::H|false=>(d,s)::Hp.set H i b
def Hp.del:Hp→Nat→Hp
 | [],_=>[]
 | (d,s)::H,i=>match Nat.beq d i with|true=>H|false=>(d,s)::Hp.del H i
theorem Hp.set_ids (i:Nat) (b:HB):∀ (H:Hp),(Hp.set H i b).map (·.1)=H.map (·.1)
 | []=>rfl
 | (d,s)::H=>by
  simp only [Hp.set]
  cases h:Nat.beq d i with
  | true=>rfl
  | false=>simp [Hp.set_ids i b H]
theorem Hp.set_mem {i:Nat} {b:HB}:∀ (H:Hp),(H.map (·.1)).Nodup→∀ p∈Hp.set H i b,p=(i,b)∨(p∈H∧p.1≠i)
 | [],_,p,hp=>by simp [Hp.set] at hp
 | (d,s)::H,hn,p,hp=>by
  obtain⟨h1,h2⟩:=List.nodup_cons.1 hn
  simp only [Hp.set] at hp
  cases h:Nat.beq d i with
  | true =>
   have hd:=Nat.eq_of_beq_eq_true h
   subst hd
   rw [h] at hp
   rcases List.mem_cons.1 hp with rfl|hp
   ·exact .inl rfl
   ·refine .inr ⟨List.mem_cons_of_mem _ hp,fun he=>h1 ?_⟩
    exact List.mem_map.2 ⟨p,hp,he⟩
  | false =>
   have hd:=Nat.ne_of_beq_eq_false h
   rw [h] at hp
   rcases List.mem_cons.1 hp with rfl|hp
   ·exact .inr ⟨List.mem_cons_self ..,hd⟩
   ·rcases Hp.set_mem H h2 p hp with h3|⟨h3,h4⟩
    ·exact .inl h3
    ·exact .inr ⟨List.mem_cons_of_mem _ h3,h4⟩
theorem Hp.set_owned {e:Env} {i:Nat} {b b':HB} (ho:HB.owned e (i,b')=HB.owned e (i,b)):∀ (H:Hp),Hp.get H i=some b→ownedL e (Hp.set H i b')=ownedL e H
 | [],h=>by simp [Hp.get] at h
 | (d,s)::H,h=>by
  simp only [Hp.get] at h
  simp only [Hp.set]
  cases hb:Nat.beq d i with
  | true =>
   have hd:=Nat.eq_of_beq_eq_true hb
   subst hd
   rw [hb] at h
   cases h
   unfold ownedL
   rw [List.filterMap_cons,List.filterMap_cons,ho]
  | false =>
   rw [hb] at h
   have ih:=Hp.set_owned ho H h
   unfold ownedL at ih ⊢
   rw [List.filterMap_cons,List.filterMap_cons,ih]
theorem Hp.del_mem {i:Nat}:∀ (H:Hp),(H.map (·.1)).Nodup→∀ p∈Hp.del H i,p∈H∧p.1≠i
 | [],_,p,hp=>by simp [Hp.del] at hp
 | (d,s)::H,hn,p,hp=>by
  obtain⟨h1,h2⟩:=List.nodup_cons.1 hn
  simp only [Hp.del] at hp
  cases h:Nat.beq d i with
  | true =>
   have hd:=Nat.eq_of_beq_eq_true h
   subst hd
   rw [h] at hp
   exact⟨List.mem_cons_of_mem _ hp,fun he=>h1 (List.mem_map.2 ⟨p,hp,he⟩)⟩
  | false =>
   rw [h] at hp
   rcases List.mem_cons.1 hp with rfl|hp
   ·exact⟨List.mem_cons_self ..,Nat.ne_of_beq_eq_false h⟩
   ·obtain⟨h3,h4⟩:=Hp.del_mem H h2 p hp
    exact⟨List.mem_cons_of_mem _ h3,h4⟩
theorem Hp.del_ids {i:Nat}:∀ (H:Hp),(H.map (·.1)).Nodup→((Hp.del H i).map (·.1)).Nodup
 | [],_=>by simp [Hp.del]
 | (d,s)::H,hn=>by
  obtain⟨h1,h2⟩:=List.nodup_cons.1 hn
  simp only [Hp.del]
  cases h:Nat.beq d i with
  | true=>exact h2
  | false =>
   refine List.nodup_cons.2 ⟨fun hm=>h1 ?_,Hp.del_ids H h2⟩
   obtain⟨p,hp,he⟩:=List.mem_map.1 hm
   exact List.mem_map.2 ⟨p,(Hp.del_mem H h2 p hp).1,he⟩
section
variable {Γ : Ctx} {k : Nat → Prop} {L : Sl} {H : Hp} {K : Next'} {ops : List Oper} {rest : List Oper} {a : Act} {w : World} {e : Env} {t t' ty : TypeId} {x y : Operand}
theorem nodup_of_map {l:Hp} (h:(l.map (·.1)).Nodup):l.Nodup :=
 List.Pairwise.of_map (f:=fun p:Nat × HB=>p.1) (S:=(·≠·)) (fun _ _ hab he=>hab (by rw [he])) h
theorem Models.owned_ne (m:Models Γ k L H e a w) {p q:Nat × HB} (hp:p∈H) (hq:q∈H) (hne:p.1≠q.1) {b:Nat} (h1:HB.owned e p=some b) (h2:HB.owned e q=some b):False :=
 hne (by rw [filterMap_inj _ H m.nodup p q b hp hq h1 h2])
theorem Models.turn (m:Models Γ k L H e a w) {i:Nat} {b b':HB} (hH:Hp.get H i=some b) {w':World} (hs:w.heap.size≤w'.heap.size) (hos:w'.os=w.os) (htape:w'.tape=w.tape) (hout:w'.output=w.output) (hdr:Γ.dr=true→w.drawn≤w'.drawn)
  (hblk:∀ c,c < w.heap.size→HB.owned e (i,b)≠some c→w'.heap[c]? = w.heap[c]?) (ho:HB.owned e (i,b')=HB.owned e (i,b)) (hr:HRel (Γ.X e H) e w' (i,b')):Models Γ k L (Hp.set H i b') e a w':=by
 have hmem:=Hp.mem_of hH
 have hol:ownedL e (Hp.set H i b')=ownedL e H:=Hp.set_owned ho H hH
 have hX:Γ.X e (Hp.set H i b')=Γ.X e H:=by unfold Ctx.X;rw [hol]
 have hno:∀ c,HB.owned e (i,b)=some c→c∈ownedL e H:=fun c hc=>List.mem_filterMap.2 ⟨_,hmem,hc⟩
 have hkeep:∀ c,c < w.heap.size→¬ Γ.X e H c→w'.heap[c]? = w.heap[c]?:=fun c hc hx=>hblk c hc fun h=>hx (.inr (hno c h))
 refine⟨⟨m.top,fun p hp=>?_,by rw [Hp.set_ids];exact m.ids,by rw [hol];exact m.nodup,fun c hc=>m.mine c (hol▸hc),hos.trans m.os,htape.trans m.tape,hout.trans m.output,fun hd=>Nat.le_trans (m.drawn hd) (hdr hd),Nat.le_trans m.size hs,
  fun c h1 h2=>(hblk c (Nat.lt_of_lt_of_le h1 m.size) fun h=>?_).trans (m.block c h1 h2),m.obound,m.tabs,m.jle,m.anchor⟩,m.defers.keep fun r hr=>hblk r (lt_of_heap hr) fun ho=>m.owned_mark hr (hno r ho),m.len,fun t=>?_⟩
 ·rw [hX]
  rcases Hp.set_mem H m.ids p hp with rfl|⟨hp,hne⟩
  ·exact⟨(m.heap _ hmem).1,hr⟩
  ·refine⟨(m.heap p hp).1,HRel.keep hs hkeep (fun _ _ h=>h) p (fun c hc=>hblk c (m.lt c (List.mem_filterMap.2 ⟨p,hp,hc⟩)) fun h=>m.owned_ne hp hmem hne hc h) (m.heap p hp).2⟩
 ·rcases (m.mine c (hno c h)).1 with h3|h3
  ·exact h2 h3
  ·omega
 ·rw [hX];exact Rel.keep hs hkeep (fun _ _ h=>h) _ _ (m.slot t)
theorem Models.trade (m:Models Γ k L H e a w) {i:Nat} {b:HB} (hH:Hp.get H i=some b) {x:Nat} (hx:¬ k x) {e':Env} {w':World} {hb:HB} (hek:∀ i,e'.dom i↔with1 k x i) (he:∀ i,e.dom i→e'.β i=e.β i∧e'.η i=e.η i)
  (hs:w.heap.size≤w'.heap.size) (hos:w'.os=w.os) (htape:w'.tape=w.tape) (hout:w'.output=w.output) (hdr:Γ.dr=true→w.drawn≤w'.drawn)
  (hblk:∀ c,c < w.heap.size→HB.owned e (i,b)≠some c→w'.heap[c]? = w.heap[c]?)
  (ho:∀ c,HB.owned e' (x,hb)=some c→HB.owned e (i,b)=some c∨w.heap.size≤c)
  (hr0:(∀ c,c < w.heap.size→Γ.X e' ((x,hb)::Hp.del H i) c→Γ.X e H c)→HRel (Γ.X e' ((x,hb)::Hp.del H i)) e' w' (x,hb)):Models Γ (with1 k x) L ((x,hb)::Hp.del H i) e' a w':=by
 have hmem:=Hp.mem_of hH
 have hlt:∀ p∈H,e.dom p.1:=fun p hp=>(m.heap p hp).1
 have hd:=Hp.del_mem (i:=i) H m.ids
 have hk:∀ i,e.dom i→e'.dom i:=fun i hi=>(hek i).2 (.inl ((m.top i).1 hi))
 have hol:ownedL e' (Hp.del H i)=ownedL e (Hp.del H i):=ownedL_ext he _ fun p hp=>hlt p (hd p hp).1
 have hsub:∀ c,c∈ownedL e (Hp.del H i)→c∈ownedL e H∧HB.owned e (i,b)≠some c:=by
  intro c hc
  obtain⟨p,hp,hpc⟩:=List.mem_filterMap.1 hc
  exact⟨List.mem_filterMap.2 ⟨p,(hd p hp).1,hpc⟩,fun h=>m.owned_ne (hd p hp).1 hmem (hd p hp).2 hpc h⟩
 have hno:∀ c,HB.owned e (i,b)=some c→c∈ownedL e H:=fun c hc=>List.mem_filterMap.2 ⟨_,hmem,hc⟩
 have hcons:∀ c,c∈ownedL e' ((x,hb)::Hp.del H i)→HB.owned e' (x,hb)=some c∨c∈ownedL e (Hp.del H i):=by
  intro c hbm
  unfold ownedL at hbm
  rw [List.filterMap_cons] at hbm
  split at hbm
  ·exact .inr (hol▸hbm)
  ·rename_i c' hc
   rcases List.mem_cons.1 hbm with rfl|h
   ·exact .inl hc
   ·exact .inr (hol▸h)
 have hX:∀ c,c < w.heap.size→Γ.X e' ((x,hb)::Hp.del H i) c→Γ.X e H c:=by
  intro c hcl hx
  rcases hx with hx|hx
  ·exact .inl hx
  ·rcases hcons c hx with h|h
   ·rcases ho c h with h|h
    ·exact .inr (hno c h)
    ·omega
   ·exact .inr (hsub c h).1
 have hr:=hr0 hX
 have hkeep:∀ c,c < w.heap.size→¬ Γ.X e H c→w'.heap[c]? = w.heap[c]?:=fun c hc hx=>hblk c hc fun h=>hx (.inr (hno c h))
 have hnd:(ownedL e (Hp.del H i)).Nodup:=filterMap_nodup _ H m.nodup _ (nodup_of_map (Hp.del_ids H m.ids)) fun p hp=>(hd p hp).1
 refine⟨⟨hek,fun p hp=>?_,?_,?_,fun c hbm=>?_,hos.trans m.os,htape.trans m.tape,hout.trans m.output,fun hd=>Nat.le_trans (m.drawn hd) (hdr hd),Nat.le_trans m.size hs,
  fun c h1 h2=>(hblk c (Nat.lt_of_lt_of_le h1 m.size) fun h=>?_).trans (m.block c h1 h2),m.obound,m.tabs,fun j hj=>.inl (m.jle j hj),fun j hj=>(Env.an_ext (he j ((m.top j).2 (m.jle j hj)))).trans (m.anchor j hj)⟩,m.defers.keep fun r hr=>hblk r (lt_of_heap hr) fun ho=>m.owned_mark hr (hno r ho),m.len,fun t=>?_⟩
 ·rcases List.mem_cons.1 hp with rfl|hp
  ·exact⟨(hek x).2 (.inr rfl),hr⟩
  ·obtain⟨hp,hne⟩:=hd p hp
   refine⟨hk _ (hlt p hp),?_⟩
   have h1:=HRel.ext hk he p (hlt p hp) (m.heap p hp).2
   refine HRel.keep hs hkeep hX p (fun c hob=>?_) h1
   rw [owned_ext he p (hlt p hp)] at hob
   exact hblk c (m.lt c (List.mem_filterMap.2 ⟨p,hp,hob⟩)) fun h=>m.owned_ne hp hmem hne hob h
 ·refine List.nodup_cons.2 ⟨fun hm=>?_,Hp.del_ids H m.ids⟩
  obtain⟨p,hp,hpk⟩:=List.mem_map.1 hm
  have:=(m.top _).1 (hlt p (hd p hp).1)
  simp at hpk
  exact hx (hpk▸this)
 ·unfold ownedL
  rw [List.filterMap_cons]
  split
  ·exact (show (ownedL e' (Hp.del H i)).Nodup from hol▸hnd)
  ·rename_i c hc
   refine List.nodup_cons.2 ⟨fun hm=>?_,(show (ownedL e' (Hp.del H i)).Nodup from hol▸hnd)⟩
   have h2:=hsub c (show c∈ownedL e (Hp.del H i) from hol▸hm)
   rcases ho c hc with h1|h1
   ·exact h2.2 h1
   ·have:=m.lt c h2.1;omega
 ·rcases hcons c hbm with h|h
  ·rcases ho c h with h1|h1
   ·exact m.mine c (hno c h1)
   ·exact⟨.inr (Nat.le_trans m.size h1),fun hO=>by have:=(m.obound c hO).1;have:=m.size;omega⟩
  ·exact m.mine c (hsub c h).1
 ·rcases (m.mine c (hno c h)).1 with h3|h3
  ·exact h2 h3
  ·omega
 ·exact Rel.keep hs hkeep hX _ _ (Rel.ext hk he _ _ (m.slot t))
def splice (cs:List SV) (o:Nat) (ss:List SV):List SV:=cs.take o++ss++cs.drop (o + ss.length)
theorem op_store {te tb ty:TypeId} {pos:String} {af:Array Edge} {g:Option (Nat × Bool)} {i o:Nat} {cs:List SV} {s:SV} (hx:opSV L x = .loc i o) (hH:Hp.get H i=some (.blk tb cs)) (hy:opSV L y=s) (hyo:opOkB y=true) (hv:s.isVar=true)
  (hkn:(Γ.sh te).known=true) (hn:Nat.beq s.cells.length (Γ.cells te)=true) (hle:Nat.ble (o + s.cells.length) cs.length=true) :
  OpOk Γ ⟨none,.store te x y,ty,pos,af,g⟩ k L H k L (Hp.set H i (.blk tb (splice cs o s.cells))):=by
 intro e a w Q m
 obtain⟨inf,z,hi,_,hs,_⟩:=Ctx.info (Sh.known_ne hkn)
 obtain⟨_,hp⟩:=evT m hx (cSV_loc · _ _)
 have hr:=m.op y (opOkB_spec hyo)
 rw [hy] at hr
 obtain⟨g1,g2⟩:=cells_spec hv hr
 obtain⟨vs,h1,h2,h3⟩:=(m.heap _ (Hp.mem_of hH)).2
 have hl:=RelL.length _ _ h2
 have hl2:=RelL.length _ _ g1
 have hle':=Nat.le_of_ble_eq_true hle
 have hn':=Nat.eq_of_beq_eq_true hn
 have hst:=run_storeCells_at Γ.P (e.β i) o tb (a.eval y).cells.toList 0 vs.toArray w h1 (by simp;rw [← hl,← Array.length_toList,← hl2];omega) g2
 have hrun:(execOp a.eval ⟨none,.store te x y,ty,pos,af,g⟩).run Γ.P w = .ok .skip (w.setRow (e.β i) (vs.take o++(a.eval y).cells.toList++vs.drop (o + (a.eval y).cells.toList.length)).toArray):=by
  have hsz:(a.eval y).cells.size=inf.size:=by rw [← Array.length_toList,← hl2,hn',hs]
  simp only [execOp,Instr.storeAt,hp,Instr.sureAddr]
  simp [storeVar,run_sizeOf hi,hsz,hst]
 unfold Oper.wp
 rw [hrun]
 refine⟨e,m.turn (b':=.blk tb (splice cs o s.cells)) hH ?_ rfl rfl rfl (fun _=>Nat.le_refl _) (fun c _ hc=>setRow_other w _ c _ (fun h=>hc (by simp [HB.owned,h]))) rfl ?_⟩
 ·simp [World.setRow]
 ·refine⟨_,setRow_heap w (e.β i) vs.toArray _ tb (0,0) h1,?_,fun v hv=>?_⟩
  ·have hkeep:∀ b,b < w.heap.size→¬ Γ.X e H b→(w.setRow (e.β i) (vs.take o++(a.eval y).cells.toList++vs.drop (o + (a.eval y).cells.toList.length)).toArray).heap[b]? = w.heap[b]?:=fun b _ hb=>setRow_other w _ b _ (fun h=>hb (.inr (List.mem_filterMap.2 ⟨_,Hp.mem_of hH,by simp [HB.owned,h]⟩)))
   refine RelL.keep (by simp [World.setRow]) hkeep (fun _ _ h=>h) _ _ ?_
   unfold splice
   rw [hl2]
   exact RelL.append _ _ _ _ (RelL.append _ _ _ _ (RelL.take _ _ h2 o) g1) (RelL.drop _ _ h2 _)
  ·simp only [List.mem_append] at hv
   rcases hv with (hv|hv)|hv
   ·exact h3 v (List.mem_of_mem_take hv)
   ·exact g2 v hv
   ·exact h3 v (List.mem_of_mem_drop hv)
end
section
variable {Γ : Ctx} {k : Nat} {L : Sl} {H : Hp} {K : Next'} {ops : List Oper} {rest : List Oper} {a : Act} {w : World} {e : Env} {t t' ty : TypeId} {x y : Operand}
end
end Go.Proofs.YtapciiffpnociabGreatDoor
namespace Go.Proofs.YtapciiffpnociabGreatDoor
open Go Go.RowKit
theorem foldl_splice:∀ (vs:List Value) (o j:Nat) (cs:Array Value),o + j + vs.length≤cs.size →
  ((vs.zipIdx j).foldl (fun (cs:Array Value) (p:Value × Nat)=>cs.setIfInBounds (o + p.2) p.1) cs).toList=cs.toList.take (o + j)++vs++cs.toList.drop (o + j + vs.length)
 | [],o,j,cs,_=>by simp
 | v::vs,o,j,cs,h=>by
  have h':o + (j + 1) + vs.length≤(cs.setIfInBounds (o + j) v).size:=by simp at h ⊢;omega
  rw [List.zipIdx_cons,List.foldl_cons,foldl_splice vs o (j + 1) _ h']
  have hlt:o + j < cs.toList.length:=by simp at h ⊢;omega
  simp only [Array.toList_setIfInBounds]
  have e1:(cs.toList.set (o + j) v).take (o + (j + 1))=cs.toList.take (o + j)++[v]:=by
   rw [show o + (j + 1)=(o + j) + 1 by omega,List.take_succ_eq_append_getElem (by simpa using hlt)]
   simp only [List.take_set,List.getElem_set_self]
   rw [List.set_eq_of_length_le (by simp;omega)]
  have e2:(cs.toList.set (o + j) v).drop (o + (j + 1) + vs.length)=cs.toList.drop (o + j + (v::vs).length):=by
   rw [List.drop_set_of_lt (by omega)]
   congr 1
   simp;omega
  rw [e1,e2]
  simp
def fillSV (place:Nat→Option (Nat × Nat)) (cs:List SV):List (Nat × SV)→Option (List SV)
 | []=>some cs
 | (i,s)::rest=>match place i with
  | none=>none
  | some (off,size)=>match Nat.beq s.cells.length size && (s.isVar && Nat.ble (off + size) cs.length) with
   | true=>fillSV place (splice cs off s.cells) rest
   | false=>none
def PartsRel (X:Nat→Prop) (e:Env) (w:World):List (Nat × SV)→List (Nat × Value)→Prop
 | [],[]=>True
 | (i,s)::ps,(j,v)::qs=>i=j∧Rel X e w s v∧PartsRel X e w ps qs
 | _,_=>False
theorem fill_rel {X e w} {place:Nat→Option (Nat × Nat)}:∀ (ps:List (Nat × SV)) (qs:List (Nat × Value)) (cs:List SV) (vs:Array Value) (cs':List SV),PartsRel X e w ps qs→RelL X e w cs vs.toList→(∀ v∈vs.toList,v.oneCell' = true)→fillSV place cs ps=some cs' →
  ∃ vs':Array Value,Instr.fill place vs qs=some vs'∧RelL X e w cs' vs'.toList∧∀ v∈vs'.toList,v.oneCell' = true
 | [],[],cs,vs,cs',_,h,h1,hf=>by simp only [fillSV,Option.some.injEq] at hf;subst hf;exact⟨vs,rfl,h,h1⟩
 | [],_::_,_,_,_,h,_,_,_=>h.elim
 | _::_,[],_,_,_,h,_,_,_=>h.elim
 | (i,s)::ps,(j,v)::qs,cs,vs,cs',⟨hij,hr,hps⟩,h,h1,hf=>by
  subst hij
  simp only [fillSV] at hf
  cases hp:place i with
  | none=>simp [hp] at hf
  | some q =>
   obtain⟨off,size⟩:=q
   simp only [hp] at hf
   cases hc:(Nat.beq s.cells.length size && (s.isVar && Nat.ble (off + size) cs.length)) with
   | false=>rw [hc] at hf;cases hf
   | true =>
    rw [hc] at hf
    simp only [Bool.and_eq_true] at hc
    obtain⟨c1,c2,c3⟩:=hc
    have c1:=Nat.eq_of_beq_eq_true c1
    have c3:=Nat.le_of_ble_eq_true c3
    obtain⟨g1,g2⟩:=cells_spec c2 hr
    have hl:=RelL.length _ _ g1
    have hl2:=RelL.length _ _ h
    have hsz:v.cells.size=size:=by rw [← Array.length_toList,← hl,c1]
    have hsz2:off + v.cells.size≤vs.size:=by rw [hsz,← Array.length_toList,← hl2];exact c3
    simp only [Instr.fill,hp]
    rw [if_neg (by simp;omega)]
    have hfold:=foldl_splice v.cells.toList off 0 vs (by simpa using hsz2)
    have hsame:(v.cells.zipIdx.foldl (fun (cs:Array Value) (x:Value × Nat)=>cs.setIfInBounds (off + x.2) x.1) vs)=((v.cells.toList.zipIdx 0).foldl (fun (cs:Array Value) (p:Value × Nat)=>cs.setIfInBounds (off + p.2) p.1) vs):=by
     rw [← Array.foldl_toList,Array.toList_zipIdx]
    refine fill_rel ps qs (splice cs off s.cells) _ cs' hps ?_ ?_ hf
    ·show RelL X e w _ (v.cells.zipIdx.foldl (fun (cs:Array Value) (x:Value × Nat)=>cs.setIfInBounds (off + x.2) x.1) vs).toList
     rw [hsame,hfold]
     unfold splice
     rw [hl]
     simp only [Nat.add_zero]
     exact RelL.append _ _ _ _ (RelL.append _ _ _ _ (RelL.take _ _ h off) g1) (RelL.drop _ _ h _)
    ·show ∀ u∈(v.cells.zipIdx.foldl (fun (cs:Array Value) (x:Value × Nat)=>cs.setIfInBounds (off + x.2) x.1) vs).toList,u.oneCell' = true
     rw [hsame,hfold]
     intro u hu
     simp only [List.mem_append] at hu
     rcases hu with (hu|hu)|hu
     ·exact h1 u (List.mem_of_mem_take hu)
     ·exact g2 u hu
     ·exact h1 u (List.mem_of_mem_drop hu)
def partsSV (L:Sl):List (Nat × Operand)→List (Nat × SV)
 | []=>[]
 | (i,x)::ps=>(i,opSV L x)::partsSV L ps
def partsOk:List (Nat × Operand)→Bool
 | []=>true
 | (_,x)::ps=>opOkB x && partsOk ps
section
variable {Γ : Ctx} {k : Nat → Prop} {L : Sl} {H : Hp} {K : Next'} {ops : List Oper} {rest : List Oper} {a : Act} {w : World} {e : Env} {t t' ty : TypeId} {x y : Operand}
theorem partsSV_rel (m:Models Γ k L H e a w):∀ (ps:List (Nat × Operand)),partsOk ps=true→PartsRel (Γ.X e H) e w (partsSV L ps) (ps.map fun p=>(p.1,a.eval p.2))
 | [],_=>trivial
 | (i,x)::ps,h=>by
  simp only [partsOk,Bool.and_eq_true] at h
  exact⟨rfl,m.op x (opOkB_spec h.1),partsSV_rel m ps h.2⟩
def structPlace (l:List (Nat × TypeId × Nat)) (i:Nat):Option (Nat × Nat):=match l[i]? with
 | some (off,_,sz)=>some (off,sz)
 | none=>none
def fieldsKnown (τ:List (Nat × TI)):List (Nat × TypeId × Nat)→Bool
 | []=>true
 | (_,ft,sz)::l=>(tiGet τ ft).sh.known && (Nat.beq (tiGet τ ft).cells sz && fieldsKnown τ l)
theorem ev_build {te:TypeId} {ps:List (Nat × Operand)} {l} {cs cs':List SV} (ht:Γ.sh te = .struct l) (hk:fieldsKnown Γ.τ l=true) (hz:zeroOk (tiGet Γ.τ te).zero=true) (hcs:zeroSV Γ.τ te=cs) (hok:partsOk ps=true)
  (hf:fillSV (structPlace l) cs (partsSV L ps)=some cs'):Ev Γ k L H (.build te ps.toArray) ty (.agg cs'):=by
 intro e a w m
 have ho:Γ.sh te≠.other:=by rw [ht];intro h;cases h
 obtain⟨inf,z,hi,hzz,hs,hb,hzc⟩:=Ctx.info ho
 obtain⟨fs,hu,hl⟩:=Ctx.struct ht
 obtain⟨g1,g2⟩:=zeroOk_spec (X:=Γ.X e H) (e:=e) (w:=w) _ hz
 rw [← hzc] at g1 g2
 have hcs':cs=z.cells.toList.map cSV:=by rw [← hcs,zeroSV,hzc]
 rw [← hcs'] at g1
 obtain⟨vs',f1,f2,f3⟩:=fill_rel _ _ cs z.cells cs' (partsSV_rel m ps hok) g1 g2 hf
 have hmap:∀ (w':World),(fs.mapM fun f=>(do pure (f.offset,← sizeOf f.type):Sem (Nat × Nat))).run Γ.P w' = .ok (l.map fun q=>(q.1,q.2.2)).toArray w':=by
  intro w'
  have key:∀ (gs:List Field),(∀ f∈gs,∃ inf,Γ.P.info? f.type=some inf)→(gs.mapM fun f=>(do pure (f.offset,← sizeOf f.type):Sem (Nat × Nat))).run Γ.P w' = .ok (gs.map fun f=>(f.offset,((Γ.P.info? f.type).map (·.size)).getD 0)) w':=by
   intro gs
   induction gs with
   | nil=>intro _;simp
   | cons f gs ih =>
    intro hg
    obtain⟨inf,hinf⟩:=hg f (List.mem_cons_self ..)
    rw [List.mapM_cons]
    simp only [Sem.run_bind,run_sizeOf hinf,Result.andThen_ok,Sem.run_pure,ih fun f hf=>hg f (List.mem_cons_of_mem _ hf),List.map_cons,hinf,Option.map_some,Option.getD_some]
  have hall:∀ f∈fs.toList,∃ inf,Γ.P.info? f.type=some inf:=by
   subst hl
   have:∀ (gs:List Field),fieldsKnown Γ.τ (gs.map fun f=>(f.offset,f.type,((Γ.P.info? f.type).map (·.size)).getD 0))=true→∀ f∈gs,∃ inf,Γ.P.info? f.type=some inf:=by
    intro gs
    induction gs with
    | nil=>intro _ f hf;simp at hf
    | cons g gs ih =>
     intro h f hf
     simp only [List.map_cons,fieldsKnown,Bool.and_eq_true] at h
     rcases List.mem_cons.1 hf with rfl|hf
     ·obtain⟨inf,_,h1,_⟩:=Ctx.info (Γ:=Γ) (t:=f.type) (Sh.known_ne h.1)
      exact⟨inf,h1⟩
     ·exact ih h.2.2 f hf
   exact this _ hk
  rw [Array.mapM_eq_mapM_toList,map_eq_pure_bind]
  simp only [Sem.run_bind,Sem.run_pure,key _ hall,Result.andThen_ok]
  subst hl
  simp [Function.comp_def]
 refine⟨.agg vs',fun _ _ _ _ w' _=>?_,⟨vs'.toList,by simp,f2⟩⟩
 have hplace:Instr.fill (fun x=>Option.map (fun q:Nat × TypeId × Nat=>(q.1,q.2.2)) l[x]?) z.cells (List.map (fun x=>(x.1,a.eval x.2)) ps)=some vs':=by
  rw [← f1]
  congr 1
  funext i
  simp only [structPlace]
  cases l[i]? with
  | none=>rfl
  | some q=>obtain⟨o1,t1,s1⟩:=q;rfl
 have hm:=hmap w'
 simp only [execOp,Instr.build]
 simp [zeroValue,typeInfo,hi,hzz,run_underlying hu] at hm ⊢
 rw [hm]
 simp only [Result.andThen_ok,List.getElem?_toArray,List.getElem?_map,hplace]
 simp
theorem sliceAddr {X w n cap es} {ad:Addr} {xs:List (List D)} (h:RepC X w (.slice (some ad) n cap) (.slice es xs)):n=xs.length∧(∀ i (hi:i < xs.length),(xs[i]'hi).length=es) ∧
  ∃ vs:List Value,vs.length=n * es∧(∀ j u,vs[j]? = some u→w.cell? (ad.add j)=some u)∧(∀ u∈vs,u.oneCell' = true) ∧
   ∀ i (hi:i < xs.length) j (hj:j < (xs[i]'hi).length),∃ v,vs[i * es + j]? = some v∧RepC X w v ((xs[i]'hi)[j]'hj):=by
 cases h with
 | zero=>exact⟨rfl,by simp,[],by simp,by simp,by simp,by simp⟩
 | @slice b off _ _ _ _ c hn hc hm hX hb he hcell hrep =>
  subst hn
  have key:∀ m,m≤xs.length→∃ vs:List Value,vs.length=m * es∧(∀ j u,vs[j]? = some u→w.cell? ((⟨b,off,none⟩:Addr).add j)=some u)∧(∀ u∈vs,u.oneCell' = true) ∧
    ∀ i (hi:i < xs.length),i < m→∀ j (hj:j < (xs[i]'hi).length),∃ v,vs[i * es + j]? = some v∧RepC X w v ((xs[i]'hi)[j]'hj):=by
   intro m
   induction m with
   | zero=>intro _;exact⟨[],by simp,by simp,by simp,fun i _ h=>by omega⟩
   | succ m ih =>
    intro hm'
    obtain⟨vs,h1,h2,h3,h4⟩:=ih (by omega)
    have hlt:m < xs.length:=by omega
    refine⟨vs++(List.range es).map (c m),by simp [h1,Nat.add_mul],?_,?_,?_⟩
    ·intro j u hj
     by_cases hjl:j < vs.length
     ·rw [List.getElem?_append_left hjl] at hj;exact h2 j u hj
     ·rw [List.getElem?_append_right (by omega)] at hj
      have hjr:j - vs.length < es:=by
       rcases Nat.lt_or_ge (j - vs.length) es with h|h
       ·exact h
       ·rw [List.getElem?_eq_none (by simpa using h)] at hj;cases hj
      rw [List.getElem?_map,List.getElem?_range hjr] at hj
      simp only [Option.map_some,Option.some.injEq] at hj
      have:=hcell m hlt (j - vs.length) (by rw [he m hlt];exact hjr)
      rw [Addr.add_at,← hj,← this]
      congr 2
      omega
    ·intro u hu
     rcases List.mem_append.1 hu with hu|hu
     ·exact h3 u hu
     ·obtain⟨q,hq,rfl⟩:=List.mem_map.1 hu
      exact (RepC.one (hrep m hlt q (by rw [he m hlt];exact List.mem_range.1 hq))).1
    ·intro i hi him j hj
     have hjes:j < es:=by rw [← he i hi];exact hj
     by_cases him':i < m
     ·obtain⟨v,g1,g2⟩:=h4 i hi him' j hj
      refine⟨v,?_,g2⟩
      rw [List.getElem?_append_left]
      ·exact g1
      ·exact (List.getElem?_eq_some_iff.1 g1).1
     ·have:i=m:=by omega
      subst this
      refine⟨c i j,?_,hrep i hi j hj⟩
      rw [List.getElem?_append_right (by omega),show i * es + j - vs.length=j by omega,List.getElem?_map,List.getElem?_range hjes]
      rfl
  obtain⟨vs,h1,h2,h3,h4⟩:=key xs.length (Nat.le_refl _)
  exact⟨rfl,he,vs,h1,h2,h3,fun i hi=>h4 i hi hi⟩
theorem rows_append {X w es} {xs ys:List (List D)} {vs us:List Value} (hx:∀ i (h:i < xs.length),(xs[i]'h).length=es) (hy:∀ i (h:i < ys.length),(ys[i]'h).length=es) (hl:vs.length=xs.length * es)
  (h1:∀ i (h:i < xs.length) j (hj:j < (xs[i]'h).length),∃ v,vs[i * es + j]? = some v∧RepC X w v ((xs[i]'h)[j]'hj))
  (h2:∀ i (h:i < ys.length) j (hj:j < (ys[i]'h).length),∃ v,us[i * es + j]? = some v∧RepC X w v ((ys[i]'h)[j]'hj)) :
  (∀ i (h:i < (xs++ys).length),((xs++ys)[i]'h).length=es)∧∀ i (h:i < (xs++ys).length) j (hj:j < ((xs++ys)[i]'h).length),∃ v,(vs++us)[i * es + j]? = some v∧RepC X w v (((xs++ys)[i]'h)[j]'hj):=by
 refine⟨fun i h=>?_,fun i h j hj=>?_⟩
 ·rw [List.getElem_append]
  split
  ·exact hx i _
  ·exact hy _ _
 ·by_cases hi:i < xs.length
  ·have e1:(xs++ys)[i]'h=xs[i]'hi:=List.getElem_append_left hi
   have hj':j < (xs[i]'hi).length:=by rw [← e1];exact hj
   obtain⟨v,g1,g2⟩:=h1 i hi j hj'
   refine⟨v,?_,?_⟩
   ·rw [List.getElem?_append_left (List.getElem?_eq_some_iff.1 g1).1];exact g1
   ·simp only [e1];exact g2
  ·have hi2:i - xs.length < ys.length:=by simp at h;omega
   have e1:(xs++ys)[i]'h=ys[i - xs.length]'hi2:=List.getElem_append_right (by omega)
   have hj':j < (ys[i - xs.length]'hi2).length:=by rw [← e1];exact hj
   obtain⟨v,g1,g2⟩:=h2 (i - xs.length) hi2 j hj'
   have hmul:xs.length * es≤i * es:=Nat.mul_le_mul_right _ (by omega)
   refine⟨v,?_,?_⟩
   ·rw [List.getElem?_append_right (by omega),hl,show i * es + j - xs.length * es=(i - xs.length) * es + j by rw [Nat.sub_mul];omega];exact g1
   ·simp only [e1];exact g2
end
end Go.Proofs.YtapciiffpnociabGreatDoor
namespace Go.Proofs.YtapciiffpnociabGreatDoor
open Go Go.RowKit
section
variable {Γ : Ctx} {k : Nat → Prop} {L : Sl} {H : Hp} {K : Next'} {ops : List Oper} {rest : List Oper} {a : Act} {w : World} {e : Env} {t t' ty : TypeId} {x y : Operand}
theorem ownsRow_one {w:World} {te es n:Nat} {v:Value} {vs:List Value} (h:w.ownsRow 0 te es v n vs):v.oneCell' = true:=by
 rcases h.2 with ⟨rfl,_⟩|⟨g,cap,cur,rfl,_⟩ <;> rfl
theorem append_own {P:Program} {w:World} {t ty te:TypeId} {inf:TypeInfo} {z:Value} (ht:P.underlying t=some (.slice te)) (hi:P.info? te=some inf) (hz:inf.zero=some z) (hzs:z.cells.size=inf.size) (hsz:0 < inf.size)
  {v:Value} {n:Nat} {xs:List Value} (hown:w.ownsRow 0 te inf.size v n xs) {ad:Addr} {m c:Nat} {news:List Value} (hl:news.length=m * inf.size) (hnews:∀ j u,news[j]? = some u→w.cell? (ad.add j)=some u) (h1:∀ u∈news,u.oneCell' = true)
  (h63:n + m≤maxLen) (hbytes:(n + m) * inf.bytes≤140737488355328) :
  ∃ v' w',(Builtin.append_ #[t,t] ty #[v,.slice (some ad) m c]).run P w = .ok v' w'∧w'.ownsRow 0 te inf.size v' (n + m) (xs++news)∧w.grownBy w' v.ownBlock∧(∀ c,v'.ownBlock=some c→v.ownBlock=some c∨w.heap.size≤c):=by
 obtain⟨v',w',hr,g1,g2,_⟩:=run_append_own (P:=P) w 0 t ty te inf z inf.size inf.bytes ht hi hz rfl rfl hzs hsz v n xs hown ad m c news hl hnews h1 h63 hbytes (Nat.zero_le _)
 refine⟨v',w',hr,g1,g2,?_⟩
 rcases hown.2 with ⟨rfl,rfl⟩|⟨g,cap,cur,rfl,hbg,hg,hnc,hcm,hcs,htake⟩
 ·obtain⟨v2,w2,hr2,g3,_,_⟩:=run_append_own (P:=P) w w.heap.size t ty te inf z inf.size inf.bytes ht hi hz rfl rfl hzs hsz (.slice none 0 0) 0 xs ⟨hown.1,.inl ⟨rfl,rfl⟩⟩ ad m c news hl hnews h1 h63 hbytes (Nat.le_refl _)
  rw [hr] at hr2
  cases hr2
  exact fun c hc=>.inr (g3.lt c hc).1
 ·by_cases hroom:n + m≤cap
  ·have hfit:n * inf.size + news.length≤cur.size:=by rw [hl,hcs,← Nat.add_mul];exact Nat.mul_le_mul_right _ hroom
   have hr2:=run_append_room (P:=P) w t ty te inf ht hi g n cap cur hg ad m c news hl hnews h1 hroom hfit
   rw [hr] at hr2
   cases hr2
   intro c hc
   exact .inl hc
  ·have holds:∀ j u,xs[j]? = some u→w.cell? ((⟨g,0,none⟩:Addr).add j)=some u:=hown.cells (g:=g) rfl
   have hsmall:n + m≤9223372036854775807:=by simp only [maxLen] at h63;omega
   have hr2:=run_append_grow (P:=P) w t ty te inf z ht hi hz ⟨g,0,none⟩ n cap xs hown.1 holds ad m c news hl hnews (by omega) (by omega) (growslice_fits (by omega) hbytes)
   rw [hr] at hr2
   cases hr2
   intro c hc
   simp only [Value.ownBlock,Option.some.injEq] at hc
   exact .inr (by omega)
theorem Ctx.zsize {t:TypeId} {inf:TypeInfo} {z:Value} (hz:z.cells.toList=(tiGet Γ.τ t).zero) (hl:Nat.beq (tiGet Γ.τ t).zero.length (Γ.cells t)=true) (hs:inf.size=Γ.cells t):z.cells.size=inf.size:=by
 rw [← Array.length_toList,hz,Nat.eq_of_beq_eq_true hl,hs]
theorem op_append_row [NoDr Γ] {d z:Nat} {te t2:TypeId} {pos:String} {af:Array Edge} {g:Option (Nat × Bool)} {i es:Nat} {xs ys:List (List D)}
  (hz':¬ k z) (ht:Γ.sh t = .slice te) (hkn:(Γ.sh te).known=true) (hes:Γ.cells te=es) (hpos:Nat.blt 0 es=true) (hz:Nat.beq (tiGet Γ.τ te).zero.length (Γ.cells te)=true)
  (hx:opSV L x = .row i) (hH:Hp.get H i=some (.row te es xs)) (hy:opSV L y = .d (.slice es ys)) (hd:Nat.blt d Γ.n=true)
  (hroom:(xs.length + ys.length) * (tiGet Γ.τ te).bytes≤140737488355328) (h63:xs.length + ys.length≤maxLen) :
  OpOk Γ ⟨some d,.call { callee:=.builtin .append,args:=#[x,y],argTypes:=#[t,t] },t2,pos,af,g⟩ k L H (with1 k z) ((d,.row z)::L) ((z,.row te es (xs++ys))::Hp.del H i):=by
 intro e a w Q m
 have hze:¬ e.dom z:=fun h=>hz' ((m.top z).1 h)
 obtain⟨inf,zv,hi,hzz,hs,hb,hzc⟩:=Ctx.info (Sh.known_ne hkn)
 have hut:=Ctx.slice ht
 obtain⟨_,hvx,_⟩:=evT m hx (cSV_row · _)
 have hry:=evT m hy (cSV_slice · _ _)
 obtain⟨vs,ho,hxe,hone,hrep⟩:=(m.heap _ (Hp.mem_of hH)).2
 have hsz:inf.size=es:=by rw [hs,hes]
 rw [← hsz] at ho
 have hcase:∃ v' w' us,(Builtin.append_ #[t,t] t2 #[e.η i,a.eval y]).run Γ.P w = .ok v' w'∧w'.ownsRow 0 te inf.size v' (xs.length + ys.length) (vs++us)∧w.grownBy w' (e.η i).ownBlock∧(∀ c,v'.ownBlock=some c→(e.η i).ownBlock=some c∨w.heap.size≤c) ∧
   (∀ j (h:j < ys.length),(ys[j]'h).length=es)∧(∀ u∈us,u.oneCell' = true)∧∀ i' (hi:i' < ys.length) j (hj:j < (ys[i']'hi).length),∃ v,us[i' * es + j]? = some v∧RepC (Γ.X e H) w v ((ys[i']'hi)[j]'hj):=by
  obtain⟨ao,cap,hvy,_,_,hnone⟩:=hry.slice_inv
  cases ao with
  | none =>
   have hys:=hnone rfl
   subst hys
   have hv0:a.eval y = .slice none 0 0:=by
    have hr:=hry;rw [hvy] at hr ⊢;cases hr;rfl
   rw [hv0]
   have hrun:=run_append_owned_none (P:=Γ.P) (w:=w) 0 t t2 te inf inf.size hut hi (e.η i) xs.length vs ho
   exact⟨e.η i,w,[],hrun,by simpa using ho,⟨rfl,rfl,rfl,Nat.le_refl _,fun _ _ _=>rfl⟩,fun c hc=>.inl hc,by simp,by simp,by simp⟩
  | some ad =>
   have hr:=hry
   rw [hvy] at hr
   obtain⟨hn,hye,us,u1,u2,u3,u4⟩:=sliceAddr hr
   rw [hvy]
   obtain⟨v',w',r1,r2,r3,r4⟩:=append_own (P:=Γ.P) (ty:=t2) hut hi hzz (Ctx.zsize hzc hz hs) (by rw [hsz];exact Nat.le_of_ble_eq_true hpos) ho (c:=cap) (by rw [hsz];exact u1) u2 u3 h63 (by rw [hb];exact hroom)
   exact⟨v',w',us,r1,r2,r3,r4,hye,u3,u4⟩
 obtain⟨v',w',us,hrun,hown',hgr,hblk,hye,hone2,hrep2⟩:=hcase
 have hop:(execOp a.eval ⟨some d,.call { callee:=.builtin .append,args:=#[x,y],argTypes:=#[t,t] },t2,pos,af,g⟩).run Γ.P w = .ok (.value v') w':=by
  simp only [execOp,resolve,invoke,builtin,Sem.run_bind,Sem.run_pure,Result.andThen_ok,List.map_toArray,List.map_cons,List.map_nil,hvx,hrun]
 unfold Oper.wp
 rw [hop]
 have hη:(e.bindRow z v').η z=v':=if_pos rfl
 have hl:=ho.1
 have m2:=m.trade (hb:=.row te es (xs++ys)) hH hz' (e':=e.bindRow z v') (w':=w') (fun i=>or_congr (m.top i) Iff.rfl) (e.bindRow_ext _ _ hze) hgr.size hgr.os hgr.tape hgr.output NoDr.any
  (fun c hc hne=>hgr.block c hc (fun h=>hne (by simp [HB.owned,h]))) (fun c hc=>by simp only [HB.owned,hη] at hc;exact hblk c hc) (fun hX=>by
   have hkeep:∀ b,b < w.heap.size→¬ Γ.X e H b→w'.heap[b]? = w.heap[b]?:=fun b hb hx=>hgr.block b hb (fun h=>hx (.inr (List.mem_filterMap.2 ⟨_,Hp.mem_of hH,by simp [HB.owned,h]⟩)))
   obtain⟨q1,q2⟩:=rows_append hxe hye (by rw [hl,hsz]) hrep hrep2
   refine⟨vs++us,?_,q1,fun v hv=>?_,fun i' hi' j hj=>?_⟩
   ·rw [hη,List.length_append,← hsz];exact hown'
   ·rcases List.mem_append.1 hv with hv|hv
    ·exact hone v hv
    ·exact hone2 v hv
   ·obtain⟨v,p1,p2⟩:=q2 i' hi' j hj
    exact⟨v,p1,RepC.keep hgr.size hkeep hX p2⟩)
 exact⟨_,m2.put (s:=.row z) (v:=v') (Nat.le_of_ble_eq_true hd) ⟨.inr rfl,hη.symm,ownsRow_one hown'⟩⟩
end
section
variable {Γ : Ctx} {k : Nat} {L : Sl} {H : Hp} {K : Next'} {ops : List Oper} {rest : List Oper} {a : Act} {w : World} {e : Env} {t t' ty : TypeId} {x y : Operand}
theorem dl_append_row [NoDr Γ] {d:Nat} {te t2:TypeId} {pos:String} {af:Array Edge} {g:Option (Nat × Bool)} {i es:Nat} {xs ys:List (List D)}
  (ht:Γ.sh t = .slice te) (hkn:(Γ.sh te).known=true) (hes:Γ.cells te=es) (hpos:Nat.blt 0 es=true) (hz:Nat.beq (tiGet Γ.τ te).zero.length (Γ.cells te)=true)
  (hx:opSV L x = .row i) (hH:Hp.get H i=some (.row te es xs)) (hy:opSV L y = .d (.slice es ys)) (hw:wantedSV ops L g=some true) (hd:Nat.blt d Γ.n=true)
  (hroom:(xs.length + ys.length) * (tiGet Γ.τ te).bytes≤140737488355328) (h63:xs.length + ys.length≤maxLen)
  (hk:DL Γ ops rest K (k + 1) ((d,.row k)::L) ((k,.row te es (xs++ys))::Hp.del H i)) :
  DL Γ ops (⟨some d,.call { callee:=.builtin .append,args:=#[x,y],argTypes:=#[t,t] },t2,pos,af,g⟩::rest) K k L H :=
 dl_op hw ((op_append_row (lo_not k) ht hkn hes hpos hz hx hH hy hd hroom h63).cast (with1_lo k)) hk
theorem dw_nilrow {Q:Post} {c:Code} {t:Nat} (te:TypeId) (es:Nat) (h:L.get t = .nils) (hk:DW Γ c Q (k + 1) ((t,.row k)::L) ((k,.row te es [])::H)):DW Γ c Q k L H:=by
 intro e a w m
 have hη:(e.bindRow k (.slice none 0 0)).η k = .slice none 0 0:=if_pos rfl
 have m2:=(m.new (lo_not k) (hb:=.row te es []) (e':=e.bindRow k (.slice none 0 0)) (w':=w) (fun i=>or_congr (m.top i) Iff.rfl) (e.bindRow_ext _ _ (fun h=>lo_not k ((m.top k).1 h))) (Beld.refl _ _ _)
  (fun b hb=>by simp [HB.owned,hη,Value.ownBlock] at hb) (fun _=>⟨[],by rw [hη];exact World.ownsRow_nil w 0 te es,by simp,by simp,by simp⟩)).cast (with1_lo k)
 refine hk _ a w ⟨m2.toHeap,m2.defers,m2.len,fun t'=>?_⟩
 rw [Sl.get_cons]
 split
 ·rename_i ht
  subst ht
  have hs:=m.slot t
  rw [h] at hs
  refine⟨?_,?_⟩
  ·exact .inr rfl
  ·have hs:a.tmps.getD t undef = .slice none 0 0:=hs
   exact⟨hs.trans hη.symm,by rw [hs];rfl⟩
 ·exact m2.slot t'
end
end Go.Proofs.YtapciiffpnociabGreatDoor
namespace Go.Proofs.YtapciiffpnociabGreatDoor
open Go Go.RowKit
def cellEs (τ:List (Nat × TI)):Nat→TypeId→List Nat
 | 0,_=>[]
 | n + 1,t=>match (tiGet τ t).sh with
  | .struct l=>l.flatMap fun q=>cellEs τ n q.2.1
  | .slice te=>[(tiGet τ te).cells]
  | _=>[0]
def toD (es:Nat):SV→Option D
 | .d x=>some x
 | .nils=>some (.slice es [])
 | _=>none
def toDs:List Nat→List SV→Option (List D)
 | _,[]=>some []
 | [],_::_=>none
 | e::es,s::ss=>match toD e s,toDs es ss with
  | some x,some xs=>some (x::xs)
  | _,_=>none
def rowsOf (ces:List Nat) (es:Nat):Nat→List SV→Option (List (List D))
 | 0,_=>some []
 | n + 1,ss=>match toDs ces (ss.take es),rowsOf ces es n (ss.drop es) with
  | some x,some xs=>some (x::xs)
  | _,_=>none
theorem toD_rel {X e w es} {s:SV} {v:Value} {x:D} (h:toD es s=some x) (hr:Rel X e w s v):RepC X w v x:=by
 cases s with
 | d y=>simp only [toD,Option.some.injEq] at h;subst h;exact hr
 | nils=>simp only [toD,Option.some.injEq] at h;subst h;cases hr;exact .nil
 | _=>simp [toD] at h
theorem toDs_rel {X e w}:∀ (es:List Nat) (ss:List SV) (vs:List Value) (xs:List D),toDs es ss=some xs→RelL X e w ss vs→xs.length=ss.length∧∀ j (hj:j < xs.length),∃ v,vs[j]? = some v∧RepC X w v (xs[j]'hj)
 | _,[],_,xs,h,_=>by simp only [toDs,Option.some.injEq] at h;subst h;exact⟨rfl,fun j hj=>by simp at hj⟩
 | [],_::_,_,_,h,_=>by simp [toDs] at h
 | _::_,_::_,[],_,_,h=>h.elim
 | e'::es,s::ss,v::vs,xs,h,⟨h1,h2⟩=>by
  simp only [toDs] at h
  cases ha:toD e' s with
  | none=>simp [ha] at h
  | some x =>
   cases hb:toDs es ss with
   | none=>simp [ha,hb] at h
   | some ys =>
    simp only [ha,hb,Option.some.injEq] at h
    subst h
    obtain⟨g1,g2⟩:=toDs_rel es ss vs ys hb h2
    refine⟨by simp [g1],fun j hj=>?_⟩
    cases j with
    | zero=>exact⟨v,rfl,toD_rel ha h1⟩
    | succ j=>simpa using g2 j (by simpa using hj)
theorem rowsOf_rel {X e w} {ces:List Nat} {es:Nat}:∀ (n:Nat) (ss:List SV) (vs:List Value) (xs:List (List D)),ss.length=n * es→rowsOf ces es n ss=some xs→RelL X e w ss vs→xs.length=n∧(∀ i (h:i < xs.length),(xs[i]'h).length=es) ∧
  ∀ i (h:i < xs.length) j (hj:j < (xs[i]'h).length),∃ v,vs[i * es + j]? = some v∧RepC X w v ((xs[i]'h)[j]'hj)
 | 0,_,_,xs,_,h,_=>by simp only [rowsOf,Option.some.injEq] at h;subst h;exact⟨rfl,fun i hi=>by simp at hi,fun i hi=>by simp at hi⟩
 | n + 1,ss,vs,xs,hl,h,hr=>by
  simp only [rowsOf] at h
  cases ha:toDs ces (ss.take es) with
  | none=>simp [ha] at h
  | some x =>
   cases hb:rowsOf ces es n (ss.drop es) with
   | none=>simp [ha,hb] at h
   | some ys =>
    simp only [ha,hb,Option.some.injEq] at h
    subst h
    have hl':es≤ss.length:=by rw [hl,Nat.add_mul];omega
    obtain⟨g1,g2⟩:=toDs_rel ces _ _ x ha (RelL.take _ _ hr es)
    obtain⟨k1,k2,k3⟩:=rowsOf_rel n (ss.drop es) (vs.drop es) ys (by simp [hl,Nat.add_mul]) hb (RelL.drop _ _ hr es)
    have hxl:x.length=es:=by rw [g1,List.length_take];omega
    refine⟨by simp [k1],fun i hi=>?_,fun i hi j hj=>?_⟩
    ·cases i with
     | zero=>exact hxl
     | succ i=>exact k2 i (by simpa using hi)
    ·cases i with
     | zero =>
      obtain⟨v,p1,p2⟩:=g2 j hj
      rw [List.getElem?_take] at p1
      split at p1
      ·exact⟨v,by simpa using p1,p2⟩
      ·cases p1
     | succ i =>
      obtain⟨v,p1,p2⟩:=k3 i (by simpa using hi) j hj
      refine⟨v,?_,p2⟩
      rw [List.getElem?_drop] at p1
      rw [← p1]
      congr 1
      rw [Nat.add_mul];omega
def initSV (z:List SV) (n:Nat):List SV:=(List.range n).map fun i=>z.getD (i % z.length) .junk
section
variable {Γ : Ctx} {k : Nat → Prop} {L : Sl} {H : Hp} {K : Next'} {ops : List Oper} {rest : List Oper} {a : Act} {w : World} {e : Env} {t t' ty : TypeId} {x y : Operand}
theorem initSV_rel {X e w} {zs:List SV} {vs:Array Value} (hr:RelL X e w zs vs.toList) (h1:∀ v∈vs.toList,v.oneCell' = true) (n:Nat) (hpos:0 < vs.size) :
  RelL X e w (initSV zs n) ((Array.range n).map (vs[· % vs.size]!)).toList∧∀ v∈((Array.range n).map (vs[· % vs.size]!)).toList,v.oneCell' = true:=by
 have hl:=RelL.length _ _ hr
 simp only [Array.length_toList] at hl
 have hget:∀ i,vs[i % vs.size]! = vs.toList[i % vs.size]'(by simpa using Nat.mod_lt _ hpos):=by
  intro i
  have:=Nat.mod_lt i hpos
  simp [this]
 refine⟨RelL.mk _ _ (by simp [initSV]) fun i s v hs hv=>?_,fun v hv=>?_⟩
 ·simp only [initSV,List.getElem?_map] at hs
  simp only [Array.toList_map,Array.toList_range,List.getElem?_map] at hv
  cases hri:(List.range n)[i]? with
  | none=>simp [hri] at hs
  | some q =>
   simp only [hri,Option.map_some,Option.some.injEq] at hs hv
   have hq:=Nat.mod_lt q hpos
   rw [← hs,← hv,hget,hl]
   obtain⟨v',p1,p2⟩:=RelL.get _ _ hr (q % vs.size) (zs[q % vs.size]'(by omega)) (by simp)
   rw [List.getD_eq_getElem?_getD,List.getElem?_eq_getElem (by omega)]
   rw [List.getElem?_eq_getElem (by simpa using hq)] at p1
   cases p1
   exact p2
 ·simp only [Array.toList_map,Array.toList_range,List.mem_map] at hv
  obtain⟨q,_,rfl⟩:=hv
  rw [hget]
  exact h1 _ (List.getElem_mem _)
theorem run_buildSlice {te es len:Nat} {ps:List (Nat × Operand)} {cs':List SV} (ht:Γ.sh t = .slice te) (hkn:(Γ.sh te).known=true) (hes:Γ.cells te=es) (hpos:Nat.blt 0 es=true) (hz:zeroOk (tiGet Γ.τ te).zero=true) (hzl:Nat.beq (tiGet Γ.τ te).zero.length (Γ.cells te)=true) (hok:partsOk ps=true)
  (hlen:Nat.ble (len * es) 16777216=true) (hf:fillSV (fun i=>some (i * es,es)) (initSV (zeroSV Γ.τ te) (len * es)) (partsSV L ps)=some cs') (m:Models Γ k L H e a w) :
  ∃ vs':Array Value,RelL (Γ.X e H) e w cs' vs'.toList∧(∀ v∈vs'.toList,v.oneCell' = true) ∧
   ∀ (dst:Option Tmp) pos after guard,(execOp a.eval ⟨dst,.buildSlice t len ps.toArray,ty,pos,after,guard⟩).run Γ.P w = .ok (.value (.slice (some ⟨w.heap.size,0,none⟩) len len)) (w.alloc (.cells vs' te)):=by
 obtain⟨inf,z,hi,hzz,hs,hb,hzc⟩:=Ctx.info (Sh.known_ne hkn)
 obtain⟨g1,g2⟩:=zeroOk_spec (X:=Γ.X e H) (e:=e) (w:=w) _ hz
 rw [← hzc] at g1 g2
 have hzs:z.cells.size=es:=by rw [← Array.length_toList,hzc,Nat.eq_of_beq_eq_true hzl,hes]
 have hpos':=Nat.le_of_ble_eq_true hpos
 have hzsv:zeroSV Γ.τ te=z.cells.toList.map cSV:=by rw [zeroSV,hzc]
 rw [hzsv] at hf
 obtain⟨i1,i2⟩:=initSV_rel g1 g2 (len * es) (by rw [hzs];exact hpos')
 obtain⟨vs',f1,f2,f3⟩:=fill_rel _ _ _ _ cs' (partsSV_rel m ps hok) i1 i2 hf
 refine⟨vs',f2,f3,fun dst pos after guard=>?_⟩
 have hle:=Nat.le_of_ble_eq_true hlen
 have hse:inf.size=es:=by rw [hs,hes]
 simp only [execOp,Instr.buildSlice]
 have hbig:¬ (16777216 < len * es):=by omega
 by_cases h0:len * es=0
 ·have:len=0:=by rcases Nat.mul_eq_zero.1 h0 with h|h;exact h;omega
  subst this
  have e0:(Array.range 0:Array Nat) = #[]:=rfl
  have f1':Instr.fill (fun i=>some (i * es,es)) #[] (List.map (fun x=>(x.1,a.eval x.2)) ps)=some vs':=by
   rw [← f1];simp [e0]
  simp [run_underlying (Ctx.slice ht),run_sizeOf hi,hse,e0,f1',newRow]
 ·simp [run_underlying (Ctx.slice ht),run_sizeOf hi,hse,hbig,h0,zeroValue,typeInfo,hi,hzz]
  rw [show (List.map (fun x=>(x.1,a.eval x.2)) ps)=ps.map fun p=>(p.1,a.eval p.2) from rfl,f1]
  simp [newRow]
theorem op_buildSlice2 {d te es len:Nat} {L2:Sl} {H2:Hp} (hs:∀ e a w,Models Γ k L H e a w→Models Γ k L2 H2 e a w∧Models Γ k L H2 e a w) {pos:String} {af:Array Edge} {g:Option (Nat × Bool)} {ps:List (Nat × Operand)} {cs':List SV} {xs:List (List D)} (ht:Γ.sh t = .slice te) (hkn:(Γ.sh te).known=true) (hes:Γ.cells te=es) (hpos:Nat.blt 0 es=true) (hz:zeroOk (tiGet Γ.τ te).zero=true) (hzl:Nat.beq (tiGet Γ.τ te).zero.length (Γ.cells te)=true) (hok:partsOk ps=true)
  (hlen:Nat.ble (len * es) 16777216=true) (hf:fillSV (fun i=>some (i * es,es)) (initSV (zeroSV Γ.τ te) (len * es)) (partsSV L2 ps)=some cs') (hcl:Nat.beq cs'.length (len * es)=true) (hxs:rowsOf (cellEs Γ.τ 4 te) es len cs' = some xs) (hd:Nat.blt d Γ.n=true) :
  OpOk Γ ⟨some d,.buildSlice t len ps.toArray,ty,pos,af,g⟩ k L H k ((d,.d (.slice es xs))::L) H2:=by
 intro e a w Q m0
 obtain⟨m,m3⟩:=hs e a w m0
 obtain⟨vs',f2,f3,hrun⟩:=run_buildSlice (ty:=ty) ht hkn hes hpos hz hzl hok hlen hf m
 unfold Oper.wp
 rw [hrun]
 have hb:=below_alloc Γ.dr w (.cells vs' te)
 obtain⟨k1,k2,k3⟩:=rowsOf_rel len cs' _ xs (Nat.eq_of_beq_eq_true hcl) hxs f2
 have hlen':xs.length≤maxLen:=by
  have h1:=Nat.le_of_ble_eq_true hlen
  have h2:=Nat.le_of_ble_eq_true hpos
  have:len≤len * es:=Nat.le_mul_of_pos_right _ h2
  unfold maxLen;omega
 have hrel:Rel (Γ.X e H2) e (w.alloc (.cells vs' te)) (.d (.slice es xs)) (.slice (some ⟨w.heap.size,0,none⟩) len len):=by
  refine .slice (fun i j=>vs'.toList.getD (i * es + j) undef) k1.symm (Nat.le_refl _) (by rw [← k1];exact hlen') (fun hx=>?_) (by simp) k2 (fun i hi j hj=>?_) (fun i hi j hj=>?_) (fun i hi j hj=>frozen_of_row (heap_alloc_new w _))
  ·rcases hx with hx|hx
   ·have:=(m.obound _ hx).1;have:=m.size;omega
   ·have:=m.lt _ hx;omega
  ·obtain⟨v,p1,p2⟩:=k3 i hi j hj
   rw [cell_of_row (w.alloc (.cells vs' te)) w.heap.size _ vs' te (0,0) (heap_alloc_new w _)]
   rw [Array.getElem?_toList] at p1
   simp [List.getD,p1]
  ·obtain⟨v,p1,p2⟩:=k3 i hi j hj
   simp only [List.getD,p1,Option.getD_some]
   exact RepC.keep hb.size (fun b hb' _=>hb.block b hb') (fun _ _ h=>h) p2
 exact⟨e,(m3.below hb).put (Nat.le_of_ble_eq_true hd) hrel⟩
theorem op_buildSlice {d te es len:Nat} {pos:String} {af:Array Edge} {g:Option (Nat × Bool)} {ps:List (Nat × Operand)} {cs':List SV} {xs:List (List D)} (ht:Γ.sh t = .slice te) (hkn:(Γ.sh te).known=true) (hes:Γ.cells te=es) (hpos:Nat.blt 0 es=true) (hz:zeroOk (tiGet Γ.τ te).zero=true) (hzl:Nat.beq (tiGet Γ.τ te).zero.length (Γ.cells te)=true) (hok:partsOk ps=true)
  (hlen:Nat.ble (len * es) 16777216=true) (hf:fillSV (fun i=>some (i * es,es)) (initSV (zeroSV Γ.τ te) (len * es)) (partsSV L ps)=some cs') (hcl:Nat.beq cs'.length (len * es)=true) (hxs:rowsOf (cellEs Γ.τ 4 te) es len cs' = some xs) (hd:Nat.blt d Γ.n=true) :
  OpOk Γ ⟨some d,.buildSlice t len ps.toArray,ty,pos,af,g⟩ k L H k ((d,.d (.slice es xs))::L) H :=
 op_buildSlice2 (fun _ _ _ m=>⟨m,m⟩) ht hkn hes hpos hz hzl hok hlen hf hcl hxs hd
end
section
variable {Γ : Ctx} {k : Nat} {L : Sl} {H : Hp} {K : Next'} {ops : List Oper} {rest : List Oper} {a : Act} {w : World} {e : Env} {t t' ty : TypeId} {x y : Operand}
theorem dl_buildSlice {d te es len:Nat} {pos:String} {af:Array Edge} {g:Option (Nat × Bool)} {ps:List (Nat × Operand)} {cs':List SV} {xs:List (List D)} (ht:Γ.sh t = .slice te) (hkn:(Γ.sh te).known=true) (hes:Γ.cells te=es) (hpos:Nat.blt 0 es=true) (hz:zeroOk (tiGet Γ.τ te).zero=true) (hzl:Nat.beq (tiGet Γ.τ te).zero.length (Γ.cells te)=true) (hok:partsOk ps=true)
  (hlen:Nat.ble (len * es) 16777216=true) (hf:fillSV (fun i=>some (i * es,es)) (initSV (zeroSV Γ.τ te) (len * es)) (partsSV L ps)=some cs') (hcl:Nat.beq cs'.length (len * es)=true) (hxs:rowsOf (cellEs Γ.τ 4 te) es len cs' = some xs) (hw:wantedSV ops L g=some true) (hd:Nat.blt d Γ.n=true)
  (hk:DL Γ ops rest K k ((d,.d (.slice es xs))::L) H):DL Γ ops (⟨some d,.buildSlice t len ps.toArray,ty,pos,af,g⟩::rest) K k L H :=
 dl_op hw (op_buildSlice ht hkn hes hpos hz hzl hok hlen hf hcl hxs hd) hk
end
end Go.Proofs.YtapciiffpnociabGreatDoor
namespace Go.Proofs.YtapciiffpnociabGreatDoor
open Go Go.RowKit
section
variable {Γ : Ctx} {k : Nat → Prop} {L : Sl} {H : Hp} {K : Next'} {Q : Post} {ops : List Oper} {rest : List Oper} {a : Act} {w : World} {e : Env} {t t' ty : TypeId} {x y : Operand}
theorem Models.del (m:Models Γ k L H e a w) (i:Nat):Models Γ k L (Hp.del H i) e a w∧∀ b,Γ.X e (Hp.del H i) b→Γ.X e H b:=by
 have hd:=Hp.del_mem (i:=i) H m.ids
 have hown:∀ b,b∈ownedL e (Hp.del H i)→b∈ownedL e H:=by
  intro b hb
  obtain⟨p,hp,ho⟩:=List.mem_filterMap.1 hb
  exact List.mem_filterMap.2 ⟨p,(hd p hp).1,ho⟩
 have hX:∀ b,Γ.X e (Hp.del H i) b→Γ.X e H b:=fun b hx=>hx.imp id (hown b)
 refine⟨⟨⟨m.top,fun p hp=>⟨(m.heap p (hd p hp).1).1,HRel.keep (Nat.le_refl _) (fun _ _ _=>rfl) (fun b _ h=>hX b h) p (fun _ _=>rfl) (m.heap p (hd p hp).1).2⟩,Hp.del_ids H m.ids,
  filterMap_nodup _ H m.nodup _ (nodup_of_map (Hp.del_ids H m.ids)) fun p hp=>(hd p hp).1,fun b hb=>m.mine b (hown b hb),m.os,m.tape,m.output,m.drawn,m.size,m.block,m.obound,m.tabs,m.jle,m.anchor⟩,m.defers,m.len,fun t=>?_⟩,hX⟩
 exact Rel.keep (Nat.le_refl _) (fun _ _ _=>rfl) (fun b _ h=>hX b h) _ _ (m.slot t)
theorem row_data (m:Models Γ k L H e a w) {i es:Nat} {te:TypeId} {xs:List (List D)} (hH:Hp.get H i=some (.row te es xs)):RepC (Γ.X e (Hp.del H i)) w (e.η i) (.slice es xs):=by
 have hmem:=Hp.mem_of hH
 obtain⟨vs,ho,hxe,hone,hrep⟩:=(m.heap _ hmem).2
 obtain⟨m2,hX⟩:=m.del i
 have hd:=Hp.del_mem (i:=i) H m.ids
 rcases ho.2 with ⟨h1,h2⟩|⟨g,cap,cur,hv,_,hg,hnc,hcm,hcs,htake⟩
 ·have:xs=[]:=List.eq_nil_of_length_eq_zero h2
  subst this
  rw [h1];exact .nil
 ·rw [hv]
  have hgm:HB.owned e (i,.row te es xs)=some g:=by simp [HB.owned,hv,Value.ownBlock]
  refine .slice (fun i' j=>vs.getD (i' * es + j) undef) rfl hnc hcm (fun hx=>?_) (Array.getElem?_eq_some_iff.1 hg).1 hxe (fun i' hi j hj=>?_) (fun i' hi j hj=>?_) (fun i' hi j hj=>frozen_of_row hg)
  ·rcases hx with hx|hx
   ·exact (m.mine g (List.mem_filterMap.2 ⟨_,hmem,hgm⟩)).2 hx
   ·obtain⟨p,hp,hpg⟩:=List.mem_filterMap.1 hx
    exact m.owned_ne (hd p hp).1 hmem (hd p hp).2 hpg hgm
  ·obtain⟨v,p1,p2⟩:=hrep i' hi j hj
   rw [cell_of_row w g _ cur te (0,0) hg]
   have:(cur.toList.take (xs.length * es))[i' * es + j]? = some v:=by rw [htake];exact p1
   rw [List.getElem?_take] at this
   split at this
   ·rw [Array.getElem?_toList] at this;rw [Nat.zero_add,this,List.getD,p1];rfl
   ·cases this
  ·obtain⟨v,p1,p2⟩:=hrep i' hi j hj
   simp only [List.getD,p1,Option.getD_some]
   exact RepC.keep (Nat.le_refl _) (fun _ _ _=>rfl) (fun b _ h=>hX b h) p2
end
section
variable {Γ : Ctx} {k : Nat} {L : Sl} {H : Hp} {K : Next'} {Q : Post} {ops : List Oper} {rest : List Oper} {a : Act} {w : World} {e : Env} {t t' ty : TypeId} {x y : Operand}
theorem dw_seal {c:Code} {i es:Nat} {te:TypeId} {xs:List (List D)} (t:Nat) (hL:L.get t = .row i) (hH:Hp.get H i=some (.row te es xs)) (hk:DW Γ c Q k ((t,.d (.slice es xs))::L) (Hp.del H i)):DW Γ c Q k L H:=by
 intro e a w m
 obtain⟨m2,_⟩:=m.del i
 refine hk e a w ⟨m2.toHeap,m2.defers,m2.len,fun t'=>?_⟩
 rw [Sl.get_cons]
 split
 ·rename_i ht
  subst ht
  have hs:=m.slot t
  rw [hL] at hs
  rw [hs.2.1]
  exact row_data m hH
 ·exact m2.slot t'
theorem dw_nild {c:Code} (t es:Nat) (hL:L.get t = .nils) (hk:DW Γ c Q k ((t,.d (.slice es []))::L) H):DW Γ c Q k L H:=by
 intro e a w m
 refine hk e a w ⟨m.toHeap,m.defers,m.len,fun t'=>?_⟩
 rw [Sl.get_cons]
 split
 ·rename_i ht
  subst ht
  have hs:=m.slot t
  rw [hL] at hs
  rw [hs]
  exact .nil
 ·exact m.slot t'
end
section
variable {Γ : Ctx} {k : Nat → Prop} {L : Sl} {H : Hp} {K : Next'} {Q : Post} {ops : List Oper} {rest : List Oper} {a : Act} {w : World} {e : Env} {t t' ty : TypeId} {x y : Operand}
theorem nat_add_1 (a:Nat):(a:Int) + 1=((a + 1:Nat):Int):=rfl
theorem nat_add_2 (a:Nat):(a:Int) + 2=((a + 2:Nat):Int):=rfl
theorem nat_lit_0:(0:Int)=((0:Nat):Int):=rfl
theorem ev_conv_u8 {n:Int} {td:TypeId} (ht:Γ.sh t = .int .u8) (hd:Γ.sh td = .int .i64) (hx:opSV L x = .d (.int .u8 n)) (hb:0≤n∧n≤255):Ev Γ k L H (.convert t td x) ty (.d (.int .i64 n)):=by
 intro e a w m
 have h1:Γ.P.underlying t=some (.int .u8):=by
  obtain⟨u,inf,z,h1,_,_,h4,_⟩:=ti_parts (Γ.ti (by rw [ht];intro h;cases h))
  rw [h1]
  have:shOf Γ.P u = .int .u8:=h4▸ht
  cases u <;> simp [shOf] at this ⊢
  exact this
 have h2:Γ.P.underlying td=some (.int .i64):=by
  obtain⟨u,inf,z,h1,_,_,h4,_⟩:=ti_parts (Γ.ti (by rw [hd];intro h;cases h))
  rw [h1]
  have:shOf Γ.P u = .int .i64:=h4▸hd
  cases u <;> simp [shOf] at this ⊢
  exact this
 have hw:-9223372036854775808≤n∧n≤9223372036854775807:=by omega
 refine⟨.int .i64 n,fun _ _ _ _ w' _=>?_,.int (WalkArith.wf_i64 hw)⟩
 simp [execOp,Go.convert,evI m hx,run_underlying h1,run_underlying h2,Conv.intToInt,IntWalk.i64_in n hw]
end
section
variable {Γ : Ctx} {k : Nat} {L : Sl} {H : Hp} {K : Next'} {Q : Post} {ops : List Oper} {rest : List Oper} {a : Act} {w : World} {e : Env} {t t' ty : TypeId} {x y : Operand}
theorem ds_of_dl (h:DL Γ ops rest K k L H):DS false Γ ops rest K k L H:=h
theorem dl_of_ds (h:DS false Γ ops rest K k L H):DL Γ ops rest K k L H:=h
end
end Go.Proofs.YtapciiffpnociabGreatDoor
