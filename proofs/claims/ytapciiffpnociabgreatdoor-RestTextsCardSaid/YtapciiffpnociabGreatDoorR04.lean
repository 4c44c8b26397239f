/- Several texts in one: GxOwn GxCal GxCaq. Condition: none. -/
import Derived.Test.YtapciiffpnociabGreatDoorR03
import Derived.Laws.Externs
namespace Go.Proofs.YtapciiffpnociabGreatDoor
open Go Go.RowKit
mutual
def SV.rowsGe (J:Nat):SV→Bool
 | .row _=>true
 | .prow _ _ _ _=>true
 | .rsl _ _ _ _=>true
 | .rg _ _ _=>true
 | .fn _ caps=>SV.rowsGeL J caps
 | .agg ss=>SV.rowsGeL J ss
 | .tup ss=>SV.rowsGeL J ss
 | .junk=>true
 | .d _=>true
 | .nils=>true
 | .pd _=>true
 | .loc _ _=>true
 | .mp _=>true
 | .md _ _=>true
 | .sl _ _ _ _=>true
 | .val _=>true
def SV.rowsGeL (J:Nat):List SV→Bool
 | []=>true
 | s::ss=>SV.rowsGe J s && SV.rowsGeL J ss
end
def HB.rowsGe (J:Nat):Nat × HB→Bool
 | (_,.blk _ cs)=>SV.rowsGeL J cs
 | (_,.row _ _ _)=>true
 | (_,.map _ _)=>true
def Hp.rowsGe (J:Nat):Hp→Bool
 | []=>true
 | p::H=>HB.rowsGe J p && Hp.rowsGe J H
theorem Hp.rowsGe_spec {J:Nat}:∀ (H:Hp),Hp.rowsGe J H=true→∀ p∈H,HB.rowsGe J p=true
 | [],_,_,h=>by simp at h
 | q::H,h,p,hp=>by
  simp only [Hp.rowsGe,Bool.and_eq_true] at h
  rcases List.mem_cons.1 hp with rfl|hp
  ·exact h.1
  ·exact Hp.rowsGe_spec H h.2 p hp
mutual
theorem Rel.back {X} {e' e'':Env} {w} {σ:Nat→Nat} {J k2:Nat} (hβ:∀ i,i < k2→e''.β (σ i)=e'.β i) (hη:∀ i,i < k2→e''.η (σ i)=e'.η i) (hσ:∀ i,i < k2→e''.dom (σ i)) (hk:∀ i,e'.dom i→i < k2) :
  ∀ (s:SV) (v:Value),s.rowsGe J=true→Rel X e' w s v→Rel X e'' w (s.ren σ) v
 | .junk,_,_,_=>trivial
 | .d _,_,_,h=>h
 | .nils,_,_,h=>h
 | .pd _,_,_,h=>h
 | .loc i _,_,_,h=>⟨hσ i (hk i h.1),by rw [hβ i (hk i h.1)];exact h.2⟩
 | .mp i,_,_,h=>⟨hσ i (hk i h.1),by rw [hβ i (hk i h.1)];exact h.2⟩
 | .md _ _,_,_,h=>h
 | .sl i _ _ _,_,_,h=>⟨hσ i (hk i h.1),by rw [hβ i (hk i h.1)];exact h.2⟩
 | .row i,_,hr,h=>⟨hσ i (hk i h.1),by rw [hη i (hk i h.1)];exact h.2⟩
 | .rsl i _ _ _,_,hr,h=>⟨hσ i (hk i h.1),by rw [hη i (hk i h.1)];exact h.2⟩
 | .rg _ _ _,_,_,h=>h
 | .prow i _ _ _,_,hr,h=>⟨hσ i (hk i h.1),by rw [hη i (hk i h.1)];exact h.2⟩
 | .fn _ caps,_,hr,⟨vs,h1,h2⟩=>⟨vs,h1,RelL.back hβ hη hσ hk caps vs hr h2⟩
 | .agg ss,_,hr,⟨vs,h1,h2⟩=>⟨vs,h1,RelL.back hβ hη hσ hk ss vs hr h2⟩
 | .tup ss,_,hr,⟨vs,h1,h2⟩=>⟨vs,h1,RelL.back hβ hη hσ hk ss vs hr h2⟩
 | .val _,_,_,h=>h
theorem RelL.back {X} {e' e'':Env} {w} {σ:Nat→Nat} {J k2:Nat} (hβ:∀ i,i < k2→e''.β (σ i)=e'.β i) (hη:∀ i,i < k2→e''.η (σ i)=e'.η i) (hσ:∀ i,i < k2→e''.dom (σ i)) (hk:∀ i,e'.dom i→i < k2) :
  ∀ (ss:List SV) (vs:List Value),SV.rowsGeL J ss=true→RelL X e' w ss vs→RelL X e'' w (SV.renL σ ss) vs
 | [],[],_,_=>trivial
 | [],_::_,_,h=>h.elim
 | _::_,[],_,h=>h.elim
 | s::ss,v::vs,hr,⟨h1,h2⟩=>by
  simp only [SV.rowsGeL,Bool.and_eq_true] at hr
  exact⟨Rel.back hβ hη hσ hk s v hr.1 h1,RelL.back hβ hη hσ hk ss vs hr.2 h2⟩
end
def allIn:Nat→List Nat→Bool
 | 0,_=>true
 | j + 1,l=>(!notIn j l) && allIn j l
theorem notIn_false {i:Nat}:∀ {l:List Nat},notIn i l=false→i∈l
 | [],h=>by simp [notIn] at h
 | j::r,h=>by
  simp only [notIn,Bool.and_eq_false_iff,Bool.not_eq_false'] at h
  rcases h with h|h
  ·exact Nat.eq_of_beq_eq_true h▸List.mem_cons_self ..
  ·exact List.mem_cons_of_mem _ (notIn_false h)
theorem notIn_true {i:Nat} {l:List Nat} (h:i ∉ l):notIn i l=true:=by
 cases hc:notIn i l with
 | true=>rfl
 | false=>exact absurd (notIn_false hc) h
theorem allIn_spec {l:List Nat}:∀ (J:Nat),allIn J l=true→∀ j,j < J→j∈l
 | 0,_,_,h=>by omega
 | J + 1,h,j,hj=>by
  simp only [allIn,Bool.and_eq_true,Bool.not_eq_true'] at h
  rcases Nat.lt_or_ge j J with h1|h1
  ·exact allIn_spec J h.2 j h1
  ·have:j=J:=by omega
   subst this;exact notIn_false h.1
theorem filterMap_congr' {α β:Type} {f g:α→Option β}:∀ {l:List α},(∀ p∈l,f p=g p)→l.filterMap f=l.filterMap g
 | [],_=>rfl
 | x::l,h=>by
  rw [List.filterMap_cons,List.filterMap_cons,h x (List.mem_cons_self ..),filterMap_congr' fun p hp=>h p (List.mem_cons_of_mem _ hp)]
def restOf (H:Hp) (ids:List Nat):Hp:=H.filter fun p=>notIn p.1 ids
def sig (ρ:Nat→Nat) (J k:Nat) (i:Nat):Nat:=match Nat.blt i J with|true=>ρ i|false=>k + i
theorem sig_lt {ρ:Nat→Nat} {J k i:Nat} (h:i < J):sig ρ J k i=ρ i:=by
 unfold sig
 rw [show Nat.blt i J=true from Nat.ble_eq_true_of_le h]
theorem sig_ge {ρ:Nat→Nat} {J k i:Nat} (h:J≤i):sig ρ J k i=k + i:=by
 unfold sig
 cases hb:Nat.blt i J with
 | true=>have:=Nat.le_of_ble_eq_true hb;omega
 | false=>rfl
section
variable {Γ : Ctx} {k : Nat} {L : Sl} {H : Hp} {K : Next'} {ops : List Oper} {rest : List Oper} {a : Act} {w : World} {e : Env}
def CallsG (dr:Bool) (P:Program) (τ:List (Nat × TI)) (τok:TabOk P τ) (f:FuncId) (args:List SV) (J k:Nat) (H:Hp) (R:Ending→Value→Nat→SV→Hp→Prop):Prop :=
 ∀ (O:Nat→Prop) (e:Env) (w:World) (vs:List Value),
  Heap ⟨P,τ,τok,O,w,fun b=>b∈ownedL e H,0,J,e.an,none,noPan,true,dr⟩ k H e w→RelL (Ctx.X ⟨P,τ,τok,O,w,fun b=>b∈ownedL e H,0,J,e.an,none,noPan,true,dr⟩ e H) e w args vs →
  Calls P f vs.toArray w (fun en w'=>∃ k' r H' e' v,R en v k' r H'∧Heap ⟨P,τ,τok,O,w,fun b=>b∈ownedL e H,0,J,e.an,none,noPan,true,dr⟩ k' H' e' w' ∧
   Rel (Ctx.X ⟨P,τ,τok,O,w,fun b=>b∈ownedL e H,0,J,e.an,none,noPan,true,dr⟩ e' H') e' w' r v)
theorem FnOk.g {dr:Bool} {P:Program} {τ:List (Nat × TI)} {τok:TabOk P τ} {f:FuncId} {args:List SV} {J k:Nat} {H:Hp} {R:Nat→SV→Hp→Prop} (h:FnOk dr P τ τok f args J k H R) :
  CallsG dr P τ τok f args J k H (fun en v k' r H'=>R k' r H'∧en = .returned v) :=
 fun O e w vs hH hr=>(h.2 O e w vs hH hr).mono fun _ _ ⟨k',r,H',e',v,h1,h2,h3,h4⟩=>⟨k',r,H',e',v,⟨h1,h2⟩,h3,h4⟩
theorem FnOkE.g {dr:Bool} {P:Program} {τ:List (Nat × TI)} {τok:TabOk P τ} {f:FuncId} {args:List SV} {J k:Nat} {H:Hp} {R:Nat→SV→Hp→Prop} {E:Value→Prop} (h:FnOkE dr P τ τok f args J k H R E) :
  CallsG dr P τ τok f args J k H (fun en v k' r H'=>(R k' r H'∧en = .returned v)∨(E v∧en = .panicked [{ v,recovered:=false }]∧r = .junk∧H' = [])) :=
 fun O e w vs hH hr=>(h.2 O e w vs hH hr).mono fun _ _ hx=>by
  rcases hx with ⟨k',r,H',e',v,h1,h2,h3,h4⟩|⟨v,k',e',h1,h2,h3⟩
  ·exact⟨k',r,H',e',v,.inl ⟨h1,h2⟩,h3,h4⟩
  ·exact⟨k',.junk,[],e',v,.inr ⟨h1,h2,rfl,rfl⟩,h3,trivial⟩
theorem CallsG.use {f:FuncId} {args:List SV} {J kc:Nat} {Hc:Hp} {R:Ending→Value→Nat→SV→Hp→Prop} (hc:CallsG Γ.dr Γ.P Γ.τ Γ.τok f args J kc Hc R) (ρ:Nat→Nat) (m:Models Γ k L H e a w) (hlA:SV.lowL kc args=true) (hKH:KnowsH ρ H Hc) (hl:Hp.low kc Hc=true)
  (hd:distinct (Hc.map fun p=>ρ p.1)=true) (hd':distinct (Hc.map (·.1))=true) (hJ:Nat.ble J kc=true) (hall:allIn J (Hc.map (·.1))=true) (vs:List Value) (hr:RelL (Γ.X e H) e w (SV.renL ρ args) vs)
  (hRr:∀ en v k2 r H2,R en v k2 r H2→r.rowsGe J=true∧Hp.rowsGe J H2=true) :
  Calls Γ.P f vs.toArray w (fun en w'=>∃ k2 r H2 v e'',R en v k2 r H2∧Models Γ (k + k2) L ((H2.map fun p=>(sig ρ J k p.1,p.2.ren (sig ρ J k)))++restOf H (Hc.map fun p=>ρ p.1)) e'' a w' ∧
   Rel (Γ.X e'' ((H2.map fun p=>(sig ρ J k p.1,p.2.ren (sig ρ J k)))++restOf H (Hc.map fun p=>ρ p.1))) e'' w' (r.ren (sig ρ J k)) v):=by
 have hJ':=Nat.le_of_ble_eq_true hJ
 have hmem:=KnowsH.mem Hc hKH
 have hlow:=Hp.low_spec Hc hl
 let ec:=e.ren ρ kc
 let rst:=restOf H (Hc.map fun p=>ρ p.1)
 have hrst:∀ p,p∈rst→p∈H∧p.1 ∉ Hc.map fun q=>ρ q.1:=by
  intro p hp
  obtain⟨h1,h2⟩:=List.mem_filter.1 hp
  exact⟨h1,notIn_spec _ _ h2⟩
 have hown:∀ b,b∈ownedL ec Hc→b∈ownedL e H:=by
  intro b hb
  obtain⟨p,hp,ho⟩:=List.mem_filterMap.1 hb
  exact List.mem_filterMap.2 ⟨_,hmem p hp,by rw [← owned_ren e ρ kc];exact ho⟩
 have hdis:∀ b,b∈ownedL ec Hc→b ∉ ownedL e rst:=by
  intro b hb hb2
  obtain⟨p,hp,ho⟩:=List.mem_filterMap.1 hb
  obtain⟨q,hq,hoq⟩:=List.mem_filterMap.1 hb2
  obtain⟨hq1,hq2⟩:=hrst q hq
  refine m.owned_ne (hmem p hp) hq1 (fun he=>hq2 ?_) (by rw [← owned_ren e ρ kc];exact ho) hoq
  rw [← he];exact List.mem_map.2 ⟨p,hp,rfl⟩
 have hrstown:∀ b,b∈ownedL e rst→b∈ownedL e H:=by
  intro b hb
  obtain⟨q,hq,hoq⟩:=List.mem_filterMap.1 hb
  exact List.mem_filterMap.2 ⟨q,(hrst q hq).1,hoq⟩
 let O':Nat→Prop:=fun b=>Γ.O b∨b∈ownedL e rst
 let Γc:Ctx:=⟨Γ.P,Γ.τ,Γ.τok,O',w,fun b=>b∈ownedL ec Hc,0,J,ec.an,none,noPan,true,Γ.dr⟩
 have hXc:∀ b,Ctx.X Γc ec Hc b→Γ.X e H b:=by
  intro b hb
  rcases hb with (hb|hb)|hb
  ·exact .inl hb
  ·exact .inr (hrstown b hb)
  ·exact .inr (hown b hb)
 have hHc:Heap Γc kc Hc ec w:=by
  refine⟨fun _=>Iff.rfl,fun p hp=>⟨(hlow p hp).1,?_⟩,distinct_spec _ hd',?_,fun b hb=>⟨.inl hb,fun hO=>?_⟩,rfl,rfl,rfl,fun _=>Nat.le_refl _,Nat.le_refl _,fun _ _ _=>rfl,fun b hO=>⟨?_,fun hb=>?_⟩,m.tabsAt.sub hown,fun j hj=>Nat.lt_of_lt_of_le hj hJ',fun _ _=>rfl⟩
  ·have hr':=(m.heap _ (hmem p hp)).2
   have hbl:=(hlow p hp).2
   obtain⟨i,b⟩:=p
   cases b with
   | blk ty cs =>
    obtain⟨us,h1,h2,h3⟩:=hr'
    exact⟨us,h1,RelL.keep (Nat.le_refl _) (fun _ _ _=>rfl) (fun b _ hy=>hXc b hy) _ _ (RelL.ren ρ kc cs us hbl h2),h3⟩
   | row ty es xs =>
    obtain⟨us,h1,h2,h3,h4⟩:=hr'
    refine⟨us,h1,h2,h3,fun i hi j hj=>?_⟩
    obtain⟨v,g1,g2⟩:=h4 i hi j hj
    exact⟨v,g1,RepC.keep (Nat.le_refl _) (fun _ _ _=>rfl) (fun b _ hy=>hXc b hy) g2⟩
   | map kd kvs=>exact hr'
  ·rw [ownedL_ren]
   refine filterMap_nodup _ H m.nodup _ ?_ ?_
   ·have hn:=distinct_spec _ hd
    refine List.Pairwise.of_map (f:=fun p:Nat × HB=>p.1) (S:=(·≠·)) (fun a b hab he=>hab (by rw [he])) ?_
    simpa [List.map_map,List.Nodup,Function.comp_def] using hn
   ·intro p hp
    obtain⟨q,hq,rfl⟩:=List.mem_map.1 hp
    exact hmem q hq
  ·rcases hO with hO|hO
   ·exact (m.mine b (hown b hb)).2 hO
   ·exact hdis b hb hO
  ·rcases hO with hO|hO
   ·exact Nat.lt_of_lt_of_le (m.obound b hO).1 m.size
   ·exact m.lt b (hrstown b hO)
  ·rcases hO with hO|hO
   ·exact (m.mine b (hown b hb)).2 hO
   ·exact hdis b hb hO
 refine (hc O' ec w vs hHc (RelL.keep (Nat.le_refl _) (fun _ _ _=>rfl) (fun b _ hy=>hXc b hy) _ _ (RelL.ren ρ kc args vs hlA hr))).mono ?_
 rintro en w' ⟨k2,r,H2,e',v,hR,hH2,hrel⟩
 obtain⟨hr1,hr2⟩:=hRr en v k2 r H2 hR
 have hrows:=Hp.rowsGe_spec H2 hr2
 have hJ2:J≤k2:=by
  rcases Nat.eq_zero_or_pos J with h|h
  ·omega
  ·have:J - 1 < k2:=hH2.jle (J - 1) (by show J - 1 < J;omega)
   omega
 have hdom2:∀ i,e'.dom i→i < k2:=fun i hi=>(hH2.top i).1 hi
 let e'':Env:=⟨fun i=>if i < k then e.β i else e'.β (i - k),fun i=>if i < k then e.η i else e'.η (i - k),lo (k + k2)⟩
 have hρk:∀ j,j < J→ρ j < k:=by
  intro j hj
  obtain⟨p,hp,hpj⟩:=List.mem_map.1 (allIn_spec J hall j hj)
  have:ρ p.1 < k:=(m.top _).1 (m.heap _ (hmem p hp)).1
  rw [← hpj];exact this
 have hβ:∀ i,i < k2→e''.β (sig ρ J k i)=e'.β i:=by
  intro i hi
  rcases Nat.lt_or_ge i J with h|h
  ·rw [sig_lt h]
   show (if ρ i < k then e.β (ρ i) else _)=_
   rw [if_pos (hρk i h)]
   exact (Env.an_β (hH2.anchor i h)).symm
  ·rw [sig_ge h]
   show (if k + i < k then _ else e'.β (k + i - k))=_
   rw [if_neg (by omega),Nat.add_sub_cancel_left]
 have hη:∀ i,i < k2→e''.η (sig ρ J k i)=e'.η i:=by
  intro i hi
  rcases Nat.lt_or_ge i J with h|h
  ·rw [sig_lt h]
   show (if ρ i < k then e.η (ρ i) else _)=_
   rw [if_pos (hρk i h)]
   exact (Env.an_η (hH2.anchor i h)).symm
  ·rw [sig_ge h]
   show (if k + i < k then _ else e'.η (k + i - k))=_
   rw [if_neg (by omega),Nat.add_sub_cancel_left]
 have hσ:∀ i,i < k2→e''.dom (sig ρ J k i):=by
  intro i hi
  show _ < k + k2
  rcases Nat.lt_or_ge i J with h|h
  ·rw [sig_lt h];have:=hρk i h;omega
  ·rw [sig_ge h];omega
 have hext:∀ i,e.dom i→e''.β i=e.β i∧e''.η i=e.η i:=by
  intro i hi
  have hi:i < k:=(m.top i).1 hi
  exact⟨if_pos hi,if_pos hi⟩
 have hkk:∀ i,e.dom i→e''.dom i:=fun i hi=>Nat.lt_of_lt_of_le ((m.top i).1 hi) (Nat.le_add_right _ _)
 have hlt:∀ p∈H,e.dom p.1:=fun p hp=>(m.heap p hp).1
 have howned2:∀ p∈H2,HB.owned e'' (sig ρ J k p.1,p.2.ren (sig ρ J k))=HB.owned e' p:=by
  intro p hp
  have hi:=hdom2 _ (hH2.heap p hp).1
  have hrow:=hrows p hp
  obtain⟨i,b⟩:=p
  cases b with
  | blk ty cs=>show some (e''.β (sig ρ J k i))=some (e'.β i);rw [hβ i hi]
  | row ty es xs=>show (e''.η (sig ρ J k i)).ownBlock=(e'.η i).ownBlock;rw [hη i hi]
  | map kd kvs=>show some (e''.β (sig ρ J k i))=some (e'.β i);rw [hβ i hi]
 have hol1:ownedL e'' (H2.map fun p=>(sig ρ J k p.1,p.2.ren (sig ρ J k)))=ownedL e' H2:=by
  unfold ownedL
  rw [List.filterMap_map]
  exact filterMap_congr' fun p hp=>howned2 p hp
 have hol2:ownedL e'' rst=ownedL e rst:=ownedL_ext hext rst fun p hp=>hlt p (hrst p hp).1
 have holA:ownedL e'' ((H2.map fun p=>(sig ρ J k p.1,p.2.ren (sig ρ J k)))++rst)=ownedL e' H2++ownedL e rst:=by
  unfold ownedL at *
  rw [List.filterMap_append,hol1,hol2]
 have hE:∀ b,b∈ownedL e' H2→(b∈ownedL ec Hc∨w.heap.size≤b)∧¬ O' b:=fun b hb=>hH2.mine b hb
 have hX'':∀ b,Γ.X e'' ((H2.map fun p=>(sig ρ J k p.1,p.2.ren (sig ρ J k)))++rst) b↔Ctx.X Γc e' H2 b:=by
  intro b
  unfold Ctx.X
  rw [holA,List.mem_append]
  exact⟨fun h=>h.elim (fun h=>.inl (.inl h)) fun h=>h.elim .inr fun h=>.inl (.inr h),fun h=>h.elim (fun h=>h.elim .inl fun h=>.inr (.inr h)) fun h=>.inr (.inl h)⟩
 have hXold:∀ b,b < w.heap.size→Γ.X e'' ((H2.map fun p=>(sig ρ J k p.1,p.2.ren (sig ρ J k)))++rst) b→Γ.X e H b:=by
  intro b hb hx
  rcases (hX'' b).1 hx with (hx|hx)|hx
  ·exact .inl hx
  ·exact .inr (hrstown b hx)
  ·rcases (hE b hx).1 with h|h
   ·exact .inr (hown b h)
   ·omega
 have hblk:∀ b,b < w.heap.size→b ∉ ownedL ec Hc→w'.heap[b]? = w.heap[b]?:=fun b hb hn=>hH2.block b hb hn
 have hkeep:∀ b,b < w.heap.size→¬ Γ.X e H b→w'.heap[b]? = w.heap[b]?:=fun b hb hx=>hblk b hb fun h=>hx (.inr (hown b h))
 have hres:Models Γ (k + k2) L ((H2.map fun p=>(sig ρ J k p.1,p.2.ren (sig ρ J k)))++rst) e'' a w':=by
  refine⟨⟨fun _=>Iff.rfl,fun p hp=>?_,?_,?_,fun b hb=>?_,hH2.os.trans m.os,hH2.tape.trans m.tape,hH2.output.trans m.output,fun hdr=>Nat.le_trans (m.drawn hdr) (hH2.drawn hdr),Nat.le_trans m.size hH2.size,fun b h1 h2=>?_,m.obound,m.tabs,fun j hj=>Nat.lt_of_lt_of_le (m.jle j hj) (Nat.le_add_right _ _),fun j hj=>?_⟩,m.defers.keep fun r hr=>hblk r (lt_of_heap hr) fun ho=>m.owned_mark hr (hown r ho),m.len,fun t=>?_⟩
  ·rcases List.mem_append.1 hp with hp|hp
   ·obtain⟨q,hq,rfl⟩:=List.mem_map.1 hp
    have hi:=hdom2 _ (hH2.heap q hq).1
    refine⟨hσ _ hi,?_⟩
    have hrow:=hrows q hq
    have hh:=(hH2.heap q hq).2
    obtain⟨i,b⟩:=q
    cases b with
    | blk ty cs =>
     obtain⟨us,h1,h2,h3⟩:=hh
     refine⟨us,by show w'.heap[e''.β (sig ρ J k i)]? = _;rw [hβ i hi];exact h1,?_,h3⟩
     exact RelL.keep (Nat.le_refl _) (fun _ _ _=>rfl) (fun b _ hy=>(hX'' b).1 hy) _ _ (RelL.back hβ hη hσ hdom2 cs us hrow h2)
    | row ty es xs =>
     obtain⟨us,h1,h2,h3,h4⟩:=hh
     refine⟨us,by show w'.ownsRow 0 ty es (e''.η (sig ρ J k i)) _ us;rw [hη i hi];exact h1,h2,h3,fun i' hi' j hj=>?_⟩
     obtain⟨v,g1,g2⟩:=h4 i' hi' j hj
     exact⟨v,g1,RepC.keep (Nat.le_refl _) (fun _ _ _=>rfl) (fun b _ hy=>(hX'' b).1 hy) g2⟩
    | map kd kvs=>show MapIs w' (e''.β (sig ρ J k i)) kd kvs;rw [hβ i hi];exact hh
   ·obtain⟨hp1,hp2⟩:=hrst p hp
    refine⟨hkk _ (hlt p hp1),HRel.keep hH2.size hkeep hXold p (fun b hb=>?_) (HRel.ext hkk hext p (hlt p hp1) (m.heap p hp1).2)⟩
    rw [owned_ext hext p (hlt p hp1)] at hb
    have hbm:b∈ownedL e rst:=List.mem_filterMap.2 ⟨p,hp,hb⟩
    exact hblk b (m.lt b (hrstown b hbm)) fun h=>hdis b h hbm
  ·rw [List.map_append,List.map_map]
   refine List.nodup_append.2 ⟨?_,?_,?_⟩
   ·have h2:=hH2.ids
    have hinj:∀ i j,i < k2→j < k2→sig ρ J k i=sig ρ J k j→i=j:=by
     intro i j hi hj hij
     rcases Nat.lt_or_ge i J with h|h <;> rcases Nat.lt_or_ge j J with h'|h'
     ·rw [sig_lt h,sig_lt h'] at hij
      have hn:=distinct_spec _ hd
      have hin:∀ (l:List (Nat × HB)),(l.map fun p=>ρ p.1).Nodup→∀ p q,p∈l→q∈l→ρ p.1=ρ q.1→p.1=q.1:=by
       intro l
       induction l with
       | nil=>intro _ p q hp;simp at hp
       | cons x l ih =>
        intro hn p q hp hq hpq
        obtain⟨n1,n2⟩:=List.nodup_cons.1 hn
        rcases List.mem_cons.1 hp with hp1|hp1 <;> rcases List.mem_cons.1 hq with hq1|hq1
        ·rw [hp1,hq1]
        ·exact absurd (show ρ x.1∈l.map fun p=>ρ p.1 from List.mem_map.2 ⟨q,hq1,by rw [← hpq,hp1]⟩) n1
        ·exact absurd (show ρ x.1∈l.map fun p=>ρ p.1 from List.mem_map.2 ⟨p,hp1,by rw [hpq,hq1]⟩) n1
        ·exact ih n2 p q hp1 hq1 hpq
      obtain⟨p,hp,hpi⟩:=List.mem_map.1 (allIn_spec J hall i h)
      obtain⟨q,hq,hqj⟩:=List.mem_map.1 (allIn_spec J hall j h')
      rw [← hpi,← hqj]
      exact hin Hc hn p q hp hq (by rw [hpi,hqj];exact hij)
     ·rw [sig_lt h,sig_ge h'] at hij;have:=hρk i h;omega
     ·rw [sig_ge h,sig_lt h'] at hij;have:=hρk j h';omega
     ·rw [sig_ge h,sig_ge h'] at hij;omega
    have:∀ (l:Hp),(∀ p∈l,p.1 < k2)→(l.map (·.1)).Nodup→(l.map ((fun p:Nat × HB=>p.1) ∘ fun p=>(sig ρ J k p.1,p.2.ren (sig ρ J k)))).Nodup:=by
     intro l
     induction l with
     | nil=>intro _ _;simp
     | cons x l ih =>
      intro hb hn
      obtain⟨n1,n2⟩:=List.nodup_cons.1 hn
      refine List.nodup_cons.2 ⟨fun hm=>?_,ih (fun p hp=>hb p (List.mem_cons_of_mem _ hp)) n2⟩
      obtain⟨q,hq,hqx⟩:=List.mem_map.1 hm
      have:=hinj q.1 x.1 (hb q (List.mem_cons_of_mem _ hq)) (hb x (List.mem_cons_self ..)) hqx
      exact n1 (List.mem_map.2 ⟨q,hq,this⟩)
    exact this H2 (fun p hp=>hdom2 _ (hH2.heap p hp).1) h2
   ·exact List.Nodup.sublist (List.Sublist.map _ List.filter_sublist) m.ids
   ·intro i hi j hj hij
    subst hij
    obtain⟨p,hp,hpi⟩:=List.mem_map.1 hi
    obtain⟨q,hq,hqi⟩:=List.mem_map.1 hj
    obtain⟨hq1,hq2⟩:=hrst q hq
    have hqk:q.1 < k:=(m.top _).1 (hlt q hq1)
    have hpi':sig ρ J k p.1=i:=hpi
    rcases Nat.lt_or_ge p.1 J with h|h
    ·rw [sig_lt h] at hpi'
     obtain⟨p',hp',hpp⟩:=List.mem_map.1 (allIn_spec J hall p.1 h)
     exact hq2 (List.mem_map.2 ⟨p',hp',by rw [hpp,hpi',hqi]⟩)
    ·rw [sig_ge h] at hpi';omega
  ·rw [holA]
   refine List.nodup_append.2 ⟨hH2.nodup,?_,fun b hb c hc hbc=>?_⟩
   ·exact filterMap_nodup _ H m.nodup _ (List.Nodup.sublist List.filter_sublist (nodup_of_map m.ids)) fun p hp=>(hrst p hp).1
   ·subst hbc;exact (hE b hb).2 (.inr hc)
  ·rw [holA] at hb
   rcases List.mem_append.1 hb with hb|hb
   ·obtain⟨h1,h2⟩:=hE b hb
    refine⟨?_,fun hO=>h2 (.inl hO)⟩
    rcases h1 with h1|h1
    ·exact (m.mine b (hown b h1)).1
    ·exact .inr (Nat.le_trans m.size h1)
   ·exact m.mine b (hrstown b hb)
  ·refine (hblk b (Nat.lt_of_lt_of_le h1 m.size) fun h=>?_).trans (m.block b h1 h2)
   rcases (m.mine b (hown b h)).1 with h3|h3
   ·exact h2 h3
   ·omega
  ·exact (Env.an_ext ⟨if_pos (m.jle j hj),if_pos (m.jle j hj)⟩).trans (m.anchor j hj)
  ·exact Rel.keep hH2.size hkeep hXold _ _ (Rel.ext hkk hext _ _ (m.slot t))
 exact⟨k2,r,H2,v,e'',hR,hres,Rel.keep (Nat.le_refl _) (fun _ _ _=>rfl) (fun b _ hy=>(hX'' b).1 hy) _ _ (Rel.back hβ hη hσ hdom2 r v hr1 hrel)⟩
theorem FnOk.use {f:FuncId} {args:List SV} {J kc:Nat} {Hc:Hp} {R:Nat→SV→Hp→Prop} (hc:FnOk Γ.dr Γ.P Γ.τ Γ.τok f args J kc Hc R) (ρ:Nat→Nat) (m:Models Γ k L H e a w) (hlA:SV.lowL kc args=true) (hKH:KnowsH ρ H Hc) (hl:Hp.low kc Hc=true)
  (hd:distinct (Hc.map fun p=>ρ p.1)=true) (hd':distinct (Hc.map (·.1))=true) (hJ:Nat.ble J kc=true) (hall:allIn J (Hc.map (·.1))=true) (vs:List Value) (hr:RelL (Γ.X e H) e w (SV.renL ρ args) vs)
  (hRr:∀ k2 r H2,R k2 r H2→r.rowsGe J=true∧Hp.rowsGe J H2=true) :
  Calls Γ.P f vs.toArray w (fun en w'=>∃ k2 r H2 v e'',R k2 r H2∧en = .returned v∧Models Γ (k + k2) L ((H2.map fun p=>(sig ρ J k p.1,p.2.ren (sig ρ J k)))++restOf H (Hc.map fun p=>ρ p.1)) e'' a w' ∧
   Rel (Γ.X e'' ((H2.map fun p=>(sig ρ J k p.1,p.2.ren (sig ρ J k)))++restOf H (Hc.map fun p=>ρ p.1))) e'' w' (r.ren (sig ρ J k)) v):=by
 exact (hc.g.use ρ m hlA hKH hl hd hd' hJ hall vs hr fun _ _ k2 r H2 h=>hRr k2 r H2 h.1).mono fun en w' ⟨k2,r,H2,v,e'',h,h1,h2⟩=>⟨k2,r,H2,v,e'',h.1,h.2,h1,h2⟩
end
end Go.Proofs.YtapciiffpnociabGreatDoor
namespace Go.Proofs.YtapciiffpnociabGreatDoor
open Go Go.RowKit
section
variable {Γ : Ctx} {k : Nat} {L : Sl} {H : Hp} {K : Next'} {ops : List Oper} {rest : List Oper} {a : Act} {w : World} {e : Env}
theorem ds_callO {f:FuncId} {xs:List Operand} {ts:Array TypeId} {ty:TypeId} {pos:String} {af:Array Edge} {g:Option (Nat × Bool)} {d:Nat} {args:List SV} {J kc:Nat} {Hc:Hp} {R:Nat→SV→Hp→Prop} (ρ:Nat→Nat)
  (hc:FnOk Γ.dr Γ.P Γ.τ Γ.τok f args J kc Hc R) (hw:wantedSV ops L g=some true) (ha:opsL L xs=SV.renL ρ args) (hok:opsOk xs=true) (hlA:SV.lowL kc args=true) (hKH:KnowsH ρ H Hc) (hl:Hp.low kc Hc=true)
  (hd:distinct (Hc.map fun p=>ρ p.1)=true) (hd':distinct (Hc.map (·.1))=true) (hJ:Nat.ble J kc=true) (hall:allIn J (Hc.map (·.1))=true) (hdn:Nat.blt d Γ.n=true)
  (hRr:∀ k2 r H2,R k2 r H2→r.rowsGe J=true∧Hp.rowsGe J H2=true)
  (hk:∀ k2 r H2,R k2 r H2→DS false Γ ops rest K (k + k2) ((d,r.ren (sig ρ J k))::L) ((H2.map fun p=>(sig ρ J k p.1,p.2.ren (sig ρ J k)))++restOf H (Hc.map fun p=>ρ p.1))) :
  DS false Γ ops (⟨some d,.call { callee:=.value (.func f),args:=xs.toArray,argTypes:=ts },ty,pos,af,g⟩::rest) K k L H:=by
 refine dl_run hw fun e a w m=>?_
 unfold Oper.wp
 rw [run_callOp hc.1]
 rw [Oper.upon_enter]
 refine (hc.use ρ m hlA hKH hl hd hd' hJ hall _ (ha▸opsL_rel m xs hok) hRr).mono ?_
 rintro en w' ⟨k2,r,H2,v,e'',hR,rfl,hm,hrel⟩
 exact⟨_,_,_,e'',hm.put (Nat.le_of_ble_eq_true hdn) hrel,hk k2 r H2 hR⟩
theorem run_callV {P:Program} {f:FuncId} (hc:callable P f=true) (a:Act) (x:Operand) (us:List Value) (hx:a.eval x = .func (.func f) #[] us.toArray) (xs:List Operand) (ts:Array TypeId) (dst:Option Tmp) (ty:TypeId) (pos) (after) (guard) (w:World) :
  (execOp a.eval ⟨dst,.call { callee:=.value x,args:=xs.toArray,argTypes:=ts },ty,pos,after,guard⟩).run P w = .ok (.enter f (xs.map a.eval++us).toArray) w:=by
 simp only [execOp,resolve]
 simp [hx,Deferred.ofValue,invoke,run_call hc]
theorem ds_callV {f:FuncId} {x:Operand} {caps:List SV} {xs:List Operand} {ts:Array TypeId} {ty:TypeId} {pos:String} {af:Array Edge} {g:Option (Nat × Bool)} {d:Nat} {args:List SV} {R:SV→Prop}
  (hx:opSV L x = .fn f caps) (hxo:opOkB x=true) (hw:wantedSV ops L g=some true) (ha:opsL L xs++caps=args) (hc:FnP Γ.dr Γ.P Γ.τ Γ.τok f args R) (hok:opsOk xs=true) (hlow:SV.lowL 0 args=true) (hd:Nat.blt d Γ.n=true)
  (hk:∀ r,R r→DS false Γ ops rest K k ((d,r)::L) H) :
  DS false Γ ops (⟨some d,.call { callee:=.value x,args:=xs.toArray,argTypes:=ts },ty,pos,af,g⟩::rest) K k L H:=by
 refine dl_run hw fun e a w m=>?_
 have hr:=m.op x (opOkB_spec hxo)
 rw [hx] at hr
 obtain⟨us,hu,hru⟩:=hr
 unfold Oper.wp
 rw [run_callV hc.1 a x us hu]
 rw [Oper.upon_enter]
 refine (hc.use (τ:=Γ.τ) (τok:=Γ.τok) (Γ:=Γ) m hlow _ (ha▸RelL.append _ _ _ _ (opsL_rel m xs hok) hru)).mono ?_
 rintro en w' ⟨r,v,hR,rfl,hb,hlr,hrel⟩
 exact⟨k,_,H,e,(m.below hb).put (Nat.le_of_ble_eq_true hd) (Rel.keep (Nat.le_refl _) (fun _ _ _=>rfl) (fun _ _ hy=>hy) _ _ hrel),hk r hR⟩
theorem ds_callVO {f:FuncId} {x:Operand} {caps:List SV} {xs:List Operand} {ts:Array TypeId} {ty:TypeId} {pos:String} {af:Array Edge} {g:Option (Nat × Bool)} {d:Nat} {args:List SV} {J kc:Nat} {Hc:Hp} {R:Nat→SV→Hp→Prop} (ρ:Nat→Nat)
  (hc:FnOk Γ.dr Γ.P Γ.τ Γ.τok f args J kc Hc R) (hx:opSV L x = .fn f caps) (hxo:opOkB x=true) (hw:wantedSV ops L g=some true) (ha:opsL L xs++caps=SV.renL ρ args) (hok:opsOk xs=true) (hlA:SV.lowL kc args=true) (hKH:KnowsH ρ H Hc) (hl:Hp.low kc Hc=true)
  (hd:distinct (Hc.map fun p=>ρ p.1)=true) (hd':distinct (Hc.map (·.1))=true) (hJ:Nat.ble J kc=true) (hall:allIn J (Hc.map (·.1))=true) (hdn:Nat.blt d Γ.n=true)
  (hRr:∀ k2 r H2,R k2 r H2→r.rowsGe J=true∧Hp.rowsGe J H2=true)
  (hk:∀ k2 r H2,R k2 r H2→DS false Γ ops rest K (k + k2) ((d,r.ren (sig ρ J k))::L) ((H2.map fun p=>(sig ρ J k p.1,p.2.ren (sig ρ J k)))++restOf H (Hc.map fun p=>ρ p.1))) :
  DS false Γ ops (⟨some d,.call { callee:=.value x,args:=xs.toArray,argTypes:=ts },ty,pos,af,g⟩::rest) K k L H:=by
 refine dl_run hw fun e a w m=>?_
 have hr:=m.op x (opOkB_spec hxo)
 rw [hx] at hr
 obtain⟨us,hu,hru⟩:=hr
 unfold Oper.wp
 rw [run_callV hc.1 a x us hu]
 rw [Oper.upon_enter]
 refine (hc.use ρ m hlA hKH hl hd hd' hJ hall _ (ha▸RelL.append _ _ _ _ (opsL_rel m xs hok) hru) hRr).mono ?_
 rintro en w' ⟨k2,r,H2,v,e'',hR,rfl,hm,hrel⟩
 exact⟨_,_,_,e'',hm.put (Nat.le_of_ble_eq_true hdn) hrel,hk k2 r H2 hR⟩
end
end Go.Proofs.YtapciiffpnociabGreatDoor
namespace Go.Proofs.YtapciiffpnociabGreatDoor
open Go Go.RowKit
section
variable {Γ : Ctx} {k : Nat} {L : Sl} {H : Hp} {K : Next'} {ops : List Oper} {rest : List Oper} {a : Act} {w : World} {e : Env}
end
section
variable {Γ : Ctx} {k : Nat → Prop} {L : Sl} {H : Hp} {K : Next'} {ops : List Oper} {rest : List Oper} {a : Act} {w : World} {e : Env}
theorem ev_indexByte {f : FuncId} {fn : Func} {x y : Operand} {ts : Array TypeId} {ty : TypeId} {s : ByteArray} {c : Int} (hf : Γ.P.funcs[f]? = some fn) (hname : (fn.name == "runtime.NumGoroutine") = false)
  (hb:fn.body.isNone=true) (hn:Extern.findNext fn=none) (he:Extern.find fn=some Extern.BytealgIndexByte.indexByte)
  (hx:opSV L x = .d (.str s)) (hxo:opOkB x=true) (hy:opSV L y = .d (.int .u8 c)):Ev Γ k L H (.call { callee:=.value (.func f),args:=#[x,y],argTypes:=ts }) ty (.d (.int .i64 (firstIdx s c.toNat.toUInt8))):=by
 intro e a w m
 have hs:s.size≤maxLen:=by
  have hr:=m.op x (opOkB_spec hxo)
  rw [hx] at hr
  generalize a.eval x=v at hr
  cases hr;assumption
 refine⟨.int .i64 (firstIdx s c.toNat.toUInt8),fun dst pos after guard w' _=>?_,.int ?_⟩
 ·have h:=run_callFunc_extern (P:=Γ.P) hf hname hb hn he #[.string s,.int .u8 c] w'
  rw [run_indexByte_string] at h
  simp [execOp,resolve,Deferred.ofValue,invoke,evS m hx,evI m hy]
  exact h
 ·unfold firstIdx
  have hm:maxLen=9223372036854775807:=rfl
  split
  ·rename_i i hi
   have:=List.mem_of_find?_eq_some hi
   rw [List.mem_range] at this
   exact WalkArith.wf_i64 (by omega)
  ·rfl
theorem ev_makeFunc {f:FuncId} {xs:List Operand} {caps:List SV} {ty:TypeId} (ha:opsL L xs=caps) (hok:opsOk xs=true):Ev Γ k L H (.makeFunc (.func f) #[] xs.toArray) ty (.fn f caps):=by
 intro e a w m
 refine⟨.func (.func f) #[] (xs.map a.eval).toArray,fun _ _ _ _ w' _=>?_,⟨_,rfl,ha▸opsL_rel m xs hok⟩⟩
 simp [execOp,Instr.makeFunc]
end
end Go.Proofs.YtapciiffpnociabGreatDoor
