/- Several texts in one: GxRng GxItr RelV RelX RelB RelC RelM RelY DagA. Condition: none. -/
import Derived.Test.YtapciiffpnociadGreatT09
import Derived.Test.YtapciiffpnociadGreatT11
import Derived.Test.YtapciiffpnociadGreatT10
import Derived.Test.YtapciiffpnociadGreatT02
set_option maxHeartbeats 8000000
open Array renaming getD_eq_getD_getElem?→Da
open Bool renaming and_eq_true→Ae
open List renaming append_nil→Bt,flatten_append→G1,getElem?_eq_getElem→Ad,getElem?_map→Bg,getElem_mem→Aj,length→Bv,length_append→Af,length_filter_le→C9,length_flatten→G0,length_map→Aa,length_take→Aq,map_append→Ar,mem_cons_self→Ac,sum_append→E9,take_append_drop→Ds,take_of_length_le→Ai,take_succ_eq_append_getElem→An
open Nat renaming le_refl→Ah,le_trans→A5,lt_of_lt_of_le→A0,ne_of_beq_eq_false→B0,zero_le→Ak
namespace Go.Proofs.YtapciiffpnociadGreat
section
open Go Go.RowKit
def SeqD (P:Program) (gf:FuncId) (caps:List SV) (xs:List (List SV)):Prop :=
 fj P gf=true /\
 ∀ (X:Nat->Prop) (e:Env) (W0:World) (lb:List Value) (l:Nat) (J:Nat->World->Prop) (Jx:World->Prop),
  (∀ b,X b->b<W0.heap.size)->RelL X e W0 caps lb->J 0 W0 ->
  (∀ i W,J i W->W0.heap.size<=W.heap.size/\∀ b,b<W0.heap.size->¬ X b->W.heap[b]?=W0.heap[b]?) ->
  (∀ i W W',J i W->Below W.heap.size W W'->J i W')->(∀ W W',Jx W->Below W.heap.size W W'->Jx W') ->
  (∀ (i:Nat) (h:i<xs.length) W1 W vs,J i W1->Below W1.heap.size W1 W->(∃ e',RelL (λb=>b<W1.heap.size/\(X b∨W0.heap.size<=b)) e' W (xs[i]) vs) ->
   ∃ r:Loop,W.heap[l]?=some (Obj.loop r)/\vs.toArray.size=r.params.size /\
    RoundIn Fence.wide 0 P l r.fn ((r.params.zip vs.toArray).foldl (λt (p,v)=>t.setIfInBounds p v) r.tmps) r.assign r.body W
     (λen W'=>(en = .returned (.bool true)/\J (i+1) W')∨(en = .returned (.bool false)/\Jx W'))) ->
  Calls P gf (#[.func (.yield l) #[] #[]]++lb.toArray) W0 (λen W'=>(∃ v,en = .returned v)/\(J xs.length W'∨Jx W'))
theorem Heap.rebase {Γ:Ctx} {k:Nat->Prop} {H:Hp} {e:Env} {w w2:World} (h:Heap Γ k H e w) (hs:w.heap.size<=w2.heap.size) (hk:KeepsCells w w2) {n J:Nat} {rd pan mk} (hJ:∀ j,j<J->k j) :
  Heap ⟨Γ.P,Γ.τ,Γ.τok,Γ.O,w2,λb=>b∈ah e H,n,J,e.an,rd,pan,mk,false⟩ k H e w2 where
 top:=h.top
 heap p hp:=⟨(h.heap p hp).1,HRel.turned hs hk p (h.heap p hp).2⟩
 ids:=h.ids
 nodup:=h.nodup
 mine b hb:=⟨.inl hb,(h.mine b hb).2⟩
 os:=rfl
 tape:=rfl
 output:=rfl
 drawn h:=nomatch h
 size:=Ah _
 block _ _ _:=rfl
 obound b hb:=⟨A0 (h.obound b hb).1 (A5 h.size hs),λho=>(h.mine b ho).2 hb⟩
 jle:=hJ
 anchor _ _:=rfl
theorem Heap.debase {Γ:Ctx} [NoDr Γ] {k k2:Nat->Prop} {H H2:Hp} {e e2:Env} {w wb w2:World} {E:Nat->Prop} {n J:Nat} {rd pan mk} (h:Heap Γ k H e w) (hs:w.heap.size<=wb.heap.size) (hos:wb.os=w.os) (ht:wb.tape=w.tape) (ho:wb.output=w.output)
  (hb:∀ b,b<Γ.w0.heap.size->¬ Γ.E0 b->wb.heap[b]?=w.heap[b]?)
  (h2:Heap ⟨Γ.P,Γ.τ,Γ.τok,Γ.O,wb,E,n,J,e.an,rd,pan,mk,false⟩ k2 H2 e2 w2) (hE:∀ b,E b->Γ.E0 b∨Γ.w0.heap.size<=b) (hJ:Γ.J<=J):Heap Γ k2 H2 e2 w2 where
 top:=h2.top
 heap:=h2.heap
 ids:=h2.ids
 nodup:=h2.nodup
 mine b hb2:=⟨(h2.mine b hb2).1.elim (hE b) λhx=>.inr (A5 h.size (A5 hs hx)),(h2.mine b hb2).2⟩
 os:=h2.os.trans (hos.trans h.os)
 tape:=h2.tape.trans (ht.trans h.tape)
 output:=h2.output.trans (ho.trans h.output)
 drawn:=NoDr.any
 size:=A5 h.size (A5 hs h2.size)
 block b h3 h4:=(h2.block b (A0 h3 (A5 h.size hs)) λhx=>(hE b hx).elim h4 λh5=>by omega).trans ((hb b h3 h4).trans (h.block b h3 h4))
 obound:=h.obound
 jle j hj:=h2.jle j (A0 hj hJ)
 anchor j hj:=(h2.anchor j (A0 hj hJ)).trans (h.anchor j hj)
mutual
def SV.stab:SV->Bool
 | .row _=>false
 | .prow _ _ _ _=>false
 | .rsl _ _ _ _=>false
 | .fn _ caps=>SV.stabL caps
 | .agg ss=>SV.stabL ss
 | .tup ss=>SV.stabL ss
 | .junk=>true
 | .d _=>true
 | .nils=>true
 | .pd _=>true
 | .loc _ _=>true
 | .mp _=>true
 | .md _ _=>true
 | .sl _ _ _ _=>true
 | .val _=>true
def SV.stabL:List SV->Bool
 | []=>true
 | s::ss=>SV.stab s && SV.stabL ss
end
mutual
theorem Rel.stab {X:Nat->Prop} {e e':Env} {w:World} (h:∀ i,e.dom i->e'.dom i/\e'.β i=e.β i):∀ (s:SV) (v:Value),s.stab=true->Rel X e w s v->Rel X e' w s v
 | .junk,_,_,_=>trivial
 | .d _,_,_,h=>h
 | .nils,_,_,h=>h
 | .pd _,_,_,h=>h
 | .loc i _,_,_,⟨h1,h2⟩=>⟨(h i h1).1,by rw [(h i h1).2];exact h2⟩
 | .mp i,_,_,⟨h1,h2⟩=>⟨(h i h1).1,by rw [(h i h1).2];exact h2⟩
 | .md _ _,_,_,h=>h
 | .sl i _ _ _,_,_,⟨h1,h2⟩=>⟨(h i h1).1,by rw [(h i h1).2];exact h2⟩
 | .row _,_,hb,_=>nomatch hb
 | .prow _ _ _ _,_,hb,_=>nomatch hb
 | .rsl _ _ _ _,_,hb,_=>nomatch hb
 | .fn _ caps,_,hb,⟨vs,h1,h2⟩=>⟨vs,h1,RelL.stab h caps vs hb h2⟩
 | .agg ss,_,hb,⟨vs,h1,h2⟩=>⟨vs,h1,RelL.stab h ss vs hb h2⟩
 | .tup ss,_,hb,⟨vs,h1,h2⟩=>⟨vs,h1,RelL.stab h ss vs hb h2⟩
 | .val _,_,_,h=>h
theorem RelL.stab {X:Nat->Prop} {e e':Env} {w:World} (h:∀ i,e.dom i->e'.dom i/\e'.β i=e.β i):∀ (ss:List SV) (vs:List Value),SV.stabL ss=true->RelL X e w ss vs->RelL X e' w ss vs
 | [],[],_,_=>trivial
 | [],_::_,_,h=>h.elim
 | _::_,[],_,h=>h.elim
 | s::ss,v::vs,hb,hr=>by
  simp only [SV.stabL,Ae] at hb
  exact⟨Rel.stab h s v hb.1 hr.1,RelL.stab h ss vs hb.2 hr.2⟩
end
def keptB (L:Sl):Sl->Bool
 | []=>true
 | (_,s)::r=>s.stab && keptB L r
def Kepts (L:Sl):Sl->Prop
 | []=>True
 | (t,s)::r=>Sl.get L t=s/\Kepts L r
theorem kept_get {L:Sl}:∀ (L':Sl),Kepts L L'->keptB L L'=true->∀ t,L'.get t = .junk∨(L'.get t=L.get t/\(L.get t).stab=true)
 | [],_,_,_=>.inl rfl
 | (d,s)::r,⟨h1,h2⟩,hb,t=>by
  simp only [keptB,Ae] at hb
  rw [Sl.get_cons]
  split
  ·rename_i hd;subst hd;exact .inr ⟨h1.symm,h1.symm▸hb.1⟩
  ·exact kept_get r h2 hb.2 t
def params:List Nat->List SV->Sl->Sl
 | p::ps,s::ss,L=>params ps ss ((p,s)::L)
 | _,_,L=>L
theorem params_slot {X e w}:∀ (ps:List Nat) (ss:List SV) (vs:List Value) (L:Sl) (tmps:Array Value),ps.length=ss.length->(∀ p∈ps,p<tmps.size)->RelL X e w ss vs->(∀ t,Rel X e w (L.get t) (tmps.getD t undef)) ->
  ∀ t,Rel X e w ((params ps ss L).get t) (((ps.zip vs).foldl (λt (q:Nat×Value)=>t.setIfInBounds q.1 q.2) tmps).getD t undef)
 | [],[],[],L,tmps,_,_,_,h,t=>h t
 | [],_::_,_,_,_,hl,_,_,_,_=>by simp at hl
 | _::_,[],_,_,_,hl,_,_,_,_=>by simp at hl
 | _,[],_::_,_,_,_,_,hr,_,_=>hr.elim
 | _,_::_,[],_,_,_,_,hr,_,_=>hr.elim
 | p::ps,s::ss,v::vs,L,tmps,hl,hp,⟨h1,h2⟩,h,t=>by
  refine params_slot ps ss vs ((p,s)::L) (tmps.setIfInBounds p v) (by simpa using hl) (λq hq=>by rw [Array.size_setIfInBounds];exact hp q (List.mem_cons_of_mem _ hq)) h2 (λt=>?_) t
  have:=hp p (Ac ..)
  rw [Sl.get_cons]
  simp only [Da,Array.getElem?_setIfInBounds]
  split
  ·rename_i hd;subst hd;simp;exact h1
  ·have:=h t;rwa [Da] at this
theorem foldl_size:∀ (l:List (Nat×Value)) (tmps:Array Value),(l.foldl (λt (q:Nat×Value)=>t.setIfInBounds q.1 q.2) tmps).size=tmps.size
 | [],_=>rfl
 | q::l,tmps=>by rw [List.foldl_cons,foldl_size l];simp
def roundD {ι:Type} (Γ:Ctx) (next:ι->Prop) (I:ι->Nat×Hp) (Ls:Sl) (Q:gh):gh:=λex k L H=>match ex with
 | .normal=>∃ y,next y/\Ent Γ k L H (I y).1 [] (I y).2
 | .ret=>∃ k2 H2,Ent Γ k L H k2 [] H2/\Q .ret k2 Ls H2
 | _=>False
theorem Heap.widen {Γ:Ctx} {k:Nat->Prop} {H:Hp} {e:Env} {w:World} {l:Nat} (h:Heap Γ k H e w) (hl:¬ Γ.O l):Heap ⟨Γ.P,Γ.τ,Γ.τok,Γ.O,Γ.w0,λb=>Γ.E0 b∨b=l,Γ.n,Γ.J,Γ.β0,Γ.rd,Γ.pan,Γ.mks,Γ.dr⟩ k H e w where
 top:=h.top
 heap:=h.heap
 ids:=h.ids
 nodup:=h.nodup
 mine b hb:=⟨(h.mine b hb).1.imp .inl id,(h.mine b hb).2⟩
 os:=h.os
 tape:=h.tape
 output:=h.output
 drawn:=h.drawn
 size:=h.size
 block b h1 h2:=h.block b h1 λh=>h2 (.inl h)
 obound b hb:=⟨(h.obound b hb).1,λhx=>hx.elim (h.obound b hb).2 λhx=>hl (hx▸hb)⟩
 jle:=h.jle
 anchor:=h.anchor
theorem Heap.narrow {Γ:Ctx} {k:Nat->Prop} {H:Hp} {e:Env} {w:World} {l:Nat} (h:Heap ⟨Γ.P,Γ.τ,Γ.τok,Γ.O,Γ.w0,λb=>Γ.E0 b∨b=l,Γ.n,Γ.J,Γ.β0,Γ.rd,Γ.pan,Γ.mks,Γ.dr⟩ k H e w) (hl:l ∉ ah e H) (hb:w.heap[l]?=Γ.w0.heap[l]?):Heap Γ k H e w where
 top:=h.top
 heap:=h.heap
 ids:=h.ids
 nodup:=h.nodup
 mine b hm:=⟨(h.mine b hm).1.elim (λhx=>hx.elim .inl λhx=>absurd (hx▸hm) hl) .inr,(h.mine b hm).2⟩
 os:=h.os
 tape:=h.tape
 output:=h.output
 drawn:=h.drawn
 size:=h.size
 block b h1 h2:=by
  by_cases hbl:b=l
  ·subst hbl;exact hb
  ·exact h.block b h1 λh=>h.elim h2 hbl
 obound b hb:=⟨(h.obound b hb).1,λhx=>(h.obound b hb).2 (.inl hx)⟩
 jle:=h.jle
 anchor:=h.anchor
theorem Heap.owned_loop {Γ:Ctx} {k:Nat->Prop} {H:Hp} {e:Env} {w:World} (h:Heap Γ k H e w) {r:Nat} {o:Loop} (hr:w.heap[r]?=some (Obj.loop o)):r ∉ ah e H:=by
 intro hb;obtain⟨o,h1,h2⟩:=h.owned_cells hb;rw [hr] at h1;cases h1;cases h2
set_option maxHeartbeats 1000000 in
theorem dw_range {P:Program} {τ:List (Nat×TI)} {τok:dz P τ} {O:Nat->Prop} {w0:World} {E0:Nat->Prop} {N J:Nat} {β0:Nat->Nat×Value} {pan:Pan} {k:Nat} {L:Sl} {H:Hp} {Q:gh}
  {g:Operand} {ps:List Tmp} {assign body:Code} {gf:FuncId} {caps:List SV} (xs:List (List SV)) (hg:ap L g = .fn gf caps) (hgo:dh g=true) (hseq:SeqD P gf caps xs)
  (hps:∀ x∈xs,ps.length=x.length/\SV.lowL 0 x=true) (hpN:∀ p∈ps,p<N) (Ls:Sl) (hL1:Kepts L Ls) (hL2:keptB L Ls=true)
  {ι:Type} (I:Nat->ι->Nat×Hp) (pre:Nat->ι->Prop) (x0:ι) (p0:pre 0 x0) (hI0:I 0 x0=(k,H))
  (hbody:∀ (i:Nat) (hi:i<xs.length) x,pre i x->∀ O' w' E' β' l,DW ⟨P,τ,τok,O',w',E',N,k,β',some l,dl,false,false⟩ assign (λex k2 L2 H2=>ex = .normal/\∀ O' w' E' β',DW ⟨P,τ,τok,O',w',E',N,k,β',some l,dl,false,false⟩ body
   (roundD ⟨P,τ,τok,O',w',E',N,k,β',some l,dl,false,false⟩ (pre (i+1)) (I (i+1)) Ls Q) k2 L2 H2) (I i x).1 (params ps (xs[i]) Ls) (I i x).2)
  (hdone:∀ y,pre xs.length y->Q .normal (I xs.length y).1 Ls (I xs.length y).2) :
  DW ⟨P,τ,τok,O,w0,E0,N,J,β0,none,pan,true,false⟩ (.rangeFunc g ps.toArray assign body) Q k L H:=by
 intro e a W m;obtain⟨hcall,hseq⟩:=hseq;have hgr:=m.op g (ce hgo);rw [hg] at hgr;obtain⟨lb,hgv,hlb⟩:=hgr;show (Code.rangeFunc g ps.toArray assign body).wpIn Fence.wide 0 P _ a W;refine wpIn_rangeFunc ?_;intro fn _;obtain⟨rec,hrec⟩:∃ rec:LoopState->Option Code->Loop,rec=λst pe=>{ state:=st,pending:=pe,fn,tmps:=a.tmps,params:=ps.toArray,assign,body,defers:=W.heap.size }:=⟨_,rfl⟩
 obtain⟨W1,hW1⟩:∃ W1,(W.alloc (.deferred (some []))).alloc (.loop (rec .ready none))=W1:=⟨_,rfl⟩;have hD1:W1.heap[W.heap.size]?=some (Obj.deferred (some [])):=by
  rw [<- hW1];exact (Below.heap_alloc _ _ _ (by simp)).trans (World.alloc_heap_new W _)
 obtain⟨l,hl⟩:∃ l,l=W.heap.size+1:=⟨_,rfl⟩;have hL1':W1.heap[l]?=some (Obj.loop (rec .ready none)):=by
  rw [<- hW1,hl];have:=World.alloc_heap_new (W.alloc (.deferred (some []))) (.loop (rec .ready none));rwa [World.size_alloc] at this
 have hb1:Below W.heap.size W W1:=by
  rw [<- hW1];exact ((Below.refl _ W).alloc (Ah _) _).alloc (by simp) _
 have hsz1:W1.heap.size=W.heap.size+2:=by rw [<- hW1];simp
 have hk1:KeepsCells W W1:=λb o _ hb=>(hb1.block b (dn hb)).trans hb
 refine⟨W.heap.size+1,[{ target:=.collected W.heap.size,args:=#[] }],W1,{ target:=.fn (.func gf) lb.toArray,args:=#[.func (.yield (W.heap.size+1)) #[] #[]] },W1,gf,
  #[.func (.yield (W.heap.size+1)) #[] #[]]++lb.toArray,W1,?_,?_,λ_ _=>trivial,?_,ms (ro:=none),?_⟩
 ·rw [<- hW1,hrec];exact run_enterLoop_outer _ _ _ _ _
 ·simp only [resolve,hgv];simp [go_sem]
 ·simp [invoke,go_sem,wq hcall]
 rw [<- hl];refine callsIn_wide.2 ?_;let Γ1:Ctx:=⟨P,τ,τok,O,W1,λb=>b∈ah e H,N,k,e.an,none,pan,true,false⟩
 have hH1:Heap Γ1 k H e W1:=m.toHeap.rebase hb1.size hk1 (λj hj=>hj);have hlO:¬ O l:=λhO=>by have h1:=(m.obound l hO).1;have h2:=m.size;simp only at h1 h2;omega
 let Γx:Ctx:=⟨P,τ,τok,O,W1,λb=>b∈ah e H∨b=l,N,k,e.an,none,pan,true,false⟩
 let X:Nat->Prop:=λb=>O b∨b∈ah e H
 have hXlt:∀ b,X b->b<W.heap.size:=λb hb=>hb.elim (λh=>A0 (m.obound b h).1 m.size) (m.lt b)
 have hlown:l ∉ ah e H:=λh=>by have:=m.lt l h;omega
 have hslots:∀ (k':Nat) (H':Hp) (e':Env) (W':World),Heap Γx k' H' e' W'->∀ t,Rel (Ctx.X Γx e' H') e' W' (Ls.get t) (a.tmps.getD t undef):=by
  intro k' H' e' W' h t;rcases kept_get Ls hL1 hL2 t with h1|⟨h1,h2⟩
  ·rw [h1];trivial
  ·rw [h1];have hdom:∀ i,e.dom i->e'.dom i/\e'.β i=e.β i:=λi hi=>⟨(h.top i).2 (h.jle i ((m.top i).1 hi)),Env.an_β (h.anchor i ((m.top i).1 hi))⟩
   refine Rel.keep (X:=X) (w:=W) (A5 hb1.size h.size) (λb hb hx=>?_) (λb hb hx=>?_) _ _ (Rel.stab hdom _ _ h2 (m.slot t))
   ·have hb':b<W1.heap.size:=by omega
    exact (h.block b hb' λhE=>hE.elim (λhE=>hx (.inr hE)) λhE=>by omega).trans (hb1.block b hb)
   ·rcases hx with hx|hx
    ·exact .inl hx
    ·rcases (h.mine b hx).1 with h3|h3
     ·exact h3.elim .inr λh3=>by omega
     ·have h3:W1.heap.size<=b:=h3;omega
 have hnarrow:∀ (k':Nat) (H':Hp) (e':Env) (W':World),Heap Γx k' H' e' W'->W'.heap[l]?=some (Obj.loop (rec .ready none))->Heap Γ1 k' H' e' W':=λk' H' e' W' h hlw =>
  Heap.narrow (Γ:=Γ1) (l:=l) h (h.owned_loop hlw) (hlw.trans hL1'.symm)
 have hlive:∀ (k':Nat) (H':Hp) (e':Env) (W':World),Heap Γ1 k' H' e' W'->W'.heap[l]?=some (Obj.loop (rec .ready none)):=λk' H' e' W' h =>
  (h.block l (by show l<W1.heap.size;omega) hlown).trans hL1'
 have hend:∀ (ex:Exit) (k':Nat) (H':Hp) (e':Env) (W':World) (o o':Loop),Heap Γx k' H' e' W'->W'.heap[l]?=some (Obj.loop o)->Q ex k' Ls H' ->
   vh ⟨P,τ,τok,O,w0,E0,N,J,β0,none,pan,true,false⟩ Q ex { a with defers:=[{ target:=.collected W.heap.size,args:=#[] }]++a.defers } (W'.putObj l (.loop o')):=by
  intro ex k' H' e' W' o o' h hlw hq;have hk:KeepsCells W' (W'.putObj l (.loop o')):=ng hlw rfl;have hx:Heap Γx k' H' e' (W'.putObj l (.loop o')):=h.turned (by simp) hk rfl rfl rfl rfl λb _ hE=>World.putObj_heap_other λhbl=>hE (.inr hbl)
  refine .inl ⟨k',Ls,H',e',⟨?_,?_,m.len,hslots _ _ _ _ hx⟩,hq⟩
  ·refine m.toHeap.debase hb1.size hb1.os hb1.tape hb1.output (λb hb _=>hb1.block b (A0 hb m.size)) (show Heap ⟨P,τ,τok,O,W1,λb=>b∈ah e H∨b=l,N,k,e.an,none,pan,true,false⟩ k' H' e' (W'.putObj l (.loop o')) from hx) (λb hb=>?_) ?_
   ·rcases hb with hb|hb
    ·exact (m.mine b hb).1
    ·exact .inr (by have:=m.size;simp only at this ⊢;omega)
   ·rcases Nat.eq_zero_or_pos J with hJ|hJ
    ·simp only;omega
    ·have:=m.jle (J-1) (by simp only;omega)
     have h3:J-1<k:=this;simp only;omega
  ·obtain⟨rs,h1,_,h2,h3⟩:=m.defers;have hold:∀ r,r<W.heap.size->r ∉ ah e H->(W'.putObj l (.loop o')).heap[r]?=W.heap[r]?:=λr hr hn =>
    (hx.block r (by show r<W1.heap.size;omega) λhE=>hE.elim hn λhE=>by omega).trans (hb1.block r hr)
   refine⟨W.heap.size::rs,?_,λh=>(nomatch h),?_,?_⟩
   ·show [_]++a.defers=_;rw [h1];rfl
   ·refine List.nodup_cons.2 ⟨λhm=>?_,h2⟩;have:=dn (h3 _ hm).2
    omega
   ·intro r hr;rcases List.mem_cons.1 hr with rfl|hr
    ·refine⟨m.size,?_⟩
     exact (hx.block _ (by show _<W1.heap.size;omega) λhE=>hE.elim (λhE=>by have:=m.lt _ hE;omega) λhE=>by omega).trans hD1
    ·refine⟨(h3 r hr).1,(hold r (dn (h3 r hr).2) λho=>m.owned_mark (h3 r hr).2 ho).trans (h3 r hr).2⟩
 have hb0:=hseq X e W1 lb l (λi W'=>∃ x,pre i x/\∃ e',Heap Γ1 (I i x).1 (I i x).2 e' W')
  (λW'=>W'.heap[l]?=some (Obj.loop (rec .done (some .ret)))/\∃ k2 H2 e',Heap Γx (lo k2) H2 e' W'/\Q .ret k2 Ls H2)
  (λb hb=>by have:=hXlt b hb;omega)
  (RelL.keep hb1.size (λb hb _=>hb1.block b hb) (λb hb hx=>hx) _ _ hlb)
  ⟨x0,p0,e,by rw [hI0];exact hH1⟩
  (λi W' ⟨x,_,e',h⟩=>⟨h.size,λb hb hx=>h.block b hb λhE=>hx (.inr hE)⟩)
  (λi W' W'' ⟨x,hp,e',h⟩ hb=>⟨x,hp,e',h.below (Beld.no hb)⟩)
  (λW' W'' ⟨h1,k2,H2,e',h2,h3⟩ hb=>⟨(hb.block l (dn h1)).trans h1,k2,H2,e',h2.below (Beld.no hb),h3⟩)
  ?_
 ·refine hb0.mono ?_;rintro en W2 ⟨⟨v,rfl⟩,⟨x,hp,e',h⟩|⟨h1,k2,H2,e',h2,h3⟩⟩
  ·have hlw:=hlive _ _ _ _ h;refine⟨none,W2.putObj l (.loop (rec .exhausted none)),?_,?_⟩
   ·have:=run_endLoop (P:=P) hlw (by rw [hrec];simp)
    rw [hrec] at this ⊢;exact this
   ·exact hend .normal _ _ _ _ _ _ (Heap.widen (Γ:=Γ1) (l:=l) h hlO) hlw (hdone x hp)
  ·refine⟨some .ret,W2.putObj l (.loop (rec .exhausted (some .ret))),?_,?_⟩
   ·have:=run_endLoop (P:=P) h1 (by rw [hrec];simp)
    rw [hrec] at this ⊢;exact this
   ·exact wpIn_ret (hend .ret _ _ _ _ _ _ h2 h1 h3)
 ·rintro i hi Wa Wb vs ⟨x,hp,e1,hh1⟩ hbl ⟨e',hvs⟩;have hhb:Heap Γ1 (lo (I i x).1) (I i x).2 e1 Wb:=hh1.below (Beld.no hbl);have hlw:=hlive _ _ _ _ hhb;have hvl:=RelL.length _ _ hvs;obtain⟨hpl,hxl⟩:=hps _ (Aj hi);refine⟨rec .ready none,hlw,by rw [hrec];simp;omega,?_⟩
  rw [hrec];refine roundIn_of_wpIn trivial ?_;show Code.wpIn (mz (some l)) 0 P assign _ _ _;have hdomb:∀ j,j<k->(lo (I i x).1) j:=λj hj=>hhb.jle j hj
  have hA:Heap ⟨P,τ,τok,O,Wb,λb=>b∈ah e1 (I i x).2,N,k,e1.an,some l,dl,false,false⟩ (lo (I i x).1) (I i x).2 e1 Wb:=hhb.rebase (Ah _) (λ_ _ _ h=>h) hdomb;have hhx:Heap Γx (lo (I i x).1) (I i x).2 e1 Wb:=Heap.widen (Γ:=Γ1) (l:=l) hhb hlO;have mA:Models ⟨P,τ,τok,O,Wb,λb=>b∈ah e1 (I i x).2,N,k,e1.an,some l,dl,false,false⟩ (lo (I i x).1) (params ps (xs[i]) Ls) (I i x).2 e1
    { tmps:=((ps.toArray.zip vs.toArray).foldl (λt (p,v)=>t.setIfInBounds p v) a.tmps),defers:=[] } Wb:=by
   have hz:(ps.toArray.zip vs.toArray).foldl (λt (p,v)=>t.setIfInBounds p v) a.tmps=(ps.zip vs).foldl (λt (q:Nat×Value)=>t.setIfInBounds q.1 q.2) a.tmps:=by
    rw [List.zip_toArray,List.foldl_toArray]
   refine⟨hA,Marks.nil,?_,?_⟩
   ·show Array.size _=N;rw [hz,foldl_size];exact m.len
   ·intro t;show Rel _ e1 Wb _ (Array.getD _ t undef);rw [hz];refine params_slot ps (xs[i]) vs Ls a.tmps hpl (λp hp=>by rw [m.len];exact hpN p hp) ?_ (hslots _ _ _ _ hhx) t;refine RelL.keep (Ah _) (λ_ _ _=>rfl) (λb _ hx=>?_) _ _ (RelL.env _ _ hxl hvs);rcases hx with hx|hx
    ·have h1:=(m.obound b hx).1;have h2:=m.size;have h3:=hh1.size;simp only at h1 h2;have h3:W1.heap.size<=Wa.heap.size:=h3;exact⟨by omega,.inl (.inl hx)⟩
    ·have h1:=hh1.lt b hx;refine⟨h1,?_⟩
     rcases (hh1.mine b hx).1 with h2|h2
     ·exact .inl (.inr h2)
     ·exact .inr h2
  refine wpIn_mono (hbody i hi x hp O Wb _ e1.an l e1 _ Wb mA) ?_;rintro ex a1 w1 (⟨k2,L2,H2,e2,m2,rfl,hB⟩|⟨_,_,_,_,_,_,hE,_⟩);rotate_left
  ·exact hE.elim
  have hlw1:w1.heap[l]?=some (Obj.loop (rec .ready none)):=(m2.block l (dn hlw) (hhb.owned_loop hlw)).trans hlw;have hx1:Heap Γx (lo k2) H2 e2 w1:=hhx.debase (wb:=Wb) (Ah _) rfl rfl rfl (λ_ _ _=>rfl) (show Heap ⟨P,τ,τok,O,Wb,λb=>b∈ah e1 (I i x).2,N,k,e1.an,some l,dl,false,false⟩ (lo k2) H2 e2 w1 from m2.toHeap) (λb hb=>(hhx.mine b hb).1) (Ah _);refine⟨w1.putObj l (.loop { rec .ready none with state:=.busy }),run_beginRound hlw1 (by rw [hrec]),?_⟩
  have hk2:KeepsCells w1 (w1.putObj l (.loop { rec .ready none with state:=.busy })):=ng hlw1 rfl;have hx2:Heap Γx (lo k2) H2 e2 (w1.putObj l (.loop { rec .ready none with state:=.busy })):=hx1.turned (by simp) hk2 rfl rfl rfl rfl λb _ hE=>World.putObj_heap_other λhbl=>hE (.inr hbl)
  generalize hw2:w1.putObj l (.loop { rec .ready none with state:=.busy })=w2 at hk2 hx2 ⊢;have hs12:w1.heap.size<=w2.heap.size:=by rw [<- hw2];simp
  have hlw2:w2.heap[l]?=some (Obj.loop { rec .ready none with state:=.busy }):=by rw [<- hw2];exact World.putObj_heap_same (dn hlw1)
  have hB2:Heap ⟨P,τ,τok,O,w2,λb=>b∈ah e2 H2,N,k,e2.an,some l,dl,false,false⟩ (lo k2) H2 e2 w2:=m2.toHeap.rebase hs12 hk2 (λj hj=>m2.jle j hj);have mB:Models ⟨P,τ,τok,O,w2,λb=>b∈ah e2 H2,N,k,e2.an,some l,dl,false,false⟩ (lo k2) L2 H2 e2 a1 w2:=by
   refine⟨hB2,?_,m2.len,λt=>Rel.turned hs12 hk2 _ _ (m2.slot t)⟩
   obtain⟨rs,h1,h0,_,_⟩:=m2.defers;rw [h1,h0 rfl];exact Marks.nil
  show Code.wpIn (mz (some l)) 0 P body _ _ _;refine wpIn_mono (hB _ _ _ _ e2 a1 w2 mB) ?_;have fin:∀ (k3:Nat) (H3:Hp) (e3:Env) (w3:World) (jump:Option Code),Heap ⟨P,τ,τok,O,w2,λb=>b∈ah e2 H2,N,k,e2.an,some l,dl,false,false⟩ k3 H3 e3 w3 ->
    (Instr.endRound l jump).run P w3 = .ok (.bool jump.isNone) (w3.putObj l (.loop (rec (if jump.isNone then .ready else .done) jump)))/\Heap Γx k3 H3 e3 (w3.putObj l (.loop (rec (if jump.isNone then .ready else .done) jump))) /\
    (w3.putObj l (.loop (rec (if jump.isNone then .ready else .done) jump))).heap[l]?=some (Obj.loop (rec (if jump.isNone then .ready else .done) jump)):=by
   intro k3 H3 e3 w3 jump h3;have hlw3:w3.heap[l]?=some (Obj.loop { rec .ready none with state:=.busy }):=(h3.block l (dn hlw2) (hx2.owned_loop hlw2)).trans hlw2;refine⟨?_,?_,World.putObj_heap_same (dn hlw3)⟩
   ·have:=run_endRound (P:=P) jump hlw3
    rw [hrec] at this ⊢;exact this
   ·have hx3:Heap Γx (lo k3) H3 e3 w3:=hx2.debase (wb:=w2) (Ah _) rfl rfl rfl (λ_ _ _=>rfl) (show Heap ⟨P,τ,τok,O,w2,λb=>b∈ah e2 H2,N,k,e2.an,some l,dl,false,false⟩ (lo k3) H3 e3 w3 from h3) (λb hb=>(hx2.mine b hb).1) (Ah _);exact hx3.turned (by simp) (ng hlw3 rfl) rfl rfl rfl rfl λb _ hE=>World.putObj_heap_other λhbl=>hE (.inr hbl)
  rintro ex a3 w3 (⟨k3,L3,H3,e3,m3,hq⟩|⟨_,_,_,_,_,_,hE,_⟩);rotate_left
  ·exact hE.elim
  cases ex with
  | normal =>
   obtain⟨y,hy,hent⟩:=hq;obtain⟨e4,m4⟩:=hent _ _ _ m3;obtain⟨f1,f2,f3⟩:=fin _ _ _ _ none m4.toHeap;exact⟨_,_,f1,.inl ⟨rfl,y,hy,e4,hnarrow _ _ _ _ f2 f3⟩⟩
  | ret =>
   obtain⟨k4,H4,hent,hq⟩:=hq;obtain⟨e4,m4⟩:=hent _ _ _ m3;obtain⟨f1,f2,f3⟩:=fin _ _ _ _ (some .ret) m4.toHeap;exact⟨_,_,f1,.inr ⟨rfl,(by rw [show (if (some Code.ret).isNone=true then LoopState.ready else LoopState.done)=LoopState.done from rfl] at f3 ⊢;rw [hrec] at f3 ⊢;exact f3),k4,H4,e4,f2,hq⟩⟩
  | exit id=>exact hq.elim
  | goto t=>exact hq.elim
  | panic ch=>exact hq.elim
  | outgrown=>exact hq.elim
end
section
open Go Go.RowKit
def SV.flat:SV->Bool
 | .val _=>true
 | .junk=>true
 | .d (.int _ _)=>true
 | .d (.bool _)=>true
 | _=>false
theorem Rel.flat {X e w X' e' w'}:∀ (s:SV) (v:Value),s.flat=true->Rel X e w s v->Rel X' e' w' s v
 | .val _,_,_,h=>h
 | .junk,_,_,_=>trivial
 | .d (.int _ _),_,_,h=>by
  have h':RepC _ _ _ _:=h
  cases h' with
  | int g=>exact RepC.int g
 | .d (.bool _),_,_,h=>by
  have h:RepC _ _ _ _:=h
  cases h
  exact RepC.bool
 | .d (.str _),_,h,_=>nomatch h
 | .d (.slice _ _),_,h,_=>nomatch h
 | .nils,_,h,_=>nomatch h
 | .pd _,_,h,_=>nomatch h
 | .loc _ _,_,h,_=>nomatch h
 | .row _,_,h,_=>nomatch h
 | .mp _,_,h,_=>nomatch h
 | .md _ _,_,h,_=>nomatch h
 | .prow _ _ _ _,_,h,_=>nomatch h
 | .sl _ _ _ _,_,h,_=>nomatch h
 | .rsl _ _ _ _,_,h,_=>nomatch h
 | .fn _ _,_,h,_=>nomatch h
 | .agg _,_,h,_=>nomatch h
 | .tup _,_,h,_=>nomatch h
def flatB:Sl->Bool
 | []=>true
 | (_,s)::r=>s.flat && flatB r
theorem flat_get:∀ {L:Sl},flatB L=true->∀ t,(L.get t).flat=true
 | [],_,_=>rfl
 | (d,s)::r,h,t=>by
  simp only [flatB,Ae] at h
  rw [Sl.get_cons]
  split
  ·exact h.1
  ·exact flat_get h.2 t
theorem kepts_get {L:Sl}:∀ {L':Sl},Kepts L L'->∀ t,L'.get t = .junk∨L'.get t=L.get t
 | [],_,_=>.inl rfl
 | (d,s)::r,h,t=>by
  rw [Sl.get_cons]
  split
  ·rename_i hd;subst hd;exact .inr h.1.symm
  ·exact kepts_get h.2 t
structure Flat (N:Nat) (L:Sl) (a:Act):Prop where
 len:a.tmps.size=N
 defers:a.defers=[]
 slot:∀ t X e w,Rel X e w (L.get t) (a.tmps.getD t undef)
abbrev Γit (P:Program) (τ:List (Nat×TI)) (τok:dz P τ) (O:Nat->Prop) (W:World) (N:Nat):Ctx:=⟨P,τ,τok,O,W,λ_=>False,N,0,λ_=>(0,undef),none,dl,false,false⟩
section
variable {P : Program} {τ : List (Nat×TI)} {τok : dz P τ} {O : Nat -> Prop} {N : Nat} {L : Sl}
theorem Flat.models {a:Act} (h:Flat N L a) (W:World) (hO:∀ b,O b->b<W.heap.size):Models (Γit P τ τok O W N) (lo 0) L [] ⟨λ_=>0,λ_=>undef,lo 0⟩ a W where
 top _:=Iff.rfl
 heap _ hp:=nomatch hp
 ids:=.nil
 nodup:=.nil
 mine _ hb:=nomatch hb
 os:=rfl
 tape:=rfl
 output:=rfl
 drawn h:=nomatch h
 size:=Ah _
 block _ _ _:=rfl
 obound b hb:=⟨hO b hb,id⟩
 jle _ hj:=nomatch hj
 anchor _ hj:=nomatch hj
 defers:=by rw [h.defers];exact Marks.nil
 len:=h.len
 slot t:=h.slot t _ _ _
theorem Models.flatten {W:World} {k:Nat->Prop} {H:Hp} {e:Env} {a:Act} {w:World} (m:Models (Γit P τ τok O W N) k L H e a w) {Ls:Sl} (hK:Kepts L Ls) (hf:flatB Ls=true):Flat N Ls a where
 len:=m.len
 defers:=by
  obtain⟨rs,h1,h0,_⟩:=m.defers;rw [h1,h0 rfl];rfl
 slot t X e' w':=by
  have hg:=flat_get hf t;rcases kepts_get hK t with h|h
  ·rw [h];trivial
  ·rw [h] at hg ⊢;exact Rel.flat _ _ hg (m.slot t)
theorem Heap.it_below {W:World} {k:Nat->Prop} {H:Hp} {e:Env} {w:World} (h:Heap (Γit P τ τok O W N) k H e w):Below W.heap.size W w:=⟨h.os,h.tape,h.output,h.size,λb hb=>h.block b hb id⟩
end
section
variable {Γ : Ctx} {k : Nat} {L : Sl} {H : Hp} {K : cy} {ops : List Oper} {rest : List Oper} {x y : Operand} {t ty : TypeId}
theorem ev_val {op:Op} {s:SV} (L2:Sl) (hm:∀ e a w,Models Γ (lo k) L H e a w->Models Γ (lo k) L2 H e a w) (h:Ev Γ (lo k) L2 H op ty s):Ev Γ (lo k) L H op ty s:=λe a w m=>h e a w (hm e a w m)
theorem Models.val_as {e:Env} {a:Act} {w:World} {k:Nat->Prop} (m:Models Γ k L H e a w) (t:Nat) {v:Value} {s:SV} (hv:L.get t = .val v) (hr:Rel (Γ.X e H) e w s v):Models Γ k ((t,s)::L) H e a w where
 toHeap:=m.toHeap
 defers:=m.defers
 len:=m.len
 slot t':=by
  rw [Sl.get_cons];split
  ·rename_i h;subst h;have h1:=m.slot t;rw [hv] at h1;have h1:a.tmps.getD t undef=v:=h1;rw [h1];exact hr
  ·exact m.slot t'
theorem ev_fa_val {s:TypeId} {f off fty sz b o:Nat} {l} (hs:Γ.sh s = .struct l) (hf:l[f]?=some (off,fty,sz)) (hz:Nat.beq sz 0=false) (t:Nat) (hx:L.get t = .val (.pointer (some ⟨b,o,none⟩))) :
  Ev Γ (lo k) L H (.fieldAddr s (.tmp t) f) ty (.val (.pointer (some ⟨b,o+off,none⟩))):=by
 obtain⟨fs,hu,hl⟩:=Ctx.struct hs;subst hl;rw [Bg] at hf;cases hff:fs.toList[f]? with
 | none=>rw [hff] at hf;cases hf
 | some fd =>
  rw [hff] at hf;simp only [Option.map_some,Option.some.injEq,Prod.mk.injEq] at hf;obtain⟨h1,h2,h3⟩:=hf;have hfa:fs[f]?=some fd:=by rw [<- Array.getElem?_toList];exact hff
  have hinf:∃ inf,Γ.P.info? fd.type=some inf/\inf.size≠0:=by
   cases hi:Γ.P.info? fd.type with
   | none=>rw [hi] at h3;exact absurd h3.symm (B0 hz)
   | some inf=>rw [hi] at h3;exact⟨inf,rfl,λh=>B0 hz (by rw [<- h3,<- h];rfl)⟩
  obtain⟨inf,hi,hne⟩:=hinf;intro e A w m;have hA:A.eval (.tmp t) = .pointer (some ⟨b,o,none⟩):=by
   have h1:=m.slot t;rw [hx] at h1;exact h1
  refine⟨_,λdst pos after guard w' _=>?_,rfl⟩
  simp [execOp,Instr.fieldAt,hA,run_underlying hu,hfa,Instr.sureAddr,fieldPlace,dv hi,hne,h1,Addr.add_at]
theorem ev_ld_val {b o:Nat} {u:Value} (t2:Nat) (hkn:(Γ.sh t).known=true) (hg:(Γ.sh t).isAgg=false) (hx:L.get t2 = .val (.pointer (some ⟨b,o,none⟩))) (hc:Γ.w0.cell? ⟨b,o,none⟩=some u) (hE:∀ b,¬ Γ.E0 b) :
  Ev Γ (lo k) L H (.load t (.tmp t2)) ty (.val u):=by
 intro e a w m;have ho:=Sh.known_ne hkn;have hv:a.eval (.tmp t2) = .pointer (some ⟨b,o,none⟩):=by
  have h1:=m.slot t2;rw [hx] at h1;exact h1
 have hb:b<Γ.w0.heap.size:=by
  unfold World.cell? at hc;split at hc
  ·rename_i hh;exact dn hh
  ·cases hc
 have hcw:w.cell? ⟨b,o,none⟩=some u:=(World.cell?_of_block (w:=Γ.w0) (m.block b hb (hE b))).trans hc;exact⟨u,λ_ _ _ _ w' hw=>yk ho hg hv (jn hw hcw) _ _ _ _,rfl⟩
theorem ev_len_val {t':TypeId} {ao:Option Addr} {n:Nat} {cap:Nat} (t2:Nat) (ht:Γ.sh t = .slice t') (hx:L.get t2 = .val (.slice ao n cap)) (hn:n<=maxLen):Ev Γ (lo k) L H (.call { callee:=.builtin .len,args:=#[.tmp t2],argTypes:=#[t] }) ty (.d (.int .i64 n)):=by
 intro e a w m;have hv:a.eval (.tmp t2) = .slice ao n cap:=by
  have h1:=m.slot t2;rw [hx] at h1;exact h1
 refine⟨.int .i64 n,λ_ _ _ _ w' _=>?_,.int (WalkArith.wf_i64 (by unfold maxLen at hn;omega))⟩
 simp [execOp,resolve,invoke,builtin,hv,Builtin.len_,goInt,run_underlying (Ctx.slice ht)]
end
theorem Oper.wp_in2 {ro:Option Nat} {P:Program} {o:Oper} {a:Act} {w:World} {K K':Act->World->Prop} {Q Q':Exit->Act->World->Prop} (hd:∀ c,o.op≠.defer c) (hK:∀ a w,K a w->K' a w)
  (hQ:∀ c a w,Q (.panic c) a w->Q' (.panic c) a w) (hL:¬ LetsOut Q) (h:o.wp P a w K Q):o.wpIn (mz ro) 0 P a w K' Q':=by
 refine⟨λ_ _=>trivial,?_⟩
 rw [Oper.semAt_eq _ _ _ hd];unfold Oper.wp at h;generalize (execOp a.eval o).run P w=r at h;cases r with
 | ok x w' =>
  cases x<;>simp only [Oper.upon,Oper.uponIn] at h ⊢<;>first
   | exact hK _ _ h
   | exact h.elim
   | exact⟨ms,z7 (h.mono λe w'' he=>by cases e<;>first|exact hK _ _ he|exact hQ _ _ _ he|exact absurd he hL)⟩
   | exact⟨ms,λc cs _=>let ⟨v,w'',r,s⟩:=h c cs;⟨v,w'',hK _ _ r,stepsIn_wide.2 s⟩⟩
 | halt x w'=>cases x<;>simp only [Oper.upon,Oper.uponIn] at h ⊢<;>first|exact hQ _ _ _ h|exact h
theorem th {ro:Option Nat} {P:Program} {ops:Array Oper} {Q Q':Exit->Act->World->Prop} (hQ:∀ c a w,Q (.panic c) a w->Q' (.panic c) a w) (hL:¬ LetsOut Q) (post:List Oper)
  (hn:∀ a w,Q .normal a w->wpListIn (mz ro) 0 P ops Q' post a w):∀ (l:List Oper),d6 l=true->∀ a w,wpList P ops Q l a w->wpListIn (mz ro) 0 P ops Q' (l++post) a w
 | [],_,a,w,h=>hn a w h
 | o::l,hd,a,w,h=>by
  have hd1:=pm hd o (Ac ..);have hd2:d6 l=true:=by simp only [d6,Ae] at hd;exact hd.2
  unfold wpList at h;show wpListIn (mz ro) 0 P ops Q' (o::(l++post)) a w;unfold wpListIn;split at h
  ·rename_i hw;rw [if_pos hw];rcases h with h|h
   ·exact Oper.wp_in2 hd1 (λa w=>th hQ hL post hn l hd2 a w) hQ hL h
   ·exact absurd h.2 hL
  ·rename_i hw;rw [if_neg hw];exact⟨λ_ _=>trivial,th hQ hL post hn l hd2 _ _ h⟩
def DWr (Γ:Ctx) (c:Code) (R:Exit->Act->World->Prop) (k:Nat) (L:Sl) (H:Hp):Prop:=∀ e a w,Models Γ (lo k) L H e a w->c.wpIn (mz Γ.rd) 0 Γ.P R a w
def rawQ (Γ:Ctx) (R:Exit->Act->World->Prop):gh:=λex k L H=>∀ e a w,Models Γ (lo k) L H e a w->R ex a w
section
variable {Γ : Ctx} {k : Nat} {L : Sl} {H : Hp} {R : Exit -> Act -> World -> Prop}
theorem dwr_of {c:Code} (hp:Γ.pan=dl) (h:DW Γ c (rawQ Γ R) k L H):DWr Γ c R k L H:=λe a w m=>wpIn_mono (h e a w m) (by
 rintro ex a' w' (⟨k',L',H',e',m',hq⟩|⟨v,_,_,_,_,_,hv,_⟩)
 ·exact hq _ _ _ m'
 ·rw [hp] at hv;exact hv.elim)
theorem dwr_seq {x y:Code} (hp:Γ.pan=dl) (h:DW Γ x (ef (DWr Γ y R) (rawQ Γ R)) k L H):DWr Γ (.seq x y) R k L H:=λe a w m=>by
 refine wpIn_seq (wpIn_mono (h e a w m) ?_)
 rintro ex a' w' (⟨k',L',H',e',m',hq⟩|⟨v,_,_,_,_,_,hv,_⟩)
 ·cases ex with
  | normal=>exact hq _ _ _ m'
  | _=>exact hq _ _ _ m'
 ·rw [hp] at hv;exact hv.elim
theorem dwr_run {c:Code} {e:Env} {a:Act} {w:World} (m:Models Γ (lo k) L H e a w) (h:DWr Γ c R k L H):c.wpIn (mz Γ.rd) 0 Γ.P R a w:=h e a w m
theorem dw_run {Q:gh} {c:Code} {e:Env} {a:Act} {w:World} (m:Models Γ (lo k) L H e a w) (h:DW Γ c Q k L H):c.wpIn (mz Γ.rd) 0 Γ.P (vh Γ Q) a w:=h e a w m
end
section
variable {Γ : Ctx} {k : Nat} {L : Sl} {H : Hp} {R : Exit -> Act -> World -> Prop}
theorem dwr_seqR {x y:Code} (h:DWr Γ x (Exit.then (y.wpIn (mz Γ.rd) 0 Γ.P R) R) k L H):DWr Γ (.seq x y) R k L H:=λe a w m=>wpIn_seq (h e a w m)
theorem dwr_block {id:Nat} {c:Code} (h:DWr Γ c (Exit.inBlock id R) k L H):DWr Γ (.block id c) R k L H:=λe a w m=>wpIn_block (h e a w m)
end
abbrev Oit (X:Nat->Prop) (W0 W:World):Nat->Prop:=λb=>b<W.heap.size/\(X b∨W0.heap.size<=b)
theorem it_rel {P:Program} {τ:List (Nat×TI)} {τok:dz P τ} {N:Nat} {X:Nat->Prop} {W0 W:World} (hs:W0.heap.size<=W.heap.size) (hfr:∀ b,b<W0.heap.size->¬ X b->W.heap[b]?=W0.heap[b]?)
  {s:SV} {v:Value} {e0:Env} (hlow:s.low 0=true) (h:Rel X e0 W0 s v) {k:Nat->Prop} {H:Hp} {e:Env} {w:World} (hh:Heap (Γit P τ τok (Oit X W0 W) W N) k H e w):Rel (Ctx.X (Γit P τ τok (Oit X W0 W) W N) e H) e w s v:=by
 have hb:=hh.it_below;refine Rel.keep (A5 hs hb.size) (λb hb1 hx=>(hb.block b (A0 hb1 hs)).trans (hfr b hb1 hx)) (λb hb1 hx=>?_) _ _ (Rel.env _ _ hlow h);rcases hx with hx|hx
 ·rcases hx.2 with h1|h1
  ·exact h1
  ·omega
 ·rcases (hh.mine b hx).1 with h1|h1
  ·exact h1.elim
  ·have h1:W.heap.size<=b:=h1;omega
theorem ent_freeze {Γ:Ctx} {k:Nat} {L:Sl} {H:Hp} (t i:Nat) {f:FuncId} {ty:TypeId} {ds:List D} (hL:L.get t = .fn f [.loc i 0]) (hH:Hp.get H i=some (.blk ty (ds.map .d))):Ent Γ k L H k ((t,.fn f [.pd ds])::L) (Hp.del H i):=by
 intro e a w m;obtain⟨m2,hX⟩:=m.del i;have hmem:=Hp.mem_of hH;refine⟨e,m2.toHeap,m2.defers,m2.len,λt'=>?_⟩
 rw [Sl.get_cons];split
 ·rename_i ht;subst ht;have hs:=m.slot t;rw [hL] at hs;obtain⟨vs,h1,h2⟩:=hs;refine⟨vs,h1,?_⟩
  match vs,h2 with
  | [v],⟨⟨_,hv⟩,_⟩ =>
   refine⟨?_,trivial⟩
   obtain⟨us,g1,g2,_⟩:=(m.heap _ hmem).2;have hown:HB.owned e (i,.blk ty (ds.map .d))=some (e.β i):=rfl;refine⟨e.β i,0,hv,dn g1,λhx=>?_,λj hj=>?_⟩
   ·rcases hx with hx|hx
    ·exact (m.mine _ (List.mem_filterMap.2 ⟨_,hmem,hown⟩)).2 hx
    ·obtain⟨p,hp,hpg⟩:=List.mem_filterMap.1 hx;have hd:=Hp.del_mem (i:=i) H m.ids p hp;exact m.owned_ne hd.1 hmem hd.2 hpg hown
   ·obtain⟨u,g3,g4⟩:=RelL.get _ _ g2 j (.d ds[j]) (by rw [Bg,Ad hj];rfl);refine⟨u,?_,RepC.keep (Ah _) (λ_ _ _=>rfl) (λb _ h=>hX b h) g4⟩
    rw [cell_of_row w _ _ _ ty (0,0) g1,Nat.zero_add];simpa using g3
 ·exact m2.slot t'
theorem dwr_yield {P:Program} {τ:List (Nat×TI)} {τok:dz P τ} {O:Nat->Prop} {W:World} {N:Nat} {k:Nat} {L:Sl} {H:Hp} {R:Exit->Act->World->Prop}
  {id l d:Nat} {xs:List Operand} {ts:Array TypeId} {ty:TypeId} {pos:String} {af:Array Edge} {pre post:List Oper} {fy:Nat} (hn:d6 pre=true) (hnp:d6 post=true) (hdN:d<N) (Lf:Sl) (hf:flatB Lf=true) (Lp:Bool->Sl)
  (J' Jx:World->Prop)
  (hpre:DL (Γit P τ τok O W N) (pre++⟨some d,.call { callee:=.value (.tmp fy),args:=xs.toArray,argTypes:=ts },ty,pos,af,none⟩::post) pre (λ_ L' _=>L'.get fy = .val (.func (.yield l) #[] #[])/\eb xs=true/\Kepts L' Lf /\
   ∀ e W' vs,Below W.heap.size W W'->RelL O e W' (nb L' xs) vs->∃ r:Loop,W'.heap[l]?=some (Obj.loop r)/\vs.toArray.size=r.params.size /\
    RoundIn Fence.wide 0 P l r.fn ((r.params.zip vs.toArray).foldl (λt (p,v)=>t.setIfInBounds p v) r.tmps) r.assign r.body W'
     (λen W''=>(en = .returned (.bool true)/\J' W'')∨(en = .returned (.bool false)/\Jx W''))) k L H)
  (hpost:∀ (b:Bool) (W':World),DL (Γit P τ τok (λ_=>False) W' N) (pre++⟨some d,.call { callee:=.value (.tmp fy),args:=xs.toArray,argTypes:=ts },ty,pos,af,none⟩::post) post (λ_ L' H'=>H'=[]/\Kepts L' (Lp b)/\flatB (Lp b)=true) 0 ((d,.d (.bool b))::Lf) [])
  (hR:∀ (b:Bool) a' W',Flat N (Lp b) a'->(∃ W1,Below W1.heap.size W1 W'/\((b=true/\J' W1)∨(b=false/\Jx W1)))->R .normal a' W') :
  DWr (Γit P τ τok O W N) (.region id (pre++⟨some d,.call { callee:=.value (.tmp fy),args:=xs.toArray,argTypes:=ts },ty,pos,af,none⟩::post).toArray false) R k L H:=by
 intro e a w m;refine wpIn_region_lit ?_;refine th (Q:=vh (Γit P τ τok O W N) (fh _)) ?_ ik _ ?_ pre hn a w (hpre e a w m)
 ·rintro c a' w' (⟨_,_,_,_,_,hx,_⟩|⟨_,_,_,_,_,_,hv,_⟩)
  ·cases hx
  ·exact hv.elim
 rintro a' w' (⟨k',L',H',e',m',_,hy,hok,hkf,hround⟩|⟨_,_,_,_,_,hx,_⟩);rotate_left
 ·cases hx
 have hfl:=m'.flatten hkf hf;unfold wpListIn;rw [if_pos (by rfl)];refine⟨λ_ _=>trivial,?_⟩
 rw [Oper.semAt_eq _ _ _ (by intro c h;cases h)];have hyv:a'.eval (.tmp fy) = .func (.yield l) #[] #[]:=by
  have h1:=m'.slot fy;rw [hy] at h1;exact h1
 have hb:=m'.toHeap.it_below;obtain⟨r,h1,h2,h3⟩:=hround e' w' (xs.map a'.eval) hb (RelL.keep (Ah _) (λ_ _ _=>rfl) (λb _ hx=>.inl hx) _ _ (ij m' xs hok));have hrun:(execOp a'.eval ⟨some d,.call { callee:=.value (.tmp fy),args:=xs.toArray,argTypes:=ts },ty,pos,af,none⟩).run P w' =
   .ok (.round l r.fn ((r.params.zip (xs.map a'.eval).toArray).foldl (λt (p,v)=>t.setIfInBounds p v) r.tmps) r.assign r.body) w':=by
  simp only [execOp,resolve];simp only [hyv];have:=run_yield (P:=P) (w:=w') h1 h2
  simp [Deferred.ofValue,invoke,this]
 rw [hrun];rw [Oper.uponIn_round];refine⟨ms,h3.mono ?_⟩
 have fin:∀ (b:Bool) W1,((b=true/\J' W1)∨(b=false/\Jx W1))->wpListIn (mz none) 0 P (pre++⟨some d,.call { callee:=.value (.tmp fy),args:=xs.toArray,argTypes:=ts },ty,pos,af,none⟩::post).toArray R post (a'.put (some d) (.bool b)) W1:=by
  intro b W1 hj;have m2:Models (Γit P τ τok (λ_=>False) W1 N) (lo 0) ((d,.d (.bool b))::Lf) [] ⟨λ_=>0,λ_=>undef,lo 0⟩ (a'.put (some d) (.bool b)) W1 :=
   (hfl.models W1 (λ_ h=>h.elim)).put (s:=.d (.bool b)) hdN RepC.bool
  have:=th (ro:=none) (Q:=vh (Γit P τ τok (λ_=>False) W1 N) (fh _)) (Q':=R) ?_ ik [] ?_ post hnp _ _ (hpost b W1 _ _ _ m2)
  ·rw [Bt] at this;exact this
  ·rintro c a' w' (⟨_,_,_,_,_,hx,_⟩|⟨_,_,_,_,_,_,hv,_⟩)
   ·cases hx
   ·exact hv.elim
  ·rintro a3 w3 (⟨k3,L3,H3,e3,m3,_,rfl,hk3,hf3⟩|⟨_,_,_,_,_,hx,_⟩)
   ·exact hR b a3 w3 (m3.flatten hk3 hf3) ⟨W1,m3.toHeap.it_below,hj⟩
   ·cases hx
 rintro en W1 (⟨rfl,hj⟩|⟨rfl,hj⟩)
 ·exact fin true W1 (.inl ⟨rfl,hj⟩)
 ·exact fin false W1 (.inr ⟨rfl,hj⟩)
theorem dwr_yieldL {P:Program} {τ:List (Nat×TI)} {τok:dz P τ} {O:Nat->Prop} {W:World} {N:Nat} {k:Nat} {L:Sl} {H:Hp} {R:Exit->Act->World->Prop}
  {id l d:Nat} {xs:List Operand} {ts:Array TypeId} {ty:TypeId} {pos:String} {af:Array Edge} {ops pre post:List Oper} {fy:Nat} (hl:ops=pre++⟨some d,.call { callee:=.value (.tmp fy),args:=xs.toArray,argTypes:=ts },ty,pos,af,none⟩::post)
  (hn:d6 pre=true) (hnp:d6 post=true) (hdN:Nat.blt d N=true) (Lf:Sl) (hf:flatB Lf=true) (Lp:Bool->Sl)
  (J' Jx:World->Prop)
  (hpre:DS false (Γit P τ τok O W N) ops pre (λ_ L' _=>L'.get fy = .val (.func (.yield l) #[] #[])/\eb xs=true/\Kepts L' Lf /\
   ∀ e W' vs,Below W.heap.size W W'->RelL O e W' (nb L' xs) vs->∃ r:Loop,W'.heap[l]?=some (Obj.loop r)/\vs.toArray.size=r.params.size /\
    RoundIn Fence.wide 0 P l r.fn ((r.params.zip vs.toArray).foldl (λt (p,v)=>t.setIfInBounds p v) r.tmps) r.assign r.body W'
     (λen W''=>(en = .returned (.bool true)/\J' W'')∨(en = .returned (.bool false)/\Jx W''))) k L H)
  (hpost:∀ (b:Bool) (W':World),DS false (Γit P τ τok (λ_=>False) W' N) ops post (λ_ L' H'=>H'=[]/\Kepts L' (Lp b)/\flatB (Lp b)=true) 0 ((d,.d (.bool b))::Lf) [])
  (hR:∀ (b:Bool) a' W',Flat N (Lp b) a'->(∃ W1,Below W1.heap.size W1 W'/\((b=true/\J' W1)∨(b=false/\Jx W1)))->R .normal a' W') :
  DWr (Γit P τ τok O W N) (.region id ops.toArray false) R k L H:=by
 subst hl;exact dwr_yield hn hnp (Nat.le_of_ble_eq_true hdN) Lf hf Lp J' Jx hpre hpost hR
theorem FnP.imp {dr:Bool} {P:Program} {τ:List (Nat×TI)} {τok:dz P τ} {f:FuncId} {args:List SV} {R R':SV->Prop} (h:FnP dr P τ τok f args R) (g:∀ r,R r->R' r):FnP dr P τ τok f args R' :=
 ⟨h.1,λO e w vs hH hr=>(h.2 O e w vs hH hr).mono λ_ _ ⟨k',r,H',e',v,⟨a,b,c⟩,d⟩=>⟨k',r,H',e',v,⟨a,b,g r c⟩,d⟩⟩
attribute [local irreducible] DW DS DL DQ Ev FnOk FnP ef bt DT
theorem keepS_fn (l:List Fct) (g:FuncId) (caps:List SV) (pr:Fct->Bool) (hlow:SV.lowL 0 caps=true) (hl:l.length<=4398046511104) (hargs:∀ x∈l,x.args.length<=17592186044416) (hg:∀ x∈l,Fn g ([fi x]++caps) (λr=>r = .d (.bool (pr x)))) :
  Fn 73 [.d (.slice 2 (l.map ae)),.fn g caps] (λr=>r = .d (.slice 2 ((a8 (l.filter pr)).map ae))) :=
 FnP.imp (keep_fn l g caps pr hlow hl hargs hg) λr ⟨s,h1,h2,h3⟩=>by rw [h3,keep_set h1 h2]
theorem set_fn (l:List Fct) (hl:l.length<=4398046511104) (hargs:∀ x∈l,x.args.length<=17592186044416):Fn 26 [.d (.slice 2 (l.map ae))] (λr=>r = .d (.slice 2 ((a8 l).map ae))):=by
 refine fqE Tryz.func26 ?_;intro O w0 E0 β0;have hk:=keepS_fn l 74 [] (λ_=>true) rfl hl hargs (λx _=>setAny_fn x);rw [show l.filter (λ_=>true)=l from List.filter_eq_self.2 λ_ _=>rfl] at hk;repeat' (first|refine zr ?_|refine z21 ?_ (hc:=by apply hk)|fail)
 exact⟨.inl rfl,_,rfl,rfl,rfl⟩
theorem minus1_fn (m:List Fct) (x:Fct) (hm:m.length<=4398046511104) (hs:Strict m):Fn 76 [fi x,.pd [.slice 2 (m.map ae)]] (λr=>r = .d (.bool (!hasF m x))):=by
 refine fqE Tryz.func76 ?_;intro O w0 E0 β0;have hi:=in_fn m x hm hs;repeat' (first|refine zr ?_|refine z21 ?_ (hc:=by apply hi)|fail)
 exact⟨.inl rfl,_,rfl,rfl,rfl⟩
theorem minus_fn (l m:List Fct) (hl:l.length<=4398046511104) (hm:m.length<=4398046511104) (ha:∀ x∈l,x.args.length<=17592186044416) (hb:∀ x∈m,x.args.length<=17592186044416) :
  Fn 28 [.d (.slice 2 (l.map ae)),.d (.slice 2 (m.map ae))] (λr=>r = .d (.slice 2 ((a8 (l.filter λx=>!hasF (a8 m) x)).map ae))):=by
 refine fqE Tryz.func28 ?_;intro O w0 E0 β0;have h1:=set_fn m hm hb;have hsl:(a8 m).length<=4398046511104:=by have:=v8 m [];simp at this;unfold a8;omega
 have hk:=keepS_fn l 76 [.pd [.slice 2 ((a8 m).map ae)]] (λx=>!hasF (a8 m) x) rfl hl ha (λx _=>minus1_fn (a8 m) x hsl (bp m).1);repeat' (first|refine zs ?_|refine z21 ?_ (hc:=by apply h1)|fail)
 refine mc (ent_freeze (ds:=[.slice 2 ((a8 m).map ae)]) 9 0 rfl rfl) ?_;repeat' (first|refine zr ?_|refine z21 ?_ (hc:=by apply hk)|fail)
 exact⟨.inl rfl,_,rfl,rfl,rfl⟩
theorem grow_fn (n:Nat) (hn:n<=4398046511104):FnOk false Tryz.prog tab b9 135 [.nils,.d (.int .i64 n)] 0 0 [] (λ_ r H=>r = .row 0/\H=[(0,.row 37 2 [])]):=by
 refine frE Tryz.func135 ?_;intro O w0 E0 β0;by_cases h0:n=0
 ·subst h0;repeat' (first|refine zs ?_|(exfalso;omega))
  refine je (ek rfl rfl) rfl rfl ?_;repeat' (first|refine zs ?_|(exfalso;omega))
  refine ak (cd (t:=4) 37 2 rfl) ?_;repeat' (apply c9)
  exact⟨.inl rfl,_,rfl,kp id 1 (.row 0) ([(0,.row 37 2 [])]) ⟨rfl,rfl⟩⟩
 ·repeat' (first|refine zs ?_|(exfalso;omega))
  refine je (ek rfl rfl) rfl rfl ?_;repeat' (first|refine zr ?_|(refine zm ?_ ?_<;>intro hg)|(exfalso;omega))
  refine je (ek rfl rfl) rfl rfl ?_;repeat' refine z0 ?_
  all_goals try (exfalso;omega)
  refine ds_apmk (n:=n) (es:=2) (te:=37) [.int .i64 0,.slice 1 []] rfl rfl (by omega) rfl rfl rfl rfl ⟨.inl rfl,.inr ⟨rfl,1,rfl⟩,trivial⟩ rfl rfl (by omega) (by omega) ?_ (by unfold maxLen;omega) rfl rfl ?_
  ·show n*32<=_;omega
  repeat' (first|refine zs ?_|(exfalso;omega))
  refine ak (yy (n:=0) 4 rfl rfl (Ak _) rfl) ?_;repeat' (apply c9)
  exact⟨.inl rfl,_,rfl,kp (λj=>match j with|0=>1|j=>j) 1 (.row 0) ([(0,.row 37 2 [])]) ⟨rfl,rfl⟩⟩
theorem sum_take {ls:List (List Fct)} {i:Nat} (hi:i<ls.length):((ls.take (i+1)).map Bv).sum=((ls.take i).map Bv).sum+ls[i].length:=by
 rw [An hi,Ar,E9];rfl
theorem sum_le (ls:List (List Fct)) (i:Nat):((ls.take i).map Bv).sum<=(ls.map Bv).sum:=by
 have h:(ls.map Bv).sum=((ls.take i).map Bv).sum+((ls.drop i).map Bv).sum:=by rw [<- E9,<- Ar,Ds]
 omega
theorem concat_fn (ls:List (List Fct)) (h:(ls.map Bv).sum<=4398046511104) (h2:ls.length<=4398046511104):Fn 75 [.d (.slice 1 (ls.map λl=>[.slice 2 (l.map ae)]))] (λr=>r = .d (.slice 2 (ls.flatten.map ae))):=by
 refine fqE Tryz.func75 ?_;intro O w0 E0 β0;have ll:(ls.map λl=>[D.slice 2 (l.map ae)]).length=ls.length:=Aa _;repeat' (first|refine zs ?_|fail)
 refine ag (ι:=Nat) (λi=>⟨0,[(0,.d (.slice 1 (ls.map λl=>[.slice 2 (l.map ae)]))),(3,.d (.int .i64 (((ls.take i).map Bv).sum:Nat))),(9,.d (.slice 1 (ls.map λl=>[.slice 2 (l.map ae)]))),(10,.d (.int .i64 ls.length)),(11,.d (.int .i64 i))],[]⟩)
  (λi=>i<=ls.length) (λi=>ls.length-i) 0 (Ak _) (ai id ⟨rfl,rfl,rfl,by rw [<- ll];rfl,rfl,trivial⟩ trivial rfl rfl rfl rfl rfl rfl) ?_
 intro i g1;by_cases hi:i<ls.length
 ·have h3:=sum_take hi;have h4:=sum_le ls (i+1);have h5:(ls[i].map ae).length=ls[i].length:=Aa _;repeat' (first|refine zs ?_|(refine zm ?_ ?_<;>intro hg)|(exfalso;omega))
  exact⟨i+1,by omega,ai id ⟨rfl,congrArg (λz=>SV.d (.int .i64 z)) (by rw [h3,h5];omega),rfl,rfl,rfl,trivial⟩ trivial rfl rfl rfl rfl rfl rfl,by omega⟩
 ·rw [Ai (by omega)];repeat' (first|refine zs ?_|(refine zm ?_ ?_<;>intro hg)|(exfalso;omega))
  refine bg id (grow_fn (ls.map Bv).sum h) rfl rfl rfl rfl trivial rfl rfl rfl rfl rfl rfl ?_ ?_
  ·rintro k2 r H2 ⟨rfl,rfl⟩;exact⟨rfl,rfl⟩
  rintro k2 r H2 ⟨rfl,rfl⟩;change DS _ _ _ _ _ _ _ _;repeat' (first|refine zs ?_|fail)
  refine ag (ι:=Nat) (λi=>⟨1,[(6,.row 0),(25,.d (.slice 1 (ls.map λl=>[.slice 2 (l.map ae)]))),(26,.d (.int .i64 ls.length)),(27,.d (.int .i64 i))],[(0,.row 37 2 ((ls.take i).flatten.map ae))]⟩)
   (λi=>i<=ls.length) (λi=>ls.length-i) 0 (Ak _) (ai id ⟨rfl,rfl,by rw [<- ll];rfl,rfl,trivial⟩ ⟨rfl,trivial⟩ rfl rfl rfl rfl rfl rfl) ?_
  clear hi g1;intro i g1;by_cases hi:i<ls.length
  ·have h3:=sum_take hi;have h4:=sum_le ls (i+1);have h5:(ls[i].map ae).length=ls[i].length:=Aa _;have h6:((ls.take i).flatten.map ae).length=((ls.take i).map Bv).sum:=by rw [Aa,G0]
   have h7:(ls.take (i+1)).flatten=(ls.take i).flatten++ls[i]:=by rw [An hi,G1];simp
   repeat' (first|refine zr ?_|(refine zm ?_ ?_<;>intro hg)|(exfalso;omega))
   exact⟨i+1,by omega,ai (λ_=>1) ⟨rfl,rfl,rfl,rfl,trivial⟩ ⟨by rw [h7,Ar];rfl,trivial⟩ rfl rfl rfl rfl rfl rfl,by omega⟩
  ·rw [Ai (by omega)];repeat' (first|refine zs ?_|(refine zm ?_ ?_<;>intro hg)|(exfalso;omega))
   refine ak (bh 2 rfl rfl rfl) ?_;repeat' (apply c9)
   exact⟨.inl rfl,_,rfl,rfl,rfl⟩
theorem unionOf_fn (l m:List Fct) (hl:l.length+m.length<=4398046511104):Fn 115 [.d (.slice 2 (l.map ae)),.d (.slice 2 (m.map ae))] (λr=>r = .d (.slice 2 ((a8 (l++m)).map ae))):=by
 refine fqE Tryz.func115 ?_;intro O w0 E0 β0;have la:(l.map ae).length=l.length:=Aa _;have lb:(m.map ae).length=m.length:=Aa _;have lc:([]++l.map ae).length=l.length:=by simp
 have w:=sc (l++m) (by rw [Af];exact hl);rw [Ar] at w;repeat' (first|(apply x5;exact rfl;exact rfl;exact rfl;exact rfl;exact rfl;exact rfl;exact rfl;exact rfl)|(first|refine zs ?_|fail))
 refine mc (bh 9 rfl rfl rfl) ?_;repeat' (first|refine zr ?_|refine z21 ?_ (hc:=by apply w)|fail)
 exact⟨.inl rfl,_,rfl,rfl,rfl⟩
def dm (l m:List Fct):List Fct:=l.filter λx=>!hasF m x
theorem uf (l m:List Fct) (hl:l.length<=4398046511104):Fn 36 [.d (.slice 2 (l.map ae)),.d (.slice 2 (m.map ae))] (λr=>r = .d (.slice 2 ((a8 (dm l m)).map ae))):=by
 refine fqE Tryz.func36 ?_;intro O w0 E0 β0;have la:(l.map ae).length=l.length:=Aa _;have hfl:=C9 (λx=>!hasF m x) l;have w:=sc (dm l m) (by unfold dm;omega);repeat' (first|refine zs ?_|fail)
 refine ak (cd (t:=5) 37 2 rfl) ?_;refine ag (ι:=Nat×List Fct) (λx=>⟨1,[(0,.d (.slice 2 (l.map ae))),(1,.d (.slice 2 (m.map ae))),(5,.row 0),(6,.d (.int .i64 x.1))],[(0,.row 37 2 (x.2.map ae))]⟩)
  (λx=>x.1<=l.length/\x.2=(l.take x.1).filter λx=>!hasF m x) (λx=>l.length-x.1) (0,[]) ⟨Ak _,rfl⟩ (er id) ?_
 rintro⟨i,o⟩ ⟨g1,g2⟩;dsimp only at g1 g2 ⊢;have lo:(o.map ae).length=o.length:=Aa _;have hol:o.length<=i:=by
  have:=C9 (λx=>!hasF m x) (l.take i)
  rw [<- g2] at this;simp at this;omega
 by_cases hi:i<l.length
 ·have wh:=hasFact_fn m l[i];have hstep:(l.take (i+1)).filter (λx=>!hasF m x)=o++[l[i]].filter (λx=>!hasF m x):=by rw [An hi,List.filter_append,<- g2]
  cases hh:hasF m l[i] with
  | true =>
   rw [hh] at wh;have h1:[l[i]].filter (λx=>!hasF m x)=[]:=by simp [hh]
   rw [h1,Bt] at hstep;repeat' (first|refine zs ?_|refine z21 ?_ (hc:=by apply wh)|(refine zm ?_ ?_<;>intro hg)|(exfalso;omega))
   exact⟨(i+1,o),⟨by dsimp only;omega,hstep.symm⟩,er id,by show l.length-(i+1)<l.length-i;omega⟩
  | false =>
   rw [hh] at wh;have h1:[l[i]].filter (λx=>!hasF m x)=[l[i]]:=by simp [hh]
   rw [h1] at hstep;repeat' (first|refine zs ?_|refine z21 ?_ (hc:=by apply wh)|(refine zm ?_ ?_<;>intro hg)|(exfalso;omega))
   refine⟨(i+1,o++[l[i]]),⟨by dsimp only;omega,hstep.symm⟩,?_,by show l.length-(i+1)<l.length-i;omega⟩
   dsimp only;rw [Ar];exact er (λ_=>1)
 ·have ho:o=dm l m:=by unfold dm;rw [g2,Ai (by omega)]
  repeat' (first|refine zs ?_|(refine zm ?_ ?_<;>intro hg)|(exfalso;omega))
  refine mc (bh 27 rfl rfl rfl) ?_;rw [ho];repeat' (first|refine zr ?_|refine z21 ?_ (hc:=by apply w)|fail)
  exact⟨.inl rfl,_,rfl,rfl,rfl⟩


theorem io {Γ:Ctx} {k:Nat} {L:Sl} {H:Hp} (t i:Nat) {ty:TypeId} {ds:List D} (hL:L.get t = .loc i 0) (hH:Hp.get H i=some (.blk ty (ds.map .d))):Ent Γ k L H k ((t,.pd ds)::L) (Hp.del H i):=by
 intro e a w m;obtain⟨m2,hX⟩:=m.del i;have hmem:=Hp.mem_of hH;refine⟨e,m2.toHeap,m2.defers,m2.len,λt'=>?_⟩
 rw [Sl.get_cons];split
 ·rename_i ht;subst ht;have hs:=m.slot t;rw [hL] at hs;obtain⟨_,hv⟩:=hs;obtain⟨us,g1,g2,_⟩:=(m.heap _ hmem).2;have hown:HB.owned e (i,.blk ty (ds.map .d))=some (e.β i):=rfl;refine⟨e.β i,0,hv,dn g1,λhx=>?_,λj hj=>?_⟩
  ·rcases hx with hx|hx
   ·exact (m.mine _ (List.mem_filterMap.2 ⟨_,hmem,hown⟩)).2 hx
   ·obtain⟨p,hp,hpg⟩:=List.mem_filterMap.1 hx;have hd:=Hp.del_mem (i:=i) H m.ids p hp;exact m.owned_ne hd.1 hmem hd.2 hpg hown
  ·obtain⟨u,g3,g4⟩:=RelL.get _ _ g2 j (.d ds[j]) (by rw [Bg,Ad hj];rfl);refine⟨u,?_,RepC.keep (Ah _) (λ_ _ _=>rfl) (λb _ h=>hX b h) g4⟩
   rw [cell_of_row w _ _ _ ty (0,0) g1,Nat.zero_add];simpa using g3
 ·exact m2.slot t'
theorem union_fn (l m:List Fct) (hl:l.length+m.length<=4398046511104) (ha:∀ x∈l,x.args.length<=17592186044416) (hb:∀ x∈m,x.args.length<=17592186044416) :
  Fn 27 [.d (.slice 2 (l.map ae)),.d (.slice 2 (m.map ae))] (λr=>r = .d (.slice 2 ((a8 (l++m)).map ae))):=by
 refine fqE Tryz.func27 ?_;intro O w0 E0 β0;have hc:Fn 75 [.d (.slice 1 [[.slice 2 (l.map ae)],[.slice 2 (m.map ae)]])] (λr=>r = .d (.slice 2 ((l++m).map ae))):=by
  have h:=concat_fn [l,m] (by simpa using hl) (by simp);rw [show [l,m].flatten=l++m by simp] at h;exact h
 have hs:=set_fn (l++m) (by rw [Af];exact hl) (λx hx=>(List.mem_append.1 hx).elim (ha x) (hb x));repeat' (first|refine zr ?_|refine z21 ?_ (hc:=by apply hc)|refine z21 ?_ (hc:=by apply hs)|fail)
 exact⟨.inl rfl,_,rfl,rfl,rfl⟩
def wz (l:List Upd) (i:UId):Nat:=l.countP λu=>decide (bw u.id i<0)
theorem posU_at {l:List Upd} {i:UId} {n:Nat} (hn:n<=l.length) (h1:∀ p (hp:p<l.length),p<n->bw l[p].id i<0) (h2:∀ p (hp:p<l.length),n<=p->0<=bw l[p].id i):wz l i=n:=by
 unfold wz;rw [<- Ds n l,List.countP_append];have e1:(l.take n).countP (λu=>decide (bw u.id i<0))=(l.take n).length:=List.countP_eq_length.2 λu hu=>by
  obtain⟨p,hp,rfl⟩:=List.mem_iff_getElem.1 hu;rw [Aq] at hp;rw [List.getElem_take];exact decide_eq_true (h1 p (by omega) (by omega))
 have e2:(l.drop n).countP (λu=>decide (bw u.id i<0))=0:=List.countP_eq_zero.2 λu hu=>by
  obtain⟨p,hp,rfl⟩:=List.mem_iff_getElem.1 hu;rw [List.length_drop] at hp;rw [List.getElem_drop];have:=h2 (n+p) (by omega) (by omega)
  simp only [decide_eq_true_eq];omega
 rw [e1,e2,Aq];omega
theorem strU_below {l:List Upd} {i:UId} {h:Nat} (hs:StrU l) (hml:h<l.length) (hg:bw l[h].id i<0):∀ p (hp:p<l.length),p<h+1->bw l[p].id i<0:=by
 intro p hp hlt;by_cases he:p=h
 ·subst he;exact hg
 ·exact mn (List.pairwise_iff_getElem.1 hs p h hp hml (by omega)) hg
theorem strU_above {l:List Upd} {i:UId} {h:Nat} (hs:StrU l) (hml:h<l.length) (hg:0<=bw l[h].id i):∀ p (hp:p<l.length),h<=p->0<=bw l[p].id i:=by
 intro p hp hlt;by_cases he:p=h
 ·subst he;exact hg
 ·have h1:=List.pairwise_iff_getElem.1 hs h p hml hp (by omega);apply Classical.byContradiction;intro hc;have h3:=mn h1 (by omega:bw l[p].id i<0);omega
theorem foundU_at {l:List Upd} {i:UId} {n:Nat} (hs:StrU l) (h1:∀ p (hp:p<l.length),p<n->bw l[p].id i<0) (h2:∀ p (hp:p<l.length),n<=p->0<=bw l[p].id i):hasU l i=(if h:n<l.length then decide (bw l[n].id i=0) else false):=by
 rw [Bool.eq_iff_iff,hasU_iff];have hpi:=List.pairwise_iff_getElem.1 hs;constructor
 ·rintro⟨u,hu,rfl⟩;obtain⟨p,hp,rfl⟩:=List.mem_iff_getElem.1 hu;have hpi':¬ p<n:=λh=>nw (h1 p hp h)
  rw [dif_pos (by omega)];by_cases he:p=n
  ·subst he;exact decide_eq_true (ub _)
  ·have:=hpi n p (by omega) hp (by omega)
   have:=h2 n (by omega) (Ah _)
   omega
 ·intro h;split at h
  ·rename_i hi;exact⟨_,Aj hi,ordId_eq (of_decide_eq_true h)⟩
  ·cases h
theorem dorder_fn (a b:Upd):Fn 179 [gc a,gc b] (λr=>r = .d (.int .i64 (bw a.id b.id))):=by
 refine fqE Tryz.func179 ?_;intro O w0 E0 β0;have w:=order_fn a.id b.id;repeat' (first|refine zr ?_|refine z21 ?_ (hc:=by apply w)|fail)
 exact a6 rfl rfl
theorem at1_fn (u:Upd) (i:UId):Fn 251 [gc u,o8 i] (λr=>r = .d (.int .i64 (bw u.id i))):=by
 refine fqE Tryz.func251 ?_;intro O w0 E0 β0;have w:=order_fn u.id i;repeat' (first|refine zr ?_|refine z21 ?_ (hc:=by apply w)|fail)
 exact a6 rfl rfl
theorem bsearchU_fn (l:List Upd) (f:UId) (hl:l.length<=1000000) (hs:StrU l):Fn 250 [.d (.slice 5 (l.map aa)),o8 f,.fn 251 []] (λr=>r = .tup [.d (.int .i64 (wz l f)),.d (.bool (hasU l f))]):=by
 refine fqE Tryz.func250 ?_;intro O w0 E0 β0;have ll:(l.map aa).length=l.length:=Aa _;repeat' (first|refine zs ?_|fail)
 refine ag (ι:=Nat×Nat) (λx=>⟨1,[(0,.d (.slice 5 (l.map aa))),(2,.fn 251 []),(4,.loc 0 0),(8,.d (.int .i64 l.length)),(9,.d (.int .i64 x.1)),(10,.d (.int .i64 x.2))],[(0,.blk 79 [.d (.int .i64 f.author),.d (.int .i64 f.number)])]⟩)
  (λx=>x.1<=x.2/\x.2<=l.length/\(∀ p (hp:p<l.length),p<x.1->bw l[p].id f<0)/\(∀ p (hp:p<l.length),x.2<=p->0<=bw l[p].id f)) (λx=>x.2-x.1)
  (0,l.length) ⟨Ak _,Ah _,λp _ h=>absurd h (Nat.not_lt_zero p),λp hp h=>by omega⟩ (ai id ⟨rfl,rfl,rfl,by rw [<- ll];rfl,rfl,by rw [<- ll];rfl,trivial⟩ ⟨rfl,trivial⟩ rfl rfl rfl rfl rfl rfl) ?_
 rintro⟨i,j⟩ ⟨g1,g2,g3,g4⟩;dsimp only at g1 g2 g3 g4 ⊢;by_cases hij:i<j
 ·have he:=half_u64 i j (by omega);have hm1:i<=(i+j) / 2:=by omega
  have hm2:(i+j) / 2<j:=by omega
  have hml:(i+j) / 2<l.length:=by omega
  have hw:=at1_fn (l[(i+j) / 2]'hml) f;repeat' ((fail_if_success (apply eo 5));(first|refine zr ?_|(refine zm ?_ ?_<;>intro hg)|fail))
  all_goals try (exfalso;omega)
  refine ak (k':=1) (L':=[(11,.d (.int .i64 (((i+j) / 2:Nat):Int))),(0,.d (.slice 5 (l.map aa))),(2,.fn 251 []),(4,.loc 0 0),(8,.d (.int .i64 l.length)),(9,.d (.int .i64 i)),(10,.d (.int .i64 j))]) (H':=[(0,.blk 79 [.d (.int .i64 f.author),.d (.int .i64 f.number)])]) ?_ ?_
  ·rw [<- he];exact er id
  generalize (i+j) / 2=h at *;repeat' (first|refine zs ?_|(apply jd;exact rfl;exact rfl;exact rfl;exact rfl;apply hw;exact rfl;(exact rfl);exact rfl;exact rfl;exact⟨_,rfl⟩;rintro _ rfl)|(refine zm ?_ ?_<;>intro hg)|(exfalso;omega))
  all_goals first
   | exact⟨(h+1,j),⟨by dsimp only;omega,g2,strU_below hs hml hg,g4⟩,er id,by show j-(h+1)<j-i;omega⟩
   | exact⟨(i,h),⟨hm1,by dsimp only;omega,g3,strU_above hs hml (Int.not_lt.1 hg)⟩,er id,by show h-i<j-i;omega⟩
 ·have hij':i=j:=by omega
  subst hij';have hf:=foundU_at hs g3 g4;rw [posU_at g2 g3 g4];by_cases hil:i<l.length
  ·rw [dif_pos hil] at hf;have hw:=at1_fn l[i] f;rw [hf];repeat' (first|refine zr ?_|(apply jd;exact rfl;exact rfl;exact rfl;exact rfl;apply hw;exact rfl;(exact rfl);exact rfl;exact rfl;exact⟨_,rfl⟩;rintro _ rfl)|(refine zm ?_ ?_<;>intro hg)|(exfalso;omega))
   all_goals exact⟨.inl rfl,_,rfl,rfl,rfl⟩
  ·rw [dif_neg hil] at hf;rw [hf];repeat' (first|refine zr ?_|(refine zm ?_ ?_<;>intro hg)|(exfalso;omega))
   exact⟨.inl rfl,_,rfl,rfl,rfl⟩
theorem at_fn (l:List Upd) (i:UId) (hl:l.length<=1000000) (hs:StrU l):Fn 197 [.d (.slice 5 (l.map aa)),o8 i] (λr=>r = .tup [.d (.int .i64 (wz l i)),.d (.bool (hasU l i))]):=by
 refine fqE Tryz.func197 ?_;intro O w0 E0 β0;have w:=bsearchU_fn l i hl hs;repeat' (first|refine zr ?_|refine z21 ?_ (hc:=by apply w)|fail)
 exact⟨.inl rfl,_,rfl,rfl,rfl⟩
theorem zb (l:List Upd) (i:UId) (hl:l.length<=1000000) (hs:StrU l):Fn 140 [.d (.slice 5 (l.map aa)),o8 i] (λr=>r = .d (.bool (hasU l i))):=by
 refine fqE Tryz.func140 ?_;intro O w0 E0 β0;have w:=at_fn l i hl hs;repeat' (first|refine zr ?_|refine z21 ?_ (hc:=by apply w)|fail)
 exact a7 rfl rfl
theorem growId_fn (n:Nat) (hn:n<=1000000):FnOk false Tryz.prog tab b9 284 [.nils,.d (.int .i64 n)] 0 0 [] (λ_ r H=>r = .row 0/\H=[(0,.row 79 2 [])]):=by
 refine frE Tryz.func284 ?_;intro O w0 E0 β0;by_cases h0:n=0
 ·subst h0;repeat' (first|refine zs ?_|(exfalso;omega))
  refine je (ek rfl rfl) rfl rfl ?_;repeat' (first|refine zs ?_|(exfalso;omega))
  refine ak (cd (t:=4) 79 2 rfl) ?_;repeat' (apply c9)
  exact⟨.inl rfl,_,rfl,kp id 1 (.row 0) ([(0,.row 79 2 [])]) ⟨rfl,rfl⟩⟩
 ·repeat' (first|refine zs ?_|(exfalso;omega))
  refine je (ek rfl rfl) rfl rfl ?_;repeat' (first|refine zr ?_|(refine zm ?_ ?_<;>intro hg)|(exfalso;omega))
  refine je (ek rfl rfl) rfl rfl ?_;repeat' refine z0 ?_
  all_goals try (exfalso;omega)
  refine ds_apmk (n:=n) (es:=2) (te:=79) [.int .i64 0,.int .i64 0] rfl rfl (by omega) rfl rfl rfl rfl ⟨.inl rfl,.inl rfl,trivial⟩ rfl rfl (by omega) (by omega) ?_ (by unfold maxLen;omega) rfl rfl ?_
  ·show n*16<=_;omega
  repeat' (first|refine zs ?_|(exfalso;omega))
  refine ak (yy (n:=0) 4 rfl rfl (Ak _) rfl) ?_;repeat' (apply c9)
  exact⟨.inl rfl,_,rfl,kp (λj=>match j with|0=>1|j=>j) 1 (.row 0) ([(0,.row 79 2 [])]) ⟨rfl,rfl⟩⟩
theorem concatId_fn (ls:List (List (UId))) (h:(ls.map Bv).sum<=1000000) (h2:ls.length<=1000000):Fn 273 [.d (.slice 1 (ls.map λl=>[.slice 2 (l.map ck)]))] (λr=>r = .d (.slice 2 (ls.flatten.map ck))):=by
 refine fqE Tryz.func273 ?_;intro O w0 E0 β0;have ll:(ls.map λl=>[D.slice 2 (l.map ck)]).length=ls.length:=Aa _;repeat' (first|refine zs ?_|fail)
 refine ag (ι:=Nat) (λi=>⟨0,[(0,.d (.slice 1 (ls.map λl=>[.slice 2 (l.map ck)]))),(3,.d (.int .i64 (((ls.take i).map Bv).sum:Nat))),(9,.d (.slice 1 (ls.map λl=>[.slice 2 (l.map ck)]))),(10,.d (.int .i64 ls.length)),(11,.d (.int .i64 i))],[]⟩)
  (λi=>i<=ls.length) (λi=>ls.length-i) 0 (Ak _) (ai id ⟨rfl,rfl,rfl,by rw [<- ll];rfl,rfl,trivial⟩ trivial rfl rfl rfl rfl rfl rfl) ?_
 intro i g1;by_cases hi:i<ls.length
 ·have h3:=px hi;have h4:=yi ls (i+1);have h5:(ls[i].map ck).length=ls[i].length:=Aa _;repeat' (first|refine zs ?_|(refine zm ?_ ?_<;>intro hg)|(exfalso;omega))
  exact⟨i+1,by omega,ai id ⟨rfl,congrArg (λz=>SV.d (.int .i64 z)) (by rw [h3,h5];omega),rfl,rfl,rfl,trivial⟩ trivial rfl rfl rfl rfl rfl rfl,by omega⟩
 ·rw [Ai (by omega)];repeat' (first|refine zs ?_|(refine zm ?_ ?_<;>intro hg)|(exfalso;omega))
  refine bg id (growId_fn (ls.map Bv).sum h) rfl rfl rfl rfl trivial rfl rfl rfl rfl rfl rfl ?_ ?_
  ·rintro k2 r H2 ⟨rfl,rfl⟩;exact⟨rfl,rfl⟩
  rintro k2 r H2 ⟨rfl,rfl⟩;change DS _ _ _ _ _ _ _ _;repeat' (first|refine zs ?_|fail)
  refine ag (ι:=Nat) (λi=>⟨1,[(6,.row 0),(25,.d (.slice 1 (ls.map λl=>[.slice 2 (l.map ck)]))),(26,.d (.int .i64 ls.length)),(27,.d (.int .i64 i))],[(0,.row 79 2 ((ls.take i).flatten.map ck))]⟩)
   (λi=>i<=ls.length) (λi=>ls.length-i) 0 (Ak _) (ai id ⟨rfl,rfl,by rw [<- ll];rfl,rfl,trivial⟩ ⟨rfl,trivial⟩ rfl rfl rfl rfl rfl rfl) ?_
  clear hi g1;intro i g1;by_cases hi:i<ls.length
  ·have h3:=px hi;have h4:=yi ls (i+1);have h5:(ls[i].map ck).length=ls[i].length:=Aa _;have h6:((ls.take i).flatten.map ck).length=((ls.take i).map Bv).sum:=by rw [Aa,G0]
   have h7:(ls.take (i+1)).flatten=(ls.take i).flatten++ls[i]:=by rw [An hi,G1];simp
   repeat' (first|refine zr ?_|(refine zm ?_ ?_<;>intro hg)|(exfalso;omega))
   exact⟨i+1,by omega,ai (λ_=>1) ⟨rfl,rfl,rfl,rfl,trivial⟩ ⟨by rw [h7,Ar];rfl,trivial⟩ rfl rfl rfl rfl rfl rfl,by omega⟩
  ·rw [Ai (by omega)];repeat' (first|refine zs ?_|(refine zm ?_ ?_<;>intro hg)|(exfalso;omega))
   refine ak (bh 2 rfl rfl rfl) ?_;repeat' (apply c9)
   exact⟨.inl rfl,_,rfl,rfl,rfl⟩
theorem under_fn (u:Upd) (h:u.parents.length+u.takes.length<=1000000):Fn 242 [gc u] (λr=>r = .d (.slice 2 ((cv u).map ck))):=by
 refine fqE Tryz.func242 ?_;intro O w0 E0 β0;have hc:Fn 273 [.d (.slice 1 [[.slice 2 (u.parents.map ck)],[.slice 2 (u.takes.map ck)]])] (λr=>r = .d (.slice 2 ((cv u).map ck))):=by
  have h:=concatId_fn [u.parents,u.takes] (by simpa using h) (by simp);rw [show [u.parents,u.takes].flatten=cv u by simp [cv]] at h;exact h
 repeat' (first|refine zr ?_|refine z21 ?_ (hc:=by apply hc)|fail)
 exact⟨.inl rfl,_,rfl,rfl,rfl⟩
theorem ready1_fn (l:List Upd) (i:UId) (hl:l.length<=1000000) (hs:StrU l):Fn 243 ([o8 i]++[.pd [.slice 5 (l.map aa)]]) (λr=>r = .d (.bool (!hasU l i))):=by
 refine fqE Tryz.func243 ?_;intro O w0 E0 β0;have w:=zb l i hl hs;repeat' (first|refine zr ?_|refine z21 ?_ (hc:=by apply w)|fail)
 exact a7 rfl rfl
theorem dready_fn (l:List Upd) (u:Upd) (hl:l.length<=1000000) (hs:StrU l) (h:u.parents.length+u.takes.length<=1000000):Fn 183 [.d (.slice 5 (l.map aa)),gc u] (λr=>r = .d (.bool (readyU l u))):=by
 refine fqE Tryz.func183 ?_;intro O w0 E0 β0;have w1:=under_fn u h;have w2:=nj (caps:=[.pd [.slice 5 (l.map aa)]]) (λi=>!hasU l i) (cv u) rfl (λi _=>ready1_fn l i hl hs);have he:(!((cv u).any λi=>!hasU l i))=readyU l u:=by unfold readyU;rw [List.all_eq_not_any_not]
 rw [<- he];repeat' ((fail_if_success (apply eo 1));(first|refine zs ?_|fail))
 refine ak (io (ds:=[.slice 5 (l.map aa)]) 2 0 rfl rfl) ?_;repeat' (first|refine zr ?_|refine z21 ?_ (hc:=by apply w1)|refine z21 ?_ (hc:=by apply w2)|fail)
 exact a7 rfl rfl
end
end Go.Proofs.YtapciiffpnociadGreat
