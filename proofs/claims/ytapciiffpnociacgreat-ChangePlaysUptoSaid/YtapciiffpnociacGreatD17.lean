/- Several texts in one: GxRng GxItr RelV RuH RuM StrB. Condition: none. -/
import Derived.Test.YtapciiffpnociacGreatD08
import Derived.Test.YtapciiffpnociacGreatD16
import Derived.Test.YtapciiffpnociacGreatD15
import Derived.Test.YtapciiffpnociacGreatD14

/- A plain logic over the walk: a range over a function. No program is named here. Condition: none. -/
namespace Go.Proofs.YtapciiffpnociacGreat
open Go Go.RowKit
def SeqD (P:Program) (gf:FuncId) (caps:List SV) (xs:List (List SV)):Prop :=
 callable P gf=true ∧
 ∀ (X:Nat→Prop) (e:Env) (W0:World) (lb:List Value) (l:Nat) (J:Nat→World→Prop) (Jx:World→Prop),
  (∀ b,X b→b < W0.heap.size)→RelL X e W0 caps lb→J 0 W0 →
  (∀ i W,J i W→W0.heap.size≤W.heap.size∧∀ b,b < W0.heap.size→¬ X b→W.heap[b]? = W0.heap[b]?) →
  (∀ i W W',J i W→Below W.heap.size W W'→J i W')→(∀ W W',Jx W→Below W.heap.size W W'→Jx W') →
  (∀ (i:Nat) (h:i < xs.length) W1 W vs,J i W1→Below W1.heap.size W1 W→(∃ e',RelL (fun b=>b < W1.heap.size∧(X b∨W0.heap.size≤b)) e' W (xs[i]) vs) →
   ∃ r:Loop,W.heap[l]? = some (Obj.loop r)∧vs.toArray.size=r.params.size ∧
    RoundIn Fence.wide 0 P l r.fn ((r.params.zip vs.toArray).foldl (fun t (p,v)=>t.setIfInBounds p v) r.tmps) r.assign r.body W
     (fun en W'=>(en = .returned (.bool true)∧J (i + 1) W')∨(en = .returned (.bool false)∧Jx W'))) →
  Calls P gf (#[.func (.yield l) #[] #[]]++lb.toArray) W0 (fun en W'=>(∃ v,en = .returned v)∧(J xs.length W'∨Jx W'))
theorem Heap.rebase {Γ:Ctx} {k:Nat→Prop} {H:Hp} {e:Env} {w w2:World} (h:Heap Γ k H e w) (hs:w.heap.size≤w2.heap.size) (hk:KeepsCells w w2) {n J:Nat} {rd pan mk} (hJ:∀ j,j < J→k j) :
  Heap ⟨Γ.P,Γ.τ,Γ.τok,Γ.O,w2,fun b=>b∈ownedL e H,n,J,e.an,rd,pan,mk,false⟩ k H e w2 where
 top:=h.top
 heap p hp:=⟨(h.heap p hp).1,HRel.turned hs hk p (h.heap p hp).2⟩
 ids:=h.ids
 nodup:=h.nodup
 mine b hb:=⟨.inl hb,(h.mine b hb).2⟩
 os:=rfl
 tape:=rfl
 output:=rfl
 drawn h:=nomatch h
 size:=Nat.le_refl _
 block _ _ _:=rfl
 obound b hb:=⟨Nat.lt_of_lt_of_le (h.obound b hb).1 (Nat.le_trans h.size hs),fun ho=>(h.mine b ho).2 hb⟩
 jle:=hJ
 anchor _ _:=rfl
theorem Heap.debase {Γ:Ctx} [NoDr Γ] {k k2:Nat→Prop} {H H2:Hp} {e e2:Env} {w wb w2:World} {E:Nat→Prop} {n J:Nat} {rd pan mk} (h:Heap Γ k H e w) (hs:w.heap.size≤wb.heap.size) (hos:wb.os=w.os) (ht:wb.tape=w.tape) (ho:wb.output=w.output)
  (hb:∀ b,b < Γ.w0.heap.size→¬ Γ.E0 b→wb.heap[b]? = w.heap[b]?)
  (h2:Heap ⟨Γ.P,Γ.τ,Γ.τok,Γ.O,wb,E,n,J,e.an,rd,pan,mk,false⟩ k2 H2 e2 w2) (hE:∀ b,E b→Γ.E0 b∨Γ.w0.heap.size≤b) (hJ:Γ.J≤J):Heap Γ k2 H2 e2 w2 where
 top:=h2.top
 heap:=h2.heap
 ids:=h2.ids
 nodup:=h2.nodup
 mine b hb2:=⟨(h2.mine b hb2).1.elim (hE b) fun hx=>.inr (Nat.le_trans h.size (Nat.le_trans hs hx)),(h2.mine b hb2).2⟩
 os:=h2.os.trans (hos.trans h.os)
 tape:=h2.tape.trans (ht.trans h.tape)
 output:=h2.output.trans (ho.trans h.output)
 drawn:=NoDr.any
 size:=Nat.le_trans h.size (Nat.le_trans hs h2.size)
 block b h3 h4:=(h2.block b (Nat.lt_of_lt_of_le h3 (Nat.le_trans h.size hs)) fun hx=>(hE b hx).elim h4 fun h5=>by omega).trans ((hb b h3 h4).trans (h.block b h3 h4))
 obound:=h.obound
 jle j hj:=h2.jle j (Nat.lt_of_lt_of_le hj hJ)
 anchor j hj:=(h2.anchor j (Nat.lt_of_lt_of_le hj hJ)).trans (h.anchor j hj)
mutual
def SV.stab:SV→Bool
 | .row _=>false
 | .prow _ _ _ _=>false
 | .rsl _ _ _ _=>false
 | .fn _ caps=>SV.stabL caps
 | .agg ss=>SV.stabL ss
 | .tup ss=>SV.stabL ss
 | .junk=>true
 | .d _=>true
 | .nils=>true
 | .pd _=>true
 | .loc _ _=>true
 | .sl _ _ _ _=>true
 | .val _=>true
def SV.stabL:List SV→Bool
 | []=>true
 | s::ss=>SV.stab s && SV.stabL ss
end
mutual
theorem Rel.stab {X:Nat→Prop} {e e':Env} {w:World} (h:∀ i,e.dom i→e'.dom i∧e'.β i=e.β i):∀ (s:SV) (v:Value),s.stab=true→Rel X e w s v→Rel X e' w s v
 | .junk,_,_,_=>trivial
 | .d _,_,_,h=>h
 | .nils,_,_,h=>h
 | .pd _,_,_,h=>h
 | .loc i _,_,_,⟨h1,h2⟩=>⟨(h i h1).1,by rw [(h i h1).2];exact h2⟩
 | .sl i _ _ _,_,_,⟨h1,h2⟩=>⟨(h i h1).1,by rw [(h i h1).2];exact h2⟩
 | .row _,_,hb,_=>nomatch hb
 | .prow _ _ _ _,_,hb,_=>nomatch hb
 | .rsl _ _ _ _,_,hb,_=>nomatch hb
 | .fn _ caps,_,hb,⟨vs,h1,h2⟩=>⟨vs,h1,RelL.stab h caps vs hb h2⟩
 | .agg ss,_,hb,⟨vs,h1,h2⟩=>⟨vs,h1,RelL.stab h ss vs hb h2⟩
 | .tup ss,_,hb,⟨vs,h1,h2⟩=>⟨vs,h1,RelL.stab h ss vs hb h2⟩
 | .val _,_,_,h=>h
theorem RelL.stab {X:Nat→Prop} {e e':Env} {w:World} (h:∀ i,e.dom i→e'.dom i∧e'.β i=e.β i):∀ (ss:List SV) (vs:List Value),SV.stabL ss=true→RelL X e w ss vs→RelL X e' w ss vs
 | [],[],_,_=>trivial
 | [],_::_,_,h=>h.elim
 | _::_,[],_,h=>h.elim
 | s::ss,v::vs,hb,hr=>by
  simp only [SV.stabL,Bool.and_eq_true] at hb
  exact⟨Rel.stab h s v hb.1 hr.1,RelL.stab h ss vs hb.2 hr.2⟩
end
def keptB (L:Sl):Sl→Bool
 | []=>true
 | (_,s)::r=>s.stab && keptB L r
def Kepts (L:Sl):Sl→Prop
 | []=>True
 | (t,s)::r=>Sl.get L t=s∧Kepts L r
theorem kept_get {L:Sl}:∀ (L':Sl),Kepts L L'→keptB L L' = true→∀ t,L'.get t = .junk∨(L'.get t=L.get t∧(L.get t).stab=true)
 | [],_,_,_=>.inl rfl
 | (d,s)::r,⟨h1,h2⟩,hb,t=>by
  simp only [keptB,Bool.and_eq_true] at hb
  rw [Sl.get_cons]
  split
  ·rename_i hd;subst hd;exact .inr ⟨h1.symm,h1.symm▸hb.1⟩
  ·exact kept_get r h2 hb.2 t
def params:List Nat→List SV→Sl→Sl
 | p::ps,s::ss,L=>params ps ss ((p,s)::L)
 | _,_,L=>L
theorem params_slot {X e w}:∀ (ps:List Nat) (ss:List SV) (vs:List Value) (L:Sl) (tmps:Array Value),ps.length=ss.length→(∀ p∈ps,p < tmps.size)→RelL X e w ss vs→(∀ t,Rel X e w (L.get t) (tmps.getD t undef)) →
  ∀ t,Rel X e w ((params ps ss L).get t) (((ps.zip vs).foldl (fun t (q:Nat × Value)=>t.setIfInBounds q.1 q.2) tmps).getD t undef)
 | [],[],[],L,tmps,_,_,_,h,t=>h t
 | [],_::_,_,_,_,hl,_,_,_,_=>by simp at hl
 | _::_,[],_,_,_,hl,_,_,_,_=>by simp at hl
 | _,[],_::_,_,_,_,_,hr,_,_=>hr.elim
 | _,_::_,[],_,_,_,_,hr,_,_=>hr.elim
 | p::ps,s::ss,v::vs,L,tmps,hl,hp,⟨h1,h2⟩,h,t=>by
  refine params_slot ps ss vs ((p,s)::L) (tmps.setIfInBounds p v) (by simpa using hl) (fun q hq=>by rw [Array.size_setIfInBounds];exact hp q (List.mem_cons_of_mem _ hq)) h2 (fun t=>?_) t
  have:=hp p (List.mem_cons_self ..)
  rw [Sl.get_cons]
  simp only [Array.getD_eq_getD_getElem?,Array.getElem?_setIfInBounds]
  split
  ·rename_i hd;subst hd;simp;exact h1
  ·have:=h t;rwa [Array.getD_eq_getD_getElem?] at this
theorem foldl_size:∀ (l:List (Nat × Value)) (tmps:Array Value),(l.foldl (fun t (q:Nat × Value)=>t.setIfInBounds q.1 q.2) tmps).size=tmps.size
 | [],_=>rfl
 | q::l,tmps=>by rw [List.foldl_cons,foldl_size l];simp
def roundD {ι:Type} (Γ:Ctx) (next:ι→Prop) (I:ι→Nat × Hp) (Ls:Sl) (Q:Post):Post:=fun ex k L H=>match ex with
 | .normal=>∃ y,next y∧Ent Γ k L H (I y).1 [] (I y).2
 | .ret=>∃ k2 H2,Ent Γ k L H k2 [] H2∧Q .ret k2 Ls H2
 | _=>False
theorem Heap.widen {Γ:Ctx} {k:Nat→Prop} {H:Hp} {e:Env} {w:World} {l:Nat} (h:Heap Γ k H e w) (hl:¬ Γ.O l):Heap ⟨Γ.P,Γ.τ,Γ.τok,Γ.O,Γ.w0,fun b=>Γ.E0 b∨b=l,Γ.n,Γ.J,Γ.β0,Γ.rd,Γ.pan,Γ.mks,Γ.dr⟩ k H e w where
 top:=h.top
 heap:=h.heap
 ids:=h.ids
 nodup:=h.nodup
 mine b hb:=⟨(h.mine b hb).1.imp .inl id,(h.mine b hb).2⟩
 os:=h.os
 tape:=h.tape
 output:=h.output
 drawn:=h.drawn
 size:=h.size
 block b h1 h2:=h.block b h1 fun h=>h2 (.inl h)
 obound b hb:=⟨(h.obound b hb).1,fun hx=>hx.elim (h.obound b hb).2 fun hx=>hl (hx▸hb)⟩
 jle:=h.jle
 anchor:=h.anchor
theorem Heap.narrow {Γ:Ctx} {k:Nat→Prop} {H:Hp} {e:Env} {w:World} {l:Nat} (h:Heap ⟨Γ.P,Γ.τ,Γ.τok,Γ.O,Γ.w0,fun b=>Γ.E0 b∨b=l,Γ.n,Γ.J,Γ.β0,Γ.rd,Γ.pan,Γ.mks,Γ.dr⟩ k H e w) (hl:l ∉ ownedL e H) (hb:w.heap[l]? = Γ.w0.heap[l]?):Heap Γ k H e w where
 top:=h.top
 heap:=h.heap
 ids:=h.ids
 nodup:=h.nodup
 mine b hm:=⟨(h.mine b hm).1.elim (fun hx=>hx.elim .inl fun hx=>absurd (hx▸hm) hl) .inr,(h.mine b hm).2⟩
 os:=h.os
 tape:=h.tape
 output:=h.output
 drawn:=h.drawn
 size:=h.size
 block b h1 h2:=by
  by_cases hbl:b=l
  ·subst hbl;exact hb
  ·exact h.block b h1 fun h=>h.elim h2 hbl
 obound b hb:=⟨(h.obound b hb).1,fun hx=>(h.obound b hb).2 (.inl hx)⟩
 jle:=h.jle
 anchor:=h.anchor
theorem Heap.owned_loop {Γ:Ctx} {k:Nat→Prop} {H:Hp} {e:Env} {w:World} (h:Heap Γ k H e w) {r:Nat} {o:Loop} (hr:w.heap[r]? = some (Obj.loop o)):r ∉ ownedL e H:=by
 intro hb
 obtain⟨cs,ty,p,h1⟩:=h.owned_cells hb
 rw [hr] at h1
 cases h1
set_option maxHeartbeats 1000000 in
theorem dw_range {P:Program} {τ:List (Nat × TI)} {τok:TabOk P τ} {O:Nat→Prop} {w0:World} {E0:Nat→Prop} {N J:Nat} {β0:Nat→Nat × Value} {pan:Value→Prop} {k:Nat} {L:Sl} {H:Hp} {Q:Post}
  {g:Operand} {ps:List Tmp} {assign body:Code} {gf:FuncId} {caps:List SV} (xs:List (List SV)) (hg:opSV L g = .fn gf caps) (hgo:opOkB g=true) (hseq:SeqD P gf caps xs)
  (hps:∀ x∈xs,ps.length=x.length∧SV.lowL 0 x=true) (hpN:∀ p∈ps,p < N) (Ls:Sl) (hL1:Kepts L Ls) (hL2:keptB L Ls=true)
  {ι:Type} (I:Nat→ι→Nat × Hp) (pre:Nat→ι→Prop) (x0:ι) (p0:pre 0 x0) (hI0:I 0 x0=(k,H))
  (hbody:∀ (i:Nat) (hi:i < xs.length) x,pre i x→∀ O' w' E' β' l,DW ⟨P,τ,τok,O',w',E',N,k,β',some l,noPan,false,false⟩ assign (fun ex k2 L2 H2=>ex = .normal∧∀ O' w' E' β',DW ⟨P,τ,τok,O',w',E',N,k,β',some l,noPan,false,false⟩ body
   (roundD ⟨P,τ,τok,O',w',E',N,k,β',some l,noPan,false,false⟩ (pre (i + 1)) (I (i + 1)) Ls Q) k2 L2 H2) (I i x).1 (params ps (xs[i]) Ls) (I i x).2)
  (hdone:∀ y,pre xs.length y→Q .normal (I xs.length y).1 Ls (I xs.length y).2) :
  DW ⟨P,τ,τok,O,w0,E0,N,J,β0,none,pan,true,false⟩ (.rangeFunc g ps.toArray assign body) Q k L H:=by
 intro e a W m
 obtain⟨hcall,hseq⟩:=hseq
 have hgr:=m.op g (opOkB_spec hgo)
 rw [hg] at hgr
 obtain⟨lb,hgv,hlb⟩:=hgr
 show (Code.rangeFunc g ps.toArray assign body).wpIn Fence.wide 0 P _ a W
 refine wpIn_rangeFunc ?_
 intro fn _
 obtain⟨rec,hrec⟩:∃ rec:LoopState→Option Code→Loop,rec=fun st pe=>{ state:=st,pending:=pe,fn,tmps:=a.tmps,params:=ps.toArray,assign,body,defers:=W.heap.size }:=⟨_,rfl⟩
 obtain⟨W1,hW1⟩:∃ W1,(W.alloc (.deferred (some []))).alloc (.loop (rec .ready none))=W1:=⟨_,rfl⟩
 have hD1:W1.heap[W.heap.size]? = some (Obj.deferred (some [])):=by
  rw [← hW1];exact (Below.heap_alloc _ _ _ (by simp)).trans (World.alloc_heap_new W _)
 obtain⟨l,hl⟩:∃ l,l=W.heap.size + 1:=⟨_,rfl⟩
 have hL1':W1.heap[l]? = some (Obj.loop (rec .ready none)):=by
  rw [← hW1,hl];have:=World.alloc_heap_new (W.alloc (.deferred (some []))) (.loop (rec .ready none));rwa [World.size_alloc] at this
 have hb1:Below W.heap.size W W1:=by
  rw [← hW1];exact ((Below.refl _ W).alloc (Nat.le_refl _) _).alloc (by simp) _
 have hsz1:W1.heap.size=W.heap.size + 2:=by rw [← hW1];simp
 have hk1:KeepsCells W W1:=fun b cs ty p hb=>(hb1.block b (lt_of_heap hb)).trans hb
 refine⟨W.heap.size + 1,[{ target:=.collected W.heap.size,args:=#[] }],W1,{ target:=.fn (.func gf) lb.toArray,args:=#[.func (.yield (W.heap.size + 1)) #[] #[]] },W1,gf,
  #[.func (.yield (W.heap.size + 1)) #[] #[]]++lb.toArray,W1,?_,?_,fun _ _=>trivial,?_,depth_wideR (ro:=none),?_⟩
 ·rw [← hW1,hrec];exact run_enterLoop_outer _ _ _ _ _
 ·simp only [resolve,hgv]
  simp [go_sem]
 ·simp [invoke,go_sem,run_call hcall]
 rw [← hl]
 refine callsIn_wide.2 ?_
 let Γ1:Ctx:=⟨P,τ,τok,O,W1,fun b=>b∈ownedL e H,N,k,e.an,none,pan,true,false⟩
 have hH1:Heap Γ1 k H e W1:=m.toHeap.rebase hb1.size hk1 (fun j hj=>hj)
 have hlO:¬ O l:=fun hO=>by have h1:=(m.obound l hO).1;have h2:=m.size;simp only at h1 h2;omega
 let Γx:Ctx:=⟨P,τ,τok,O,W1,fun b=>b∈ownedL e H∨b=l,N,k,e.an,none,pan,true,false⟩
 let X:Nat→Prop:=fun b=>O b∨b∈ownedL e H
 have hXlt:∀ b,X b→b < W.heap.size:=fun b hb=>hb.elim (fun h=>Nat.lt_of_lt_of_le (m.obound b h).1 m.size) (m.lt b)
 have hlown:l ∉ ownedL e H:=fun h=>by have:=m.lt l h;omega
 have hslots:∀ (k':Nat) (H':Hp) (e':Env) (W':World),Heap Γx k' H' e' W'→∀ t,Rel (Ctx.X Γx e' H') e' W' (Ls.get t) (a.tmps.getD t undef):=by
  intro k' H' e' W' h t
  rcases kept_get Ls hL1 hL2 t with h1|⟨h1,h2⟩
  ·rw [h1];trivial
  ·rw [h1]
   have hdom:∀ i,e.dom i→e'.dom i∧e'.β i=e.β i:=fun i hi=>⟨(h.top i).2 (h.jle i ((m.top i).1 hi)),Env.an_β (h.anchor i ((m.top i).1 hi))⟩
   refine Rel.keep (X:=X) (w:=W) (Nat.le_trans hb1.size h.size) (fun b hb hx=>?_) (fun b hb hx=>?_) _ _ (Rel.stab hdom _ _ h2 (m.slot t))
   ·have hb':b < W1.heap.size:=by omega
    exact (h.block b hb' fun hE=>hE.elim (fun hE=>hx (.inr hE)) fun hE=>by omega).trans (hb1.block b hb)
   ·rcases hx with hx|hx
    ·exact .inl hx
    ·rcases (h.mine b hx).1 with h3|h3
     ·exact h3.elim .inr fun h3=>by omega
     ·have h3:W1.heap.size≤b:=h3
      omega
 have hnarrow:∀ (k':Nat) (H':Hp) (e':Env) (W':World),Heap Γx k' H' e' W'→W'.heap[l]? = some (Obj.loop (rec .ready none))→Heap Γ1 k' H' e' W':=fun k' H' e' W' h hlw =>
  Heap.narrow (Γ:=Γ1) (l:=l) h (h.owned_loop hlw) (hlw.trans hL1'.symm)
 have hlive:∀ (k':Nat) (H':Hp) (e':Env) (W':World),Heap Γ1 k' H' e' W'→W'.heap[l]? = some (Obj.loop (rec .ready none)):=fun k' H' e' W' h =>
  (h.block l (by show l < W1.heap.size;omega) hlown).trans hL1'
 have hend:∀ (ex:Exit) (k':Nat) (H':Hp) (e':Env) (W':World) (o o':Loop),Heap Γx k' H' e' W'→W'.heap[l]? = some (Obj.loop o)→Q ex k' Ls H' →
   lift ⟨P,τ,τok,O,w0,E0,N,J,β0,none,pan,true,false⟩ Q ex { a with defers:=[{ target:=.collected W.heap.size,args:=#[] }]++a.defers } (W'.putObj l (.loop o')):=by
  intro ex k' H' e' W' o o' h hlw hq
  have hk:KeepsCells W' (W'.putObj l (.loop o')):=keepsCells_put hlw (fun _ _ _ h=>nomatch h)
  have hx:Heap Γx k' H' e' (W'.putObj l (.loop o')):=h.turned (by simp) hk rfl rfl rfl rfl fun b _ hE=>World.putObj_heap_other fun hbl=>hE (.inr hbl)
  refine .inl ⟨k',Ls,H',e',⟨?_,?_,m.len,hslots _ _ _ _ hx⟩,hq⟩
  ·refine m.toHeap.debase hb1.size hb1.os hb1.tape hb1.output (fun b hb _=>hb1.block b (Nat.lt_of_lt_of_le hb m.size)) (show Heap ⟨P,τ,τok,O,W1,fun b=>b∈ownedL e H∨b=l,N,k,e.an,none,pan,true,false⟩ k' H' e' (W'.putObj l (.loop o')) from hx) (fun b hb=>?_) ?_
   ·rcases hb with hb|hb
    ·exact (m.mine b hb).1
    ·exact .inr (by have:=m.size;simp only at this ⊢;omega)
   ·rcases Nat.eq_zero_or_pos J with hJ|hJ
    ·simp only;omega
    ·have:=m.jle (J - 1) (by simp only;omega)
     have h3:J - 1 < k:=this
     simp only;omega
  ·obtain⟨rs,h1,_,h2,h3⟩:=m.defers
   have hold:∀ r,r < W.heap.size→r ∉ ownedL e H→(W'.putObj l (.loop o')).heap[r]? = W.heap[r]?:=fun r hr hn =>
    (hx.block r (by show r < W1.heap.size;omega) fun hE=>hE.elim hn fun hE=>by omega).trans (hb1.block r hr)
   refine⟨W.heap.size::rs,?_,fun h=>(nomatch h),?_,?_⟩
   ·show [_]++a.defers=_
    rw [h1];rfl
   ·refine List.nodup_cons.2 ⟨fun hm=>?_,h2⟩
    have:=lt_of_heap (h3 _ hm).2
    omega
   ·intro r hr
    rcases List.mem_cons.1 hr with rfl|hr
    ·refine⟨m.size,?_⟩
     exact (hx.block _ (by show _ < W1.heap.size;omega) fun hE=>hE.elim (fun hE=>by have:=m.lt _ hE;omega) fun hE=>by omega).trans hD1
    ·refine⟨(h3 r hr).1,(hold r (lt_of_heap (h3 r hr).2) fun ho=>m.owned_mark (h3 r hr).2 ho).trans (h3 r hr).2⟩
 have hb0:=hseq X e W1 lb l (fun i W'=>∃ x,pre i x∧∃ e',Heap Γ1 (I i x).1 (I i x).2 e' W')
  (fun W'=>W'.heap[l]? = some (Obj.loop (rec .done (some .ret)))∧∃ k2 H2 e',Heap Γx (lo k2) H2 e' W'∧Q .ret k2 Ls H2)
  (fun b hb=>by have:=hXlt b hb;omega)
  (RelL.keep hb1.size (fun b hb _=>hb1.block b hb) (fun b hb hx=>hx) _ _ hlb)
  ⟨x0,p0,e,by rw [hI0];exact hH1⟩
  (fun i W' ⟨x,_,e',h⟩=>⟨h.size,fun b hb hx=>h.block b hb fun hE=>hx (.inr hE)⟩)
  (fun i W' W'' ⟨x,hp,e',h⟩ hb=>⟨x,hp,e',h.below (Beld.no hb)⟩)
  (fun W' W'' ⟨h1,k2,H2,e',h2,h3⟩ hb=>⟨(hb.block l (lt_of_heap h1)).trans h1,k2,H2,e',h2.below (Beld.no hb),h3⟩)
  ?_
 ·refine hb0.mono ?_
  rintro en W2 ⟨⟨v,rfl⟩,⟨x,hp,e',h⟩|⟨h1,k2,H2,e',h2,h3⟩⟩
  ·have hlw:=hlive _ _ _ _ h
   refine⟨none,W2.putObj l (.loop (rec .exhausted none)),?_,?_⟩
   ·have:=run_endLoop (P:=P) hlw (by rw [hrec];simp)
    rw [hrec] at this ⊢;exact this
   ·exact hend .normal _ _ _ _ _ _ (Heap.widen (Γ:=Γ1) (l:=l) h hlO) hlw (hdone x hp)
  ·refine⟨some .ret,W2.putObj l (.loop (rec .exhausted (some .ret))),?_,?_⟩
   ·have:=run_endLoop (P:=P) h1 (by rw [hrec];simp)
    rw [hrec] at this ⊢;exact this
   ·exact wpIn_ret (hend .ret _ _ _ _ _ _ h2 h1 h3)
 ·rintro i hi Wa Wb vs ⟨x,hp,e1,hh1⟩ hbl ⟨e',hvs⟩
  have hhb:Heap Γ1 (lo (I i x).1) (I i x).2 e1 Wb:=hh1.below (Beld.no hbl)
  have hlw:=hlive _ _ _ _ hhb
  have hvl:=RelL.length _ _ hvs
  obtain⟨hpl,hxl⟩:=hps _ (List.getElem_mem hi)
  refine⟨rec .ready none,hlw,by rw [hrec];simp;omega,?_⟩
  rw [hrec]
  refine roundIn_of_wpIn trivial ?_
  show Code.wpIn (wideR (some l)) 0 P assign _ _ _
  have hdomb:∀ j,j < k→(lo (I i x).1) j:=fun j hj=>hhb.jle j hj
  have hA:Heap ⟨P,τ,τok,O,Wb,fun b=>b∈ownedL e1 (I i x).2,N,k,e1.an,some l,noPan,false,false⟩ (lo (I i x).1) (I i x).2 e1 Wb:=hhb.rebase (Nat.le_refl _) (fun _ _ _ _ h=>h) hdomb
  have hhx:Heap Γx (lo (I i x).1) (I i x).2 e1 Wb:=Heap.widen (Γ:=Γ1) (l:=l) hhb hlO
  have mA:Models ⟨P,τ,τok,O,Wb,fun b=>b∈ownedL e1 (I i x).2,N,k,e1.an,some l,noPan,false,false⟩ (lo (I i x).1) (params ps (xs[i]) Ls) (I i x).2 e1
    { tmps:=((ps.toArray.zip vs.toArray).foldl (fun t (p,v)=>t.setIfInBounds p v) a.tmps),defers:=[] } Wb:=by
   have hz:(ps.toArray.zip vs.toArray).foldl (fun t (p,v)=>t.setIfInBounds p v) a.tmps=(ps.zip vs).foldl (fun t (q:Nat × Value)=>t.setIfInBounds q.1 q.2) a.tmps:=by
    rw [List.zip_toArray,List.foldl_toArray]
   refine⟨hA,Marks.nil,?_,?_⟩
   ·show Array.size _=N
    rw [hz,foldl_size];exact m.len
   ·intro t
    show Rel _ e1 Wb _ (Array.getD _ t undef)
    rw [hz]
    refine params_slot ps (xs[i]) vs Ls a.tmps hpl (fun p hp=>by rw [m.len];exact hpN p hp) ?_ (hslots _ _ _ _ hhx) t
    refine RelL.keep (Nat.le_refl _) (fun _ _ _=>rfl) (fun b _ hx=>?_) _ _ (RelL.env _ _ hxl hvs)
    rcases hx with hx|hx
    ·have h1:=(m.obound b hx).1
     have h2:=m.size
     have h3:=hh1.size
     simp only at h1 h2
     have h3:W1.heap.size≤Wa.heap.size:=h3
     exact⟨by omega,.inl (.inl hx)⟩
    ·have h1:=hh1.lt b hx
     refine⟨h1,?_⟩
     rcases (hh1.mine b hx).1 with h2|h2
     ·exact .inl (.inr h2)
     ·exact .inr h2
  refine wpIn_mono (hbody i hi x hp O Wb _ e1.an l e1 _ Wb mA) ?_
  rintro ex a1 w1 (⟨k2,L2,H2,e2,m2,rfl,hB⟩|⟨_,_,_,_,hE,_⟩)
  rotate_left
  ·exact hE.elim
  have hlw1:w1.heap[l]? = some (Obj.loop (rec .ready none)):=(m2.block l (lt_of_heap hlw) (hhb.owned_loop hlw)).trans hlw
  have hx1:Heap Γx (lo k2) H2 e2 w1:=hhx.debase (wb:=Wb) (Nat.le_refl _) rfl rfl rfl (fun _ _ _=>rfl) (show Heap ⟨P,τ,τok,O,Wb,fun b=>b∈ownedL e1 (I i x).2,N,k,e1.an,some l,noPan,false,false⟩ (lo k2) H2 e2 w1 from m2.toHeap) (fun b hb=>(hhx.mine b hb).1) (Nat.le_refl _)
  refine⟨w1.putObj l (.loop { rec .ready none with state:=.busy }),run_beginRound hlw1 (by rw [hrec]),?_⟩
  have hk2:KeepsCells w1 (w1.putObj l (.loop { rec .ready none with state:=.busy })):=keepsCells_put hlw1 (fun _ _ _ h=>nomatch h)
  have hx2:Heap Γx (lo k2) H2 e2 (w1.putObj l (.loop { rec .ready none with state:=.busy })):=hx1.turned (by simp) hk2 rfl rfl rfl rfl fun b _ hE=>World.putObj_heap_other fun hbl=>hE (.inr hbl)
  generalize hw2:w1.putObj l (.loop { rec .ready none with state:=.busy })=w2 at hk2 hx2 ⊢
  have hs12:w1.heap.size≤w2.heap.size:=by rw [← hw2];simp
  have hlw2:w2.heap[l]? = some (Obj.loop { rec .ready none with state:=.busy }):=by rw [← hw2];exact World.putObj_heap_same (lt_of_heap hlw1)
  have hB2:Heap ⟨P,τ,τok,O,w2,fun b=>b∈ownedL e2 H2,N,k,e2.an,some l,noPan,false,false⟩ (lo k2) H2 e2 w2:=m2.toHeap.rebase hs12 hk2 (fun j hj=>m2.jle j hj)
  have mB:Models ⟨P,τ,τok,O,w2,fun b=>b∈ownedL e2 H2,N,k,e2.an,some l,noPan,false,false⟩ (lo k2) L2 H2 e2 a1 w2:=by
   refine⟨hB2,?_,m2.len,fun t=>Rel.turned hs12 hk2 _ _ (m2.slot t)⟩
   obtain⟨rs,h1,h0,_,_⟩:=m2.defers
   rw [h1,h0 rfl]
   exact Marks.nil
  show Code.wpIn (wideR (some l)) 0 P body _ _ _
  refine wpIn_mono (hB _ _ _ _ e2 a1 w2 mB) ?_
  have fin:∀ (k3:Nat) (H3:Hp) (e3:Env) (w3:World) (jump:Option Code),Heap ⟨P,τ,τok,O,w2,fun b=>b∈ownedL e2 H2,N,k,e2.an,some l,noPan,false,false⟩ k3 H3 e3 w3 →
    (Instr.endRound l jump).run P w3 = .ok (.bool jump.isNone) (w3.putObj l (.loop (rec (if jump.isNone then .ready else .done) jump)))∧Heap Γx k3 H3 e3 (w3.putObj l (.loop (rec (if jump.isNone then .ready else .done) jump))) ∧
    (w3.putObj l (.loop (rec (if jump.isNone then .ready else .done) jump))).heap[l]? = some (Obj.loop (rec (if jump.isNone then .ready else .done) jump)):=by
   intro k3 H3 e3 w3 jump h3
   have hlw3:w3.heap[l]? = some (Obj.loop { rec .ready none with state:=.busy }):=(h3.block l (lt_of_heap hlw2) (hx2.owned_loop hlw2)).trans hlw2
   refine⟨?_,?_,World.putObj_heap_same (lt_of_heap hlw3)⟩
   ·have:=run_endRound (P:=P) jump hlw3
    rw [hrec] at this ⊢
    exact this
   ·have hx3:Heap Γx (lo k3) H3 e3 w3:=hx2.debase (wb:=w2) (Nat.le_refl _) rfl rfl rfl (fun _ _ _=>rfl) (show Heap ⟨P,τ,τok,O,w2,fun b=>b∈ownedL e2 H2,N,k,e2.an,some l,noPan,false,false⟩ (lo k3) H3 e3 w3 from h3) (fun b hb=>(hx2.mine b hb).1) (Nat.le_refl _)
    exact hx3.turned (by simp) (keepsCells_put hlw3 (fun _ _ _ h=>nomatch h)) rfl rfl rfl rfl fun b _ hE=>World.putObj_heap_other fun hbl=>hE (.inr hbl)
  rintro ex a3 w3 (⟨k3,L3,H3,e3,m3,hq⟩|⟨_,_,_,_,hE,_⟩)
  rotate_left
  ·exact hE.elim
  cases ex with
  | normal =>
   obtain⟨y,hy,hent⟩:=hq
   obtain⟨e4,m4⟩:=hent _ _ _ m3
   obtain⟨f1,f2,f3⟩:=fin _ _ _ _ none m4.toHeap
   exact⟨_,_,f1,.inl ⟨rfl,y,hy,e4,hnarrow _ _ _ _ f2 f3⟩⟩
  | ret =>
   obtain⟨k4,H4,hent,hq⟩:=hq
   obtain⟨e4,m4⟩:=hent _ _ _ m3
   obtain⟨f1,f2,f3⟩:=fin _ _ _ _ (some .ret) m4.toHeap
   exact⟨_,_,f1,.inr ⟨rfl,(by rw [show (if (some Code.ret).isNone=true then LoopState.ready else LoopState.done)=LoopState.done from rfl] at f3 ⊢;rw [hrec] at f3 ⊢;exact f3),k4,H4,e4,f2,hq⟩⟩
  | exit id=>exact hq.elim
  | goto t=>exact hq.elim
  | panic ch=>exact hq.elim
  | outgrown=>exact hq.elim
end Go.Proofs.YtapciiffpnociacGreat

/- A plain logic over the walk: iterators. No program is named here. Condition: none. -/
namespace Go.Proofs.YtapciiffpnociacGreat
open Go Go.RowKit
def SV.flat:SV→Bool
 | .val _=>true
 | .junk=>true
 | .d (.int _ _)=>true
 | .d (.bool _)=>true
 | _=>false
theorem Rel.flat {X e w X' e' w'}:∀ (s:SV) (v:Value),s.flat=true→Rel X e w s v→Rel X' e' w' s v
 | .val _,_,_,h=>h
 | .junk,_,_,_=>trivial
 | .d (.int _ _),_,_,h=>by
  have h':RepC _ _ _ _:=h
  cases h' with
  | int g=>exact RepC.int g
 | .d (.bool _),_,_,h=>by
  have h:RepC _ _ _ _:=h
  cases h
  exact RepC.bool
 | .d (.str _),_,h,_=>nomatch h
 | .d (.slice _ _),_,h,_=>nomatch h
 | .nils,_,h,_=>nomatch h
 | .pd _,_,h,_=>nomatch h
 | .loc _ _,_,h,_=>nomatch h
 | .row _,_,h,_=>nomatch h
 | .prow _ _ _ _,_,h,_=>nomatch h
 | .sl _ _ _ _,_,h,_=>nomatch h
 | .rsl _ _ _ _,_,h,_=>nomatch h
 | .fn _ _,_,h,_=>nomatch h
 | .agg _,_,h,_=>nomatch h
 | .tup _,_,h,_=>nomatch h
def flatB:Sl→Bool
 | []=>true
 | (_,s)::r=>s.flat && flatB r
theorem flat_get:∀ {L:Sl},flatB L=true→∀ t,(L.get t).flat=true
 | [],_,_=>rfl
 | (d,s)::r,h,t=>by
  simp only [flatB,Bool.and_eq_true] at h
  rw [Sl.get_cons]
  split
  ·exact h.1
  ·exact flat_get h.2 t
theorem kepts_get {L:Sl}:∀ {L':Sl},Kepts L L'→∀ t,L'.get t = .junk∨L'.get t=L.get t
 | [],_,_=>.inl rfl
 | (d,s)::r,h,t=>by
  rw [Sl.get_cons]
  split
  ·rename_i hd;subst hd;exact .inr h.1.symm
  ·exact kepts_get h.2 t
structure Flat (N:Nat) (L:Sl) (a:Act):Prop where
 len:a.tmps.size=N
 defers:a.defers=[]
 slot:∀ t X e w,Rel X e w (L.get t) (a.tmps.getD t undef)
abbrev Γit (P:Program) (τ:List (Nat × TI)) (τok:TabOk P τ) (O:Nat→Prop) (W:World) (N:Nat):Ctx:=⟨P,τ,τok,O,W,fun _=>False,N,0,fun _=>(0,undef),none,noPan,false,false⟩
section
variable {P : Program} {τ : List (Nat × TI)} {τok : TabOk P τ} {O : Nat → Prop} {N : Nat} {L : Sl}
theorem Flat.models {a:Act} (h:Flat N L a) (W:World) (hO:∀ b,O b→b < W.heap.size):Models (Γit P τ τok O W N) (lo 0) L [] ⟨fun _=>0,fun _=>undef,lo 0⟩ a W where
 top _:=Iff.rfl
 heap _ hp:=nomatch hp
 ids:=.nil
 nodup:=.nil
 mine _ hb:=nomatch hb
 os:=rfl
 tape:=rfl
 output:=rfl
 drawn h:=nomatch h
 size:=Nat.le_refl _
 block _ _ _:=rfl
 obound b hb:=⟨hO b hb,id⟩
 jle _ hj:=nomatch hj
 anchor _ hj:=nomatch hj
 defers:=by rw [h.defers];exact Marks.nil
 len:=h.len
 slot t:=h.slot t _ _ _
theorem Models.flatten {W:World} {k:Nat→Prop} {H:Hp} {e:Env} {a:Act} {w:World} (m:Models (Γit P τ τok O W N) k L H e a w) {Ls:Sl} (hK:Kepts L Ls) (hf:flatB Ls=true):Flat N Ls a where
 len:=m.len
 defers:=by
  obtain⟨rs,h1,h0,_⟩:=m.defers
  rw [h1,h0 rfl];rfl
 slot t X e' w':=by
  have hg:=flat_get hf t
  rcases kepts_get hK t with h|h
  ·rw [h];trivial
  ·rw [h] at hg ⊢;exact Rel.flat _ _ hg (m.slot t)
theorem Heap.it_below {W:World} {k:Nat→Prop} {H:Hp} {e:Env} {w:World} (h:Heap (Γit P τ τok O W N) k H e w):Below W.heap.size W w:=⟨h.os,h.tape,h.output,h.size,fun b hb=>h.block b hb id⟩
end
section
variable {Γ : Ctx} {k : Nat} {L : Sl} {H : Hp} {K : Next'} {ops : List Oper} {rest : List Oper} {x y : Operand} {t ty : TypeId}
theorem ev_val {op:Op} {s:SV} (L2:Sl) (hm:∀ e a w,Models Γ (lo k) L H e a w→Models Γ (lo k) L2 H e a w) (h:Ev Γ (lo k) L2 H op ty s):Ev Γ (lo k) L H op ty s:=fun e a w m=>h e a w (hm e a w m)
theorem Models.val_as {e:Env} {a:Act} {w:World} {k:Nat→Prop} (m:Models Γ k L H e a w) (t:Nat) {v:Value} {s:SV} (hv:L.get t = .val v) (hr:Rel (Γ.X e H) e w s v):Models Γ k ((t,s)::L) H e a w where
 toHeap:=m.toHeap
 defers:=m.defers
 len:=m.len
 slot t':=by
  rw [Sl.get_cons]
  split
  ·rename_i h
   subst h
   have h1:=m.slot t
   rw [hv] at h1
   have h1:a.tmps.getD t undef=v:=h1
   rw [h1];exact hr
  ·exact m.slot t'
theorem ev_fa_val {s:TypeId} {f off fty sz b o:Nat} {l} (hs:Γ.sh s = .struct l) (hf:l[f]? = some (off,fty,sz)) (hz:Nat.beq sz 0=false) (t:Nat) (hx:L.get t = .val (.pointer (some ⟨b,o,none⟩))) :
  Ev Γ (lo k) L H (.fieldAddr s (.tmp t) f) ty (.val (.pointer (some ⟨b,o + off,none⟩))):=by
 obtain⟨fs,hu,hl⟩:=Ctx.struct hs
 subst hl
 rw [List.getElem?_map] at hf
 cases hff:fs.toList[f]? with
 | none=>rw [hff] at hf;cases hf
 | some fd =>
  rw [hff] at hf
  simp only [Option.map_some,Option.some.injEq,Prod.mk.injEq] at hf
  obtain⟨h1,h2,h3⟩:=hf
  have hfa:fs[f]? = some fd:=by rw [← Array.getElem?_toList];exact hff
  have hinf:∃ inf,Γ.P.info? fd.type=some inf∧inf.size≠0:=by
   cases hi:Γ.P.info? fd.type with
   | none=>rw [hi] at h3;exact absurd h3.symm (Nat.ne_of_beq_eq_false hz)
   | some inf=>rw [hi] at h3;exact⟨inf,rfl,fun h=>Nat.ne_of_beq_eq_false hz (by rw [← h3,← h];rfl)⟩
  obtain⟨inf,hi,hne⟩:=hinf
  intro e A w m
  have hA:A.eval (.tmp t) = .pointer (some ⟨b,o,none⟩):=by
   have h1:=m.slot t
   rw [hx] at h1
   exact h1
  refine⟨_,fun dst pos after guard w' _=>?_,rfl⟩
  simp [execOp,Instr.fieldAt,hA,run_underlying hu,hfa,Instr.sureAddr,fieldPlace,run_sizeOf hi,hne,h1,Addr.add_at]
theorem ev_ld_val {b o:Nat} {u:Value} (t2:Nat) (hkn:(Γ.sh t).known=true) (hg:(Γ.sh t).isAgg=false) (hx:L.get t2 = .val (.pointer (some ⟨b,o,none⟩))) (hc:Γ.w0.cell? ⟨b,o,none⟩=some u) (hE:∀ b,¬ Γ.E0 b) :
  Ev Γ (lo k) L H (.load t (.tmp t2)) ty (.val u):=by
 intro e a w m
 have ho:=Sh.known_ne hkn
 have hv:a.eval (.tmp t2) = .pointer (some ⟨b,o,none⟩):=by
  have h1:=m.slot t2
  rw [hx] at h1
  exact h1
 have hb:b < Γ.w0.heap.size:=by
  unfold World.cell? at hc
  split at hc
  ·rename_i hh;exact lt_of_heap hh
  ·cases hc
 have hcw:w.cell? ⟨b,o,none⟩=some u:=(World.cell?_of_block (w:=Γ.w0) (m.block b hb (hE b))).trans hc
 exact⟨u,fun _ _ _ _ w' hw=>run_load1 ho hg hv (cell_below hw hcw) _ _ _ _,rfl⟩
theorem ev_len_val {t':TypeId} {ao:Option Addr} {n:Nat} {cap:Nat} (t2:Nat) (ht:Γ.sh t = .slice t') (hx:L.get t2 = .val (.slice ao n cap)) (hn:n≤maxLen):Ev Γ (lo k) L H (.call { callee:=.builtin .len,args:=#[.tmp t2],argTypes:=#[t] }) ty (.d (.int .i64 n)):=by
 intro e a w m
 have hv:a.eval (.tmp t2) = .slice ao n cap:=by
  have h1:=m.slot t2
  rw [hx] at h1
  exact h1
 refine⟨.int .i64 n,fun _ _ _ _ w' _=>?_,.int (WalkArith.wf_i64 (by unfold maxLen at hn;omega))⟩
 simp [execOp,resolve,invoke,builtin,hv,Builtin.len_,goInt,run_underlying (Ctx.slice ht)]
end
theorem Oper.wp_in2 {ro:Option Nat} {P:Program} {o:Oper} {a:Act} {w:World} {K K':Act→World→Prop} {Q Q':Exit→Act→World→Prop} (hd:∀ c,o.op≠.defer c) (hK:∀ a w,K a w→K' a w)
  (hQ:∀ c a w,Q (.panic c) a w→Q' (.panic c) a w) (hL:¬ LetsOut Q) (h:o.wp P a w K Q):o.wpIn (wideR ro) 0 P a w K' Q':=by
 refine⟨fun _ _=>trivial,?_⟩
 rw [Oper.semAt_eq _ _ _ hd]
 unfold Oper.wp at h
 generalize (execOp a.eval o).run P w=r at h
 cases r with
 | ok x w' =>
  cases x <;> simp only [Oper.upon,Oper.uponIn] at h ⊢ <;> first
   | exact hK _ _ h
   | exact h.elim
   | exact⟨depth_wideR,callsIn_wideR (h.mono fun e w'' he=>by cases e <;> first|exact hK _ _ he|exact hQ _ _ _ he|exact absurd he hL)⟩
   | exact⟨depth_wideR,fun c cs _=>let ⟨v,w'',r,s⟩:=h c cs;⟨v,w'',hK _ _ r,stepsIn_wide.2 s⟩⟩
 | halt x w'=>cases x <;> simp only [Oper.upon,Oper.uponIn] at h ⊢ <;> first|exact hQ _ _ _ h|exact h
theorem wpList_app {ro:Option Nat} {P:Program} {ops:Array Oper} {Q Q':Exit→Act→World→Prop} (hQ:∀ c a w,Q (.panic c) a w→Q' (.panic c) a w) (hL:¬ LetsOut Q) (post:List Oper)
  (hn:∀ a w,Q .normal a w→wpListIn (wideR ro) 0 P ops Q' post a w):∀ (l:List Oper),noDefer l=true→∀ a w,wpList P ops Q l a w→wpListIn (wideR ro) 0 P ops Q' (l++post) a w
 | [],_,a,w,h=>hn a w h
 | o::l,hd,a,w,h=>by
  have hd1:=noDefer_spec hd o (List.mem_cons_self ..)
  have hd2:noDefer l=true:=by simp only [noDefer,Bool.and_eq_true] at hd;exact hd.2
  unfold wpList at h
  show wpListIn (wideR ro) 0 P ops Q' (o::(l++post)) a w
  unfold wpListIn
  split at h
  ·rename_i hw
   rw [if_pos hw]
   rcases h with h|h
   ·exact Oper.wp_in2 hd1 (fun a w=>wpList_app hQ hL post hn l hd2 a w) hQ hL h
   ·exact absurd h.2 hL
  ·rename_i hw
   rw [if_neg hw]
   exact⟨fun _ _=>trivial,wpList_app hQ hL post hn l hd2 _ _ h⟩
def DWr (Γ:Ctx) (c:Code) (R:Exit→Act→World→Prop) (k:Nat) (L:Sl) (H:Hp):Prop:=∀ e a w,Models Γ (lo k) L H e a w→c.wpIn (wideR Γ.rd) 0 Γ.P R a w
def rawQ (Γ:Ctx) (R:Exit→Act→World→Prop):Post:=fun ex k L H=>∀ e a w,Models Γ (lo k) L H e a w→R ex a w
section
variable {Γ : Ctx} {k : Nat} {L : Sl} {H : Hp} {R : Exit → Act → World → Prop}
theorem dwr_of {c:Code} (hp:Γ.pan=noPan) (h:DW Γ c (rawQ Γ R) k L H):DWr Γ c R k L H:=fun e a w m=>wpIn_mono (h e a w m) (by
 rintro ex a' w' (⟨k',L',H',e',m',hq⟩|⟨v,_,_,_,hv,_⟩)
 ·exact hq _ _ _ m'
 ·rw [hp] at hv;exact hv.elim)
theorem dwr_seq {x y:Code} (hp:Γ.pan=noPan) (h:DW Γ x (thenD (DWr Γ y R) (rawQ Γ R)) k L H):DWr Γ (.seq x y) R k L H:=fun e a w m=>by
 refine wpIn_seq (wpIn_mono (h e a w m) ?_)
 rintro ex a' w' (⟨k',L',H',e',m',hq⟩|⟨v,_,_,_,hv,_⟩)
 ·cases ex with
  | normal=>exact hq _ _ _ m'
  | _=>exact hq _ _ _ m'
 ·rw [hp] at hv;exact hv.elim
theorem dwr_run {c:Code} {e:Env} {a:Act} {w:World} (m:Models Γ (lo k) L H e a w) (h:DWr Γ c R k L H):c.wpIn (wideR Γ.rd) 0 Γ.P R a w:=h e a w m
theorem dw_run {Q:Post} {c:Code} {e:Env} {a:Act} {w:World} (m:Models Γ (lo k) L H e a w) (h:DW Γ c Q k L H):c.wpIn (wideR Γ.rd) 0 Γ.P (lift Γ Q) a w:=h e a w m
end
section
variable {Γ : Ctx} {k : Nat} {L : Sl} {H : Hp} {R : Exit → Act → World → Prop}
theorem dwr_seqR {x y:Code} (h:DWr Γ x (Exit.then (y.wpIn (wideR Γ.rd) 0 Γ.P R) R) k L H):DWr Γ (.seq x y) R k L H:=fun e a w m=>wpIn_seq (h e a w m)
theorem dwr_block {id:Nat} {c:Code} (h:DWr Γ c (Exit.inBlock id R) k L H):DWr Γ (.block id c) R k L H:=fun e a w m=>wpIn_block (h e a w m)
end
abbrev Oit (X:Nat→Prop) (W0 W:World):Nat→Prop:=fun b=>b < W.heap.size∧(X b∨W0.heap.size≤b)
theorem it_rel {P:Program} {τ:List (Nat × TI)} {τok:TabOk P τ} {N:Nat} {X:Nat→Prop} {W0 W:World} (hs:W0.heap.size≤W.heap.size) (hfr:∀ b,b < W0.heap.size→¬ X b→W.heap[b]? = W0.heap[b]?)
  {s:SV} {v:Value} {e0:Env} (hlow:s.low 0=true) (h:Rel X e0 W0 s v) {k:Nat→Prop} {H:Hp} {e:Env} {w:World} (hh:Heap (Γit P τ τok (Oit X W0 W) W N) k H e w):Rel (Ctx.X (Γit P τ τok (Oit X W0 W) W N) e H) e w s v:=by
 have hb:=hh.it_below
 refine Rel.keep (Nat.le_trans hs hb.size) (fun b hb1 hx=>(hb.block b (Nat.lt_of_lt_of_le hb1 hs)).trans (hfr b hb1 hx)) (fun b hb1 hx=>?_) _ _ (Rel.env _ _ hlow h)
 rcases hx with hx|hx
 ·rcases hx.2 with h1|h1
  ·exact h1
  ·omega
 ·rcases (hh.mine b hx).1 with h1|h1
  ·exact h1.elim
  ·have h1:W.heap.size≤b:=h1
   omega
theorem ent_freeze {Γ:Ctx} {k:Nat} {L:Sl} {H:Hp} (t i:Nat) {f:FuncId} {ty:TypeId} {ds:List D} (hL:L.get t = .fn f [.loc i 0]) (hH:Hp.get H i=some (.blk ty (ds.map .d))):Ent Γ k L H k ((t,.fn f [.pd ds])::L) (Hp.del H i):=by
 intro e a w m
 obtain⟨m2,hX⟩:=m.del i
 have hmem:=Hp.mem_of hH
 refine⟨e,m2.toHeap,m2.defers,m2.len,fun t'=>?_⟩
 rw [Sl.get_cons]
 split
 ·rename_i ht
  subst ht
  have hs:=m.slot t
  rw [hL] at hs
  obtain⟨vs,h1,h2⟩:=hs
  refine⟨vs,h1,?_⟩
  match vs,h2 with
  | [v],⟨⟨_,hv⟩,_⟩ =>
   refine⟨?_,trivial⟩
   obtain⟨us,g1,g2,_⟩:=(m.heap _ hmem).2
   have hown:HB.owned e (i,.blk ty (ds.map .d))=some (e.β i):=rfl
   refine⟨e.β i,0,hv,lt_of_heap g1,fun hx=>?_,fun j hj=>?_⟩
   ·rcases hx with hx|hx
    ·exact (m.mine _ (List.mem_filterMap.2 ⟨_,hmem,hown⟩)).2 hx
    ·obtain⟨p,hp,hpg⟩:=List.mem_filterMap.1 hx
     have hd:=Hp.del_mem (i:=i) H m.ids p hp
     exact m.owned_ne hd.1 hmem hd.2 hpg hown
   ·obtain⟨u,g3,g4⟩:=RelL.get _ _ g2 j (.d ds[j]) (by rw [List.getElem?_map,List.getElem?_eq_getElem hj];rfl)
    refine⟨u,?_,RepC.keep (Nat.le_refl _) (fun _ _ _=>rfl) (fun b _ h=>hX b h) g4⟩
    rw [cell_of_row w _ _ _ ty (0,0) g1,Nat.zero_add];simpa using g3
 ·exact m2.slot t'
theorem dwr_yield {P:Program} {τ:List (Nat × TI)} {τok:TabOk P τ} {O:Nat→Prop} {W:World} {N:Nat} {k:Nat} {L:Sl} {H:Hp} {R:Exit→Act→World→Prop}
  {id l d:Nat} {xs:List Operand} {ts:Array TypeId} {ty:TypeId} {pos:String} {af:Array Edge} {pre post:List Oper} {fy:Nat} (hn:noDefer pre=true) (hnp:noDefer post=true) (hdN:d < N) (Lf:Sl) (hf:flatB Lf=true) (Lp:Bool→Sl)
  (J' Jx:World→Prop)
  (hpre:DL (Γit P τ τok O W N) (pre++⟨some d,.call { callee:=.value (.tmp fy),args:=xs.toArray,argTypes:=ts },ty,pos,af,none⟩::post) pre (fun _ L' _=>L'.get fy = .val (.func (.yield l) #[] #[])∧opsOk xs=true∧Kepts L' Lf ∧
   ∀ e W' vs,Below W.heap.size W W'→RelL O e W' (opsL L' xs) vs→∃ r:Loop,W'.heap[l]? = some (Obj.loop r)∧vs.toArray.size=r.params.size ∧
    RoundIn Fence.wide 0 P l r.fn ((r.params.zip vs.toArray).foldl (fun t (p,v)=>t.setIfInBounds p v) r.tmps) r.assign r.body W'
     (fun en W''=>(en = .returned (.bool true)∧J' W'')∨(en = .returned (.bool false)∧Jx W''))) k L H)
  (hpost:∀ (b:Bool) (W':World),DL (Γit P τ τok (fun _=>False) W' N) (pre++⟨some d,.call { callee:=.value (.tmp fy),args:=xs.toArray,argTypes:=ts },ty,pos,af,none⟩::post) post (fun _ L' H'=>H' = []∧Kepts L' (Lp b)∧flatB (Lp b)=true) 0 ((d,.d (.bool b))::Lf) [])
  (hR:∀ (b:Bool) a' W',Flat N (Lp b) a'→(∃ W1,Below W1.heap.size W1 W'∧((b=true∧J' W1)∨(b=false∧Jx W1)))→R .normal a' W') :
  DWr (Γit P τ τok O W N) (.region id (pre++⟨some d,.call { callee:=.value (.tmp fy),args:=xs.toArray,argTypes:=ts },ty,pos,af,none⟩::post).toArray false) R k L H:=by
 intro e a w m
 refine wpIn_region_lit ?_
 refine wpList_app (Q:=lift (Γit P τ τok O W N) (onNormal _)) ?_ letsOut_lift _ ?_ pre hn a w (hpre e a w m)
 ·rintro c a' w' (⟨_,_,_,_,_,hx,_⟩|⟨_,_,_,_,hv,_⟩)
  ·cases hx
  ·exact hv.elim
 rintro a' w' (⟨k',L',H',e',m',_,hy,hok,hkf,hround⟩|⟨_,_,_,hx,_⟩)
 rotate_left
 ·cases hx
 have hfl:=m'.flatten hkf hf
 unfold wpListIn
 rw [if_pos (by rfl)]
 refine⟨fun _ _=>trivial,?_⟩
 rw [Oper.semAt_eq _ _ _ (by intro c h;cases h)]
 have hyv:a'.eval (.tmp fy) = .func (.yield l) #[] #[]:=by
  have h1:=m'.slot fy
  rw [hy] at h1
  exact h1
 have hb:=m'.toHeap.it_below
 obtain⟨r,h1,h2,h3⟩:=hround e' w' (xs.map a'.eval) hb (RelL.keep (Nat.le_refl _) (fun _ _ _=>rfl) (fun b _ hx=>.inl hx) _ _ (opsL_rel m' xs hok))
 have hrun:(execOp a'.eval ⟨some d,.call { callee:=.value (.tmp fy),args:=xs.toArray,argTypes:=ts },ty,pos,af,none⟩).run P w' =
   .ok (.round l r.fn ((r.params.zip (xs.map a'.eval).toArray).foldl (fun t (p,v)=>t.setIfInBounds p v) r.tmps) r.assign r.body) w':=by
  simp only [execOp,resolve]
  simp only [hyv]
  have:=run_yield (P:=P) (w:=w') h1 h2
  simp [Deferred.ofValue,invoke,this]
 rw [hrun]
 rw [Oper.uponIn_round]
 refine⟨depth_wideR,h3.mono ?_⟩
 have fin:∀ (b:Bool) W1,((b=true∧J' W1)∨(b=false∧Jx W1))→wpListIn (wideR none) 0 P (pre++⟨some d,.call { callee:=.value (.tmp fy),args:=xs.toArray,argTypes:=ts },ty,pos,af,none⟩::post).toArray R post (a'.put (some d) (.bool b)) W1:=by
  intro b W1 hj
  have m2:Models (Γit P τ τok (fun _=>False) W1 N) (lo 0) ((d,.d (.bool b))::Lf) [] ⟨fun _=>0,fun _=>undef,lo 0⟩ (a'.put (some d) (.bool b)) W1 :=
   (hfl.models W1 (fun _ h=>h.elim)).put (s:=.d (.bool b)) hdN RepC.bool
  have:=wpList_app (ro:=none) (Q:=lift (Γit P τ τok (fun _=>False) W1 N) (onNormal _)) (Q':=R) ?_ letsOut_lift [] ?_ post hnp _ _ (hpost b W1 _ _ _ m2)
  ·rw [List.append_nil] at this;exact this
  ·rintro c a' w' (⟨_,_,_,_,_,hx,_⟩|⟨_,_,_,_,hv,_⟩)
   ·cases hx
   ·exact hv.elim
  ·rintro a3 w3 (⟨k3,L3,H3,e3,m3,_,rfl,hk3,hf3⟩|⟨_,_,_,hx,_⟩)
   ·exact hR b a3 w3 (m3.flatten hk3 hf3) ⟨W1,m3.toHeap.it_below,hj⟩
   ·cases hx
 rintro en W1 (⟨rfl,hj⟩|⟨rfl,hj⟩)
 ·exact fin true W1 (.inl ⟨rfl,hj⟩)
 ·exact fin false W1 (.inr ⟨rfl,hj⟩)
theorem dwr_yieldL {P:Program} {τ:List (Nat × TI)} {τok:TabOk P τ} {O:Nat→Prop} {W:World} {N:Nat} {k:Nat} {L:Sl} {H:Hp} {R:Exit→Act→World→Prop}
  {id l d:Nat} {xs:List Operand} {ts:Array TypeId} {ty:TypeId} {pos:String} {af:Array Edge} {ops pre post:List Oper} {fy:Nat} (hl:ops=pre++⟨some d,.call { callee:=.value (.tmp fy),args:=xs.toArray,argTypes:=ts },ty,pos,af,none⟩::post)
  (hn:noDefer pre=true) (hnp:noDefer post=true) (hdN:Nat.blt d N=true) (Lf:Sl) (hf:flatB Lf=true) (Lp:Bool→Sl)
  (J' Jx:World→Prop)
  (hpre:DS false (Γit P τ τok O W N) ops pre (fun _ L' _=>L'.get fy = .val (.func (.yield l) #[] #[])∧opsOk xs=true∧Kepts L' Lf ∧
   ∀ e W' vs,Below W.heap.size W W'→RelL O e W' (opsL L' xs) vs→∃ r:Loop,W'.heap[l]? = some (Obj.loop r)∧vs.toArray.size=r.params.size ∧
    RoundIn Fence.wide 0 P l r.fn ((r.params.zip vs.toArray).foldl (fun t (p,v)=>t.setIfInBounds p v) r.tmps) r.assign r.body W'
     (fun en W''=>(en = .returned (.bool true)∧J' W'')∨(en = .returned (.bool false)∧Jx W''))) k L H)
  (hpost:∀ (b:Bool) (W':World),DS false (Γit P τ τok (fun _=>False) W' N) ops post (fun _ L' H'=>H' = []∧Kepts L' (Lp b)∧flatB (Lp b)=true) 0 ((d,.d (.bool b))::Lf) [])
  (hR:∀ (b:Bool) a' W',Flat N (Lp b) a'→(∃ W1,Below W1.heap.size W1 W'∧((b=true∧J' W1)∨(b=false∧Jx W1)))→R .normal a' W') :
  DWr (Γit P τ τok O W N) (.region id ops.toArray false) R k L H:=by
 subst hl
 exact dwr_yield hn hnp (Nat.le_of_ble_eq_true hdN) Lf hf Lp J' Jx hpre hpost hR
end Go.Proofs.YtapciiffpnociacGreat

/- relation.Set, Has. Condition: none. -/
namespace Go.Proofs.YtapciiffpnociacGreat
open Go Go.RowKit
theorem FnP.imp {dr:Bool} {P:Program} {τ:List (Nat × TI)} {τok:TabOk P τ} {f:FuncId} {args:List SV} {R R':SV→Prop} (h:FnP dr P τ τok f args R) (g:∀ r,R r→R' r):FnP dr P τ τok f args R' :=
 ⟨h.1,fun O e w vs hH hr=>(h.2 O e w vs hH hr).mono fun _ _ ⟨k',r,H',e',v,⟨a,b,c⟩,d⟩=>⟨k',r,H',e',v,⟨a,b,g r c⟩,d⟩⟩
attribute [local irreducible] DW DS DL DQ Ev FnOk FnP thenD inBlockD DT
theorem keepS_fn (l:List Fct) (g:FuncId) (caps:List SV) (pr:Fct→Bool) (hlow:SV.lowL 0 caps=true) (hl:l.length≤4398046511104) (hargs:∀ x∈l,x.args.length≤17592186044416) (hg:∀ x∈l,Fn g ([elFct x]++caps) (fun r=>r = .d (.bool (pr x)))) :
  Fn 91 [.d (.slice 2 (l.map encFct)),.fn g caps] (fun r=>r = .d (.slice 2 ((setF' (l.filter pr)).map encFct))) :=
 FnP.imp (keep_fn l g caps pr hlow hl hargs hg) fun r ⟨s,h1,h2,h3⟩=>by rw [h3,keep_set h1 h2]
set_option maxHeartbeats 8000000 in
theorem set_fn (l:List Fct) (hl:l.length≤4398046511104) (hargs:∀ x∈l,x.args.length≤17592186044416):Fn 48 [.d (.slice 2 (l.map encFct))] (fun r=>r = .d (.slice 2 ((setF' l).map encFct))):=by
 refine fnp_enter' _ Tryz.func48 rfl rfl (by kernel_rfl) ?_
 intro O w0 E0 β0
 have hk:=keepS_fn l 92 [] (fun _=>true) rfl hl hargs (fun x _=>setAny_fn x)
 rw [show l.filter (fun _=>true)=l from List.filter_eq_self.2 fun _ _=>rfl] at hk
 repeat' (first|refine z0 ?_|apply ds_nil|apply dw_seq2|refine z16 ?_|apply dw_ret|apply thenD_n|refine z21 ?_ (hc:=by apply hk)|fail)
 exact⟨.inl rfl,_,rfl,rfl,rfl⟩
set_option maxHeartbeats 8000000 in
theorem minus1_fn (m:List Fct) (x:Fct) (hm:m.length≤4398046511104) (hs:Strict m):Fn 108 [elFct x,.pd [.slice 2 (m.map encFct)]] (fun r=>r = .d (.bool (!hasF m x))):=by
 refine fnp_enter' _ Tryz.func108 rfl rfl (by kernel_rfl) ?_
 intro O w0 E0 β0
 have hi:=in_fn m x hm hs
 repeat' (first|refine z0 ?_|apply ds_nil|apply dw_seq2|refine z16 ?_|apply dw_ret|apply thenD_n|refine z21 ?_ (hc:=by apply hi)|refine z1 ?_|fail)
 exact⟨.inl rfl,_,rfl,rfl,rfl⟩
set_option maxHeartbeats 8000000 in
theorem minus_fn (l m:List Fct) (hl:l.length≤4398046511104) (hm:m.length≤4398046511104) (ha:∀ x∈l,x.args.length≤17592186044416) (hb:∀ x∈m,x.args.length≤17592186044416) :
  Fn 71 [.d (.slice 2 (l.map encFct)),.d (.slice 2 (m.map encFct))] (fun r=>r = .d (.slice 2 ((setF' (l.filter fun x=>!hasF (setF' m) x)).map encFct))):=by
 refine fnp_enter' _ Tryz.func71 rfl rfl (by kernel_rfl) ?_
 intro O w0 E0 β0
 have h1:=set_fn m hm hb
 have hsl:(setF' m).length≤4398046511104:=by have:=setF_len m [];simp at this;unfold setF';omega
 have hk:=keepS_fn l 108 [.pd [.slice 2 ((setF' m).map encFct)]] (fun x=>!hasF (setF' m) x) rfl hl ha (fun x _=>minus1_fn (setF' m) x hsl (setF_spec m).1)
 repeat' (first|refine z0 ?_|apply ds_nil|apply dw_seq2|refine z16 ?_|apply thenD_n|refine z21 ?_ (hc:=by apply h1)|refine z1 ?_|refine z3 ?_|fail)
 refine ds_ent (ent_freeze (ds:=[.slice 2 ((setF' m).map encFct)]) 9 0 rfl rfl) ?_
 repeat' (first|refine z0 ?_|apply ds_nil|apply dw_ret|apply thenD_n|refine z21 ?_ (hc:=by apply hk)|fail)
 exact⟨.inl rfl,_,rfl,rfl,rfl⟩
end Go.Proofs.YtapciiffpnociacGreat

/- Plain words: heads of a rule's ways, as the document and the program make them. Condition: none. -/
namespace Go.Proofs.YtapciiffpnociacGreat
def minI (n y:Int):Int:=if y < n then y else n
def maxI (n y:Int):Int:=if n < y then y else n
def minL:List Int→Int
 | []=>0
 | x::l=>l.foldl minI x
def maxL:List Int→Int
 | []=>0
 | x::l=>l.foldl maxI x
def stepN (fold:Int) (st:Int × Int) (x:Int):Int × Int :=
 (if fold=1 then st.2 + 1 else if fold=2 then st.1 + x else if st.2 + 1=1∨(fold=3∧x < st.1)∨(fold=4∧st.1 < x) then x else st.1,st.2 + 1)
def foldN (fold:Int) (l:List Int):Int:=(l.foldl (stepN fold) (0,0)).1
def valP (fold:Int) (l:List Int):Int:=if fold=1 then l.length else if fold=3 then minL l else if fold=4 then maxL l else l.sum
def okP (fold:Int) (l:List Int):Bool:=if fold=1∨fold=3∨fold=4 then true else numB l.sum
theorem stepN_1:∀ (l:List Int) (n m:Int),l≠[]→(l.foldl (stepN 1) (n,m)).1=m + l.length
 | [x],n,m,_=>by simp [stepN]
 | x::y::l,n,m,_=>by
  rw [List.foldl_cons,show stepN 1 (n,m) x=(m + 1,m + 1) by simp [stepN],stepN_1 (y::l) _ _ (by simp)]
  simp only [List.length_cons];omega
theorem stepN_2:∀ (l:List Int) (n m:Int),(l.foldl (stepN 2) (n,m)).1=n + l.sum
 | [],n,m=>by simp
 | x::l,n,m=>by
  rw [List.foldl_cons,show stepN 2 (n,m) x=(n + x,m + 1) by simp [stepN],stepN_2 l,List.sum_cons];omega
theorem stepN_3:∀ (l:List Int) (n m:Int),1≤m→(l.foldl (stepN 3) (n,m)).1=l.foldl minI n
 | [],n,m,_=>rfl
 | x::l,n,m,hm=>by
  have:stepN 3 (n,m) x=(minI n x,m + 1):=by
   unfold stepN minI
   have:¬ (m + 1=1):=by omega
   simp [this]
  rw [List.foldl_cons,this,stepN_3 l _ _ (by omega),List.foldl_cons]
theorem stepN_4:∀ (l:List Int) (n m:Int),1≤m→(l.foldl (stepN 4) (n,m)).1=l.foldl maxI n
 | [],n,m,_=>rfl
 | x::l,n,m,hm=>by
  have:stepN 4 (n,m) x=(maxI n x,m + 1):=by
   unfold stepN maxI
   have:¬ (m + 1=1):=by omega
   simp [this]
  rw [List.foldl_cons,this,stepN_4 l _ _ (by omega),List.foldl_cons]
theorem minI_in {P:Int→Prop}:∀ (l:List Int) (n:Int),P n→(∀ x∈l,P x)→P (l.foldl minI n)
 | [],_,h,_=>h
 | x::l,n,h,hl=>by
  rw [List.foldl_cons]
  refine minI_in l _ ?_ fun y hy=>hl y (List.mem_cons_of_mem _ hy)
  unfold minI;split
  ·exact hl x (List.mem_cons_self ..)
  ·exact h
theorem maxI_in {P:Int→Prop}:∀ (l:List Int) (n:Int),P n→(∀ x∈l,P x)→P (l.foldl maxI n)
 | [],_,h,_=>h
 | x::l,n,h,hl=>by
  rw [List.foldl_cons]
  refine maxI_in l _ ?_ fun y hy=>hl y (List.mem_cons_of_mem _ hy)
  unfold maxI;split
  ·exact hl x (List.mem_cons_self ..)
  ·exact h
theorem numB_of {n:Int} (h:-1000000≤n∧n≤1000000):numB n=true:=by unfold numB inR;simp;omega
theorem fold_same {fold:Int} {l:List Int} (hf:fold=1∨fold=2∨fold=3∨fold=4) (hl:l≠[]) (hn:∀ x∈l,-1000000≤x∧x≤1000000) (hlen:l.length≤1000000) :
  foldN fold l=valP fold l∧numB (foldN fold l)=okP fold l:=by
 have key:foldN fold l=valP fold l:=by
  unfold foldN valP
  rcases hf with rfl|rfl|rfl|rfl
  ·rw [stepN_1 l _ _ hl];simp
  ·rw [stepN_2];simp
  ·obtain⟨x,l,rfl⟩:=List.exists_cons_of_ne_nil hl
   rw [List.foldl_cons,show stepN 3 (0,0) x=(x,1) by simp [stepN],stepN_3 _ _ _ (by omega)]
   simp [minL]
  ·obtain⟨x,l,rfl⟩:=List.exists_cons_of_ne_nil hl
   rw [List.foldl_cons,show stepN 4 (0,0) x=(x,1) by simp [stepN],stepN_4 _ _ _ (by omega)]
   simp [maxL]
 refine⟨key,?_⟩
 rw [key]
 unfold valP okP
 rcases hf with rfl|rfl|rfl|rfl
 ·simp only [if_true,true_or];exact numB_of (by omega)
 ·simp
 ·obtain⟨x,l,rfl⟩:=List.exists_cons_of_ne_nil hl
  simp only [show ¬ ((3:Int)=1) by omega,if_false,if_true,true_or,or_true]
  exact numB_of (minI_in (P:=fun z=>-1000000≤z∧z≤1000000) l x (hn x (List.mem_cons_self ..)) fun y hy=>hn y (List.mem_cons_of_mem _ hy))
 ·obtain⟨x,l,rfl⟩:=List.exists_cons_of_ne_nil hl
  simp only [show ¬ ((4:Int)=1) by omega,show ¬ ((4:Int)=3) by omega,if_false,if_true,or_true]
  exact numB_of (maxI_in (P:=fun z=>-1000000≤z∧z≤1000000) l x (hn x (List.mem_cons_self ..)) fun y hy=>hn y (List.mem_cons_of_mem _ hy))
abbrev Gr:=List Int × List Int
def grpL (ws:List (List Int × Int)) (p:List Int):List Int:=(ws.filter fun w=>decide (w.1=p)).map (·.2)
def addG (gs:List Gr) (w:List Int × Int):List Gr:=match gs[gs.findIdx fun g=>decide (g.1=w.1)]? with
 | some g=>gs.set (gs.findIdx fun g=>decide (g.1=w.1)) (g.1,g.2++[w.2])
 | none=>gs++[(w.1,[w.2])]
def groupsL (ws:List (List Int × Int)):List Gr:=ws.foldl addG []
structure InvG (gs:List Gr) (ws:List (List Int × Int)):Prop where
 uniq:∀ (j k:Nat) (g h:Gr),gs[j]? = some g→gs[k]? = some h→g.1=h.1→j=k
 vals:∀ g∈gs,g.2=grpL ws g.1
 here:∀ g∈gs,∃ w∈ws,w.1=g.1
 all:∀ w∈ws,∃ g∈gs,g.1=w.1
theorem grpL_snoc (ws:List (List Int × Int)) (w:List Int × Int) (p:List Int):grpL (ws++[w]) p=grpL ws p++if w.1=p then [w.2] else []:=by
 unfold grpL
 rw [List.filter_append,List.map_append]
 congr 1
 by_cases h:w.1=p
 ·simp [h]
 ·simp [h]
theorem grpL_none {ws:List (List Int × Int)} {p:List Int} (h:∀ w∈ws,w.1≠p):grpL ws p=[]:=by
 unfold grpL
 rw [List.filter_eq_nil_iff.2 fun w hw=>by simpa using h w hw];rfl
theorem addG_inv {gs:List Gr} {ws:List (List Int × Int)} {w:List Int × Int} (h:InvG gs ws):InvG (addG gs w) (ws++[w]):=by
 unfold addG
 cases hx:gs[gs.findIdx fun g=>decide (g.1=w.1)]? with
 | none =>
  have hn:∀ g∈gs,g.1≠w.1:=by
   intro g hg he
   have:=List.findIdx_lt_length_of_exists (xs:=gs) (p:=fun g=>decide (g.1=w.1)) ⟨g,hg,decide_eq_true he⟩
   rw [List.getElem?_eq_getElem this] at hx;cases hx
  refine⟨fun j k g g' hj hk he=>?_,fun g hg=>?_,fun g hg=>?_,fun x hx=>?_⟩
  ·rw [List.getElem?_append] at hj hk
   by_cases h1:j < gs.length <;> by_cases h2:k < gs.length
   ·rw [if_pos h1] at hj;rw [if_pos h2] at hk;exact h.uniq j k g g' hj hk he
   ·rw [if_pos h1] at hj;rw [if_neg h2] at hk
    have hg':g' = (w.1,[w.2]):=by
     by_cases h3:k - gs.length=0
     ·rw [h3] at hk;simpa using hk.symm
     ·rw [List.getElem?_eq_none (by simp;omega)] at hk;cases hk
    rw [hg'] at he
    exact absurd he (hn g (List.mem_of_getElem? hj))
   ·rw [if_neg h1] at hj;rw [if_pos h2] at hk
    have hg':g=(w.1,[w.2]):=by
     by_cases h3:j - gs.length=0
     ·rw [h3] at hj;simpa using hj.symm
     ·rw [List.getElem?_eq_none (by simp;omega)] at hj;cases hj
    rw [hg'] at he
    exact absurd he.symm (hn g' (List.mem_of_getElem? hk))
   ·rw [if_neg h1] at hj;rw [if_neg h2] at hk
    have h3:j - gs.length=0:=by
     apply Classical.byContradiction;intro h3
     rw [List.getElem?_eq_none (by simp;omega)] at hj;cases hj
    have h4:k - gs.length=0:=by
     apply Classical.byContradiction;intro h4
     rw [List.getElem?_eq_none (by simp;omega)] at hk;cases hk
    omega
  ·rw [grpL_snoc]
   rcases List.mem_append.1 hg with hg|hg
   ·rw [if_neg (Ne.symm (hn g hg)),List.append_nil];exact h.vals g hg
   ·rw [List.mem_singleton] at hg;subst hg
    rw [if_pos rfl,grpL_none fun x hx he=>?_];· rfl
    obtain⟨g,hg,hge⟩:=h.all x hx
    exact hn g hg (hge.trans he)
  ·rcases List.mem_append.1 hg with hg|hg
   ·obtain⟨x,h1,h2⟩:=h.here g hg;exact⟨x,List.mem_append_left _ h1,h2⟩
   ·rw [List.mem_singleton] at hg;subst hg;exact⟨w,List.mem_append_right _ (by simp),rfl⟩
  ·rcases List.mem_append.1 hx with hx|hx
   ·obtain⟨g,h1,h2⟩:=h.all x hx;exact⟨g,List.mem_append_left _ h1,h2⟩
   ·rw [List.mem_singleton] at hx;subst hx;exact⟨_,List.mem_append_right _ (List.mem_singleton.2 rfl),rfl⟩
 | some g0 =>
  obtain⟨hi,hg0⟩:=List.getElem?_eq_some_iff.1 hx
  have hk0:g0.1=w.1:=by
   have:=List.findIdx_getElem (xs:=gs) (p:=fun g=>decide (g.1=w.1)) (w:=hi)
   rw [hg0] at this
   exact of_decide_eq_true this
  simp only
  generalize gs.findIdx (fun g=>decide (g.1=w.1))=i at hx hi hg0
  have hget:∀ (j:Nat) (g:Gr),(gs.set i (g0.1,g0.2++[w.2]))[j]? = some g→∃ g',gs[j]? = some g'∧g.1=g'.1∧((j=i∧g=(g0.1,g0.2++[w.2]))∨(j≠i∧g=g')):=by
   intro j g hj
   by_cases hq:i=j
   ·subst hq
    rw [List.getElem?_set_self hi] at hj
    cases hj
    exact⟨g0,hx,rfl,.inl ⟨rfl,rfl⟩⟩
   ·rw [List.getElem?_set_ne hq] at hj
    exact⟨g,hj,rfl,.inr ⟨Ne.symm hq,rfl⟩⟩
  refine⟨fun j k g g' hj hk he=>?_,fun g hg=>?_,fun g hg=>?_,fun x hx'=>?_⟩
  ·obtain⟨a,a1,a2,_⟩:=hget j g hj
   obtain⟨b,b1,b2,_⟩:=hget k g' hk
   exact h.uniq j k a b a1 b1 (a2.symm.trans (he.trans b2))
  ·obtain⟨j,hj⟩:=List.getElem?_of_mem hg
   obtain⟨a,a1,a2,a3⟩:=hget j g hj
   rw [grpL_snoc]
   rcases a3 with ⟨rfl,rfl⟩|⟨a3,rfl⟩
   ·rw [if_pos hk0.symm]
    simp only
    rw [h.vals g0 (List.mem_of_getElem? hx)]
   ·rw [if_neg fun he=>a3 (h.uniq j i g g0 a1 hx (he.symm.trans hk0.symm)),List.append_nil]
    exact h.vals g (List.mem_of_getElem? a1)
  ·obtain⟨j,hj⟩:=List.getElem?_of_mem hg
   obtain⟨a,a1,a2,_⟩:=hget j g hj
   obtain⟨x,h1,h2⟩:=h.here a (List.mem_of_getElem? a1)
   exact⟨x,List.mem_append_left _ h1,h2.trans a2.symm⟩
  ·have hmem:∀ a∈gs,∃ g∈gs.set i (g0.1,g0.2++[w.2]),g.1=a.1:=by
    intro a ha
    obtain⟨j,hj⟩:=List.getElem?_of_mem ha
    by_cases hq:i=j
    ·subst hq
     rw [hx] at hj;cases hj
     exact⟨_,List.mem_of_getElem? (List.getElem?_set_self hi),rfl⟩
    ·exact⟨a,List.mem_of_getElem? ((List.getElem?_set_ne hq).trans hj),rfl⟩
   rcases List.mem_append.1 hx' with hx'|hx'
   ·obtain⟨a,h1,h2⟩:=h.all x hx'
    obtain⟨g,k1,k2⟩:=hmem a h1
    exact⟨g,k1,k2.trans h2⟩
   ·rw [List.mem_singleton] at hx';subst hx'
    obtain⟨g,k1,k2⟩:=hmem g0 (List.mem_of_getElem? hx)
    exact⟨g,k1,k2.trans hk0⟩
theorem groups_inv':∀ (ws vs:List (List Int × Int)) (gs:List Gr),InvG gs vs→InvG (ws.foldl addG gs) (vs++ws)
 | [],vs,gs,h=>by rw [List.append_nil];exact h
 | w::ws,vs,gs,h=>by
  have:=groups_inv' ws (vs++[w]) (addG gs w) (addG_inv h)
  rw [List.append_assoc] at this
  exact this
theorem groups_inv (ws:List (List Int × Int)):InvG (groupsL ws) ws:=by
 have:=groups_inv' ws [] [] ⟨fun _ _ _ _ h=>by simp at h,fun _ h=>by simp at h,fun _ h=>by simp at h,fun _ h=>by simp at h⟩
 rw [List.nil_append] at this
 exact this
def aW (r:Rul) (w:List Int):List Int:=r.terms.map (vA w)
def pW (r:Rul) (w:List Int):List Int × Int:=((aW r w).take (r.terms.length - 1),(aW r w).getD (r.terms.length - 1) 0)
def headsD (r:Rul) (ways:List (List Int)):List Fct:=if r.fold=0 then ways.map fun w=>⟨r.pred,aW r w⟩
 else ways.filterMap fun w=>if numB (foldN r.fold (grpL (ways.map (pW r)) (pW r w).1)) then some ⟨r.pred,(pW r w).1++[foldN r.fold (grpL (ways.map (pW r)) (pW r w).1)]⟩ else none
def headsP (r:Rul) (ways:List (List Int)):List Fct:=if r.fold=0 then ways.map fun w=>⟨r.pred,aW r w⟩
 else (groupsL (ways.map (pW r))).filterMap fun g=>if okP r.fold g.2 then some ⟨r.pred,g.1++[valP r.fold g.2]⟩ else none
theorem heads_mem {r:Rul} {ways:List (List Int)} (hf:0≤r.fold∧r.fold≤4) (hn:∀ w∈ways,-1000000≤(pW r w).2∧(pW r w).2≤1000000) (hlen:ways.length≤1000000):∀ x,x∈headsP r ways↔x∈headsD r ways:=by
 intro x
 unfold headsP headsD
 by_cases h0:r.fold=0
 ·rw [if_pos h0,if_pos h0]
 ·rw [if_neg h0,if_neg h0]
  have hI:=groups_inv (ways.map (pW r))
  have hfs:∀ p,(∃ w∈ways.map (pW r),w.1=p)→foldN r.fold (grpL (ways.map (pW r)) p)=valP r.fold (grpL (ways.map (pW r)) p)∧numB (foldN r.fold (grpL (ways.map (pW r)) p))=okP r.fold (grpL (ways.map (pW r)) p):=by
   rintro p ⟨w,hw,rfl⟩
   refine fold_same (by omega) ?_ ?_ ?_
   ·unfold grpL
    intro hc
    have:w.2∈((ways.map (pW r)).filter fun z=>decide (z.1=w.1)).map (·.2):=List.mem_map.2 ⟨w,List.mem_filter.2 ⟨hw,by simp⟩,rfl⟩
    rw [hc] at this;simp at this
   ·intro y hy
    obtain⟨z,hz,rfl⟩:=List.mem_map.1 hy
    obtain⟨u,hu,rfl⟩:=List.mem_map.1 (List.mem_filter.1 hz).1
    exact hn u hu
   ·unfold grpL
    rw [List.length_map]
    refine Nat.le_trans (List.length_filter_le _ _) ?_
    rw [List.length_map];exact hlen
  rw [List.mem_filterMap,List.mem_filterMap]
  constructor
  ·rintro⟨g,hg,hx⟩
   obtain⟨w,hw,hwg⟩:=hI.here g hg
   obtain⟨u,hu,rfl⟩:=List.mem_map.1 hw
   obtain⟨f1,f2⟩:=hfs g.1 ⟨_,hw,hwg⟩
   refine⟨u,hu,?_⟩
   rw [hwg,f2,f1,← hI.vals g hg];exact hx
  ·rintro⟨u,hu,hx⟩
   obtain⟨g,hg,hwg⟩:=hI.all (pW r u) (List.mem_map_of_mem hu)
   obtain⟨f1,f2⟩:=hfs g.1 ⟨_,List.mem_map_of_mem hu,hwg.symm⟩
   refine⟨g,hg,?_⟩
   rw [hI.vals g hg,← f1,← f2,hwg];exact hx
theorem heads_set {r:Rul} {ways:List (List Int)} (hf:0≤r.fold∧r.fold≤4) (hn:∀ w∈ways,-1000000≤(pW r w).2∧(pW r w).2≤1000000) (hlen:ways.length≤1000000):setF' (headsP r ways)=setF' (headsD r ways) :=
 strict_ext (setF_spec _).1 (setF_spec _).1 fun x=>by rw [(setF_spec _).2,(setF_spec _).2,heads_mem hf hn hlen]
end Go.Proofs.YtapciiffpnociacGreat

/- The program's rule.Ways, Args. Condition: none. -/
namespace Go.Proofs.YtapciiffpnociacGreat
open Go Go.RowKit
theorem rulS_mk {arity:List Int} {S:List Fct} {r:Rul} (hr:RulR arity r) (ha:∀ i,0≤arity.getD i 0∧arity.getD i 0≤3) (hS:∀ x∈S,FctOk arity x):RulS S r:=by
 have hv:=hr.vars
 refine⟨⟨fun l hl=>lit_okL (hr.lits l hl) hv.1 hS,fun l hl hk=>?_,fun l hl t ht=>?_,fun x hx=>(hS x hx).nums,hr.body,by omega,fun l hl=>?_⟩,safe_Bd hr.safe,hv⟩
 ·obtain⟨_,h2,_⟩:=litE_right (hr.lits l hl)
  unfold opB inR at h2
  rw [if_pos hk] at h2
  simp only [Bool.and_eq_true,decide_eq_true_eq] at h2
  exact h2
 ·exact ((litE_right (hr.lits l hl)).2.2.2.2 t ht).2.2
 ·obtain⟨h1,_,h3,h4,_⟩:=litE_right (hr.lits l hl)
  by_cases hk:l.kind=1∨l.kind=2
  ·have:=(h3 hk).2
   have:=ha l.pred.toNat
   omega
  ·have:=(h4 hk).2
   omega
attribute [local irreducible] DW DS DL DQ Ev FnOk FnP thenD inBlockD DT
set_option maxHeartbeats 8000000 in
theorem args_fn (l:List Trm) (a:List Int) (hok:∀ t∈l,okT a.length t) (hl:l.length≤1000000):Fn 93 [.d (.slice 2 (l.map encTrm)),.d (.slice 1 (a.map encI))] (fun r=>r = .d (.slice 1 ((l.map (vA a)).map encI))):=by
 refine fnp_enter' _ Tryz.func93 rfl rfl (by kernel_rfl) ?_
 intro O w0 E0 β0
 have ll:(l.map encTrm).length=l.length:=List.length_map _
 have la:(a.map encI).length=a.length:=List.length_map _
 repeat' (first|(apply ds_bs0;exact rfl;exact rfl;exact rfl;exact rfl;exact rfl;exact rfl;exact rfl;exact rfl)|(first|refine z0 ?_|apply ds_nil|apply dw_seq2|refine z16 ?_|apply dw_block|apply thenD_n))
 refine ds_loop (ι:=Nat) (fun i=>⟨1,[(0,.d (.slice 2 (l.map encTrm))),(1,.d (.slice 1 (a.map encI))),(5,.row 0),(9,.d (.slice 2 (l.map encTrm))),(10,.d (.int .i64 l.length)),(11,.d (.int .i64 i))],[(0,.row 3 1 (((l.take i).map (vA a)).map encI))]⟩)
  (fun i=>i≤l.length) (fun i=>l.length - i) 0 (Nat.zero_le _) (ent_ren id ⟨rfl,rfl,rfl,rfl,by rw [← ll];rfl,rfl,trivial⟩ ⟨rfl,trivial⟩ rfl rfl rfl rfl rfl rfl) ?_
 intro i g1
 by_cases hi:i < l.length
 ·have ho:=hok _ (List.getElem_mem hi)
  unfold okT at ho
  have ht:l.take (i + 1)=l.take i++[l[i]]:=List.take_succ_eq_append_getElem hi
  by_cases hv:l[i].var < 0
  ·have hva:vA a l[i]=l[i].n:=by unfold vA;rw [if_pos hv]
   repeat' (first|refine z0 ?_|apply ds_nil|apply dw_seq2|refine z16 ?_|apply dw_block|apply dw_skip|apply dw_exit|apply thenD_n|apply thenD_e|apply inB_n|refine z17 ?_|refine z1 ?_|refine z3 ?_|refine z4 ?_|refine z2 ?_|(refine z23 ?_ ?_ <;> intro hg)|fail)
   all_goals try (exfalso;omega)
   exact⟨i + 1,hi,ent_ren (fun _=>2) ⟨rfl,rfl,rfl,rfl,rfl,rfl,trivial⟩ ⟨by rw [ht,List.map_append,List.map_append,List.map_singleton,hva];rfl,trivial⟩ rfl rfl rfl rfl rfl rfl,by omega⟩
  ·have hlt:l[i].var.toNat < a.length:=by omega
   have hva:vA a l[i]=a[l[i].var.toNat]:=by unfold vA;rw [if_neg hv,List.getD,List.getElem?_eq_getElem hlt];rfl
   repeat' (first|refine z0 ?_|apply ds_nil|apply dw_seq2|refine z16 ?_|apply dw_block|apply dw_skip|apply dw_exit|apply thenD_n|apply thenD_e|apply inB_n|refine z17 ?_|refine z1 ?_|refine z3 ?_|refine z4 ?_|refine z2 ?_|(refine z23 ?_ ?_ <;> intro hg)|fail)
   all_goals try (exfalso;omega)
   exact⟨i + 1,hi,ent_ren (fun _=>2) ⟨rfl,rfl,rfl,rfl,rfl,rfl,trivial⟩ ⟨by rw [ht,List.map_append,List.map_append,List.map_singleton,hva];rfl,trivial⟩ rfl rfl rfl rfl rfl rfl,by omega⟩
 ·rw [List.take_of_length_le (by omega)]
  repeat' (first|refine z0 ?_|apply ds_nil|apply dw_seq2|refine z16 ?_|apply dw_block|apply dw_skip|apply dw_exit|apply thenD_n|apply thenD_e|apply inB_n|refine z17 ?_|refine z1 ?_|refine z3 ?_|refine z4 ?_|refine z2 ?_|(refine z23 ?_ ?_ <;> intro hg)|fail)
  all_goals try (exfalso;omega)
  refine dw_ent (ent_seal 4 rfl rfl rfl) ?_
  repeat' (apply dw_ret)
  exact⟨.inl rfl,_,rfl,rfl,rfl⟩
end Go.Proofs.YtapciiffpnociacGreat

/- The document's SameInts, sameOwnTerms. Condition: none. -/
namespace Go.Proofs.YtapciiffpnociacGreat
open Go Go.RowKit
attribute [local irreducible] DW DS DL DQ Ev FnOk FnP thenD inBlockD DT
def sameI (a b:Int):Bool:=decide (a=b)
theorem ne_not {a b:Int} {c:Bool} (h:decide (a≠b) = !c):sameI a b=c:=by
 unfold sameI
 cases c <;> simp_all
set_option maxHeartbeats 8000000 in
theorem sameInts_fn (l m:List (Int)):Fn 17 [.d (.slice 1 (l.map encI)),.d (.slice 1 (m.map encI))] (fun r=>r = .d (.bool (sameL sameI l m))):=by
 refine fnp_enter' _ Tryz.func17 rfl rfl (by kernel_rfl) ?_
 intro O w0 E0 β0
 refine dw_len_map (t:=0) rfl fun hb=>?_
 repeat' (first|refine z0 ?_|apply ds_nil|apply dw_seq2|refine z16 ?_|apply thenD_n)
 refine dw_condP rfl (fun h=>?_) (fun h=>?_)
 ·have hne:l.length≠m.length:=by rw [List.length_map,List.length_map] at h;omega
  repeat' (first|refine z0 ?_|apply ds_nil|apply dw_seq2|refine z16 ?_|apply dw_ret|apply thenD_n|apply thenD_r)
  exact ret_b rfl (sameL_len _ _ _ hne).symm
 ·have hlen:l.length=m.length:=by rw [List.length_map,List.length_map] at h;omega
  repeat' (first|refine z0 ?_|apply ds_nil|apply dw_seq2|refine z16 ?_|apply dw_block|apply dw_skip|apply thenD_n)
  refine ds_loop (ι:=Nat) (fun i=>⟨0,[(0,.d (.slice 1 (l.map encI))),(1,.d (.slice 1 (m.map encI))),(5,.d (.int .i64 i))],[]⟩)
   (fun i=>i≤l.length∧sameL sameI l m=sameL sameI (l.drop i) (m.drop i)) (fun i=>l.length - i) 0 ⟨Nat.zero_le _,rfl⟩
   (ent_ren id ⟨rfl,rfl,rfl,trivial⟩ trivial rfl rfl rfl rfl rfl rfl) ?_
  rintro i ⟨h1,h2⟩
  repeat' (first|refine z0 ?_|apply ds_nil|apply dw_seq2|refine z16 ?_|apply thenD_n)
  refine dw_condP rfl (fun h=>?_) (fun h=>?_)
  ·have hi:i < l.length:=by rw [List.length_map] at h;omega
   have hm:i < m.length:=by omega
   have hd:=sameL_drop sameI l m i hi hm
   repeat' (first|refine z5 ?_|refine z10 ?_|apply dw_seq2|refine z20 ?_|apply dw_block|apply dw_skip|apply thenD_n)
   refine dw_cond rfl (fun hb=>?_) (fun hb=>?_)
   ·have hp:sameI l[i] m[i]=false:=by exact ne_not hb
    repeat' (first|refine z0 ?_|apply ds_nil|apply dw_seq2|refine z16 ?_|apply dw_ret|apply thenD_n|apply thenD_r|apply inB_r)
    exact ret_b rfl (by rw [h2,hd,hp];rfl)
   ·have hp:sameI l[i] m[i]=true:=by exact ne_not hb
    repeat' (first|refine z0 ?_|apply ds_nil|refine z16 ?_|apply dw_skip|apply thenD_n|apply inB_n)
    exact⟨i + 1,⟨hi,by rw [h2,hd,hp];rfl⟩,ent_ren id ⟨rfl,rfl,rfl,trivial⟩ trivial rfl rfl rfl rfl rfl rfl,by omega⟩
  ·repeat' (first|refine z0 ?_|apply ds_nil|apply dw_seq2|refine z16 ?_|apply dw_exit|apply dw_ret|apply thenD_n|apply thenD_e|refine z17 ?_|fail)
   exact ret_b rfl (by rw [h2,sameL_end _ _ _ _ (by rw [List.length_map] at h;omega) (by rw [List.length_map] at h;omega)])
end Go.Proofs.YtapciiffpnociacGreat
