/- Several texts in one: GxElm GxRng GxItr GxYt WirP RelP. Condition: none. -/
import Derived.Test.YtapciiffpnociacGreatW07
import Derived.Laws.MakeOwn
import Derived.Laws.OwnMore
import Derived.Test.YtapciiffpnociacGreatW01
namespace Go.Proofs.YtapciiffpnociacGreat
open Go Go.RowKit
section
variable {Γ : Ctx} {k : Nat → Prop} {L : Sl} {H : Hp} {K : c6} {ops : List Oper} {rest : List Oper} {a : Act} {w : World} {e : Env} {t t' ty : TypeId} {x y : Operand}
end
section
variable {Γ : Ctx} {k : Nat} {L : Sl} {H : Hp} {K : c6} {ops : List Oper} {rest : List Oper} {t t' ty : TypeId} {x y : Operand} {q : Bool}
theorem nat_sub_1 (a:Nat):((a + 1:Nat):Int) - 1=(a:Int):=by omega
theorem hv_set {α:Type} {f:α→List D} {l:List α} {j o:Nat} {u v:α} {new:List D} (h:spliceD (f u) o new=f v):(l.map f).set j (spliceD (f u) o new)=(l.set j v).map f:=by rw [h,List.map_set]
theorem hv_drop {α:Type} {f:α→List D} {l:List α} {n:Int} {j N:Nat} (hn:n=(j:Int)):(((l.map f).take ((N:Int)).toNat).drop n.toNat)=((l.take N).drop j).map f:=by subst hn;simp
theorem hv_take {α:Type} {f:α→List D} {l:List α} {n:Int} {j:Nat} (hn:n=(j:Int)):(((l.map f).take n.toNat).drop (0:Int).toNat)=(l.take j).map f:=by subst hn;simp
theorem ds_stP {te tb:TypeId} {pos:String} {af:Array Edge} {g:Option (Nat × Bool)} {i j es o:Nat} {xs ys:List (List D)} {s:SV} {ds new:List D} {H':Hp} (hx:bi L x = .prow i j es o) (hH:Hp.get H i=some (.row tb es xs)) (hds:xs[j]? = some ds)
  (hy:bi L y=s) (hd:dcells s=some new) (hys:xs.set j (spliceD ds o new)=ys) (hH':setF H i (.row tb es ys) some=some H') (hyo:opOkB y=true) (hkn:(bg Γ.τ te).sh.known=true) (hn:Nat.beq new.length (bg Γ.τ te).cells=true) (hle:Nat.ble (o + new.length) es=true)
  (hw:bk ops L g=some true) (hk:DS false Γ ops rest K k L H'):DS false Γ ops (⟨none,.store te x y,ty,pos,af,g⟩::rest) K k L H:=by
 have hj:j < xs.length:=(List.getElem?_eq_some_iff.1 hds).1
 have he:=(List.getElem?_eq_some_iff.1 hds).2
 subst hys
 rw [← he] at hH'
 rw [setF_eq] at hH'
 cases hH'
 exact dl_op hw (op_storeP hx hH hj hy hyo hd hkn hn hle) hk
theorem ds_slD {d es:Nat} {xs ys:List (List D)} {lo hi:Option Operand} {n m':Int} {pos:String} {af:Array Edge} {g:Option (Nat × Bool)} (hx:bi L x = .d (.slice es xs)) (ht:(bg Γ.τ t).sh = .slice t') (hc:(bg Γ.τ t').cells=es) (hkn:(bg Γ.τ t').sh.known=true)
  (hl:lowC (lo.map (bi L))=some n) (hh:highC xs.length (hi.map (bi L))=some m') (h0:0≤n∧n≤m'∧m'≤xs.length) (hys:(xs.take m'.toNat).drop n.toNat=ys) (hw:bk ops L g=some true) (hd:Nat.blt d Γ.n=true)
  (hk:DS q Γ ops rest K k ((d,.d (.slice es ys))::L) H):DS q Γ ops (⟨some d,.slice t x lo hi none,ty,pos,af,g⟩::rest) K k L H:=by
 subst hys
 exact ds_ev (ev_sliceD ht hc hkn hx hl hh h0.1 h0.2.1 h0.2.2) hw hd hk
theorem ds_mk (ys:List (List D)) {d n:Nat} {te:TypeId} {pos:String} {af:Array Edge} {g:Option (Nat × Bool)} {x y:Operand} {m':Int} {v0:Value} {x0:D} (hx:bi L x = .d (.int .i64 m')) (hy:bi L y = .d (.int .i64 m')) (hn:m' = (n:Int)) (ht:(bg Γ.τ t).sh = .slice te)
  (hkn:(bg Γ.τ te).sh.known=true) (hes:(bg Γ.τ te).cells=1) (hzero:(bg Γ.τ te).zero=[v0]) (hx0:cSV v0 = .d x0) (hzok:zeroOk (bg Γ.τ te).zero=true) (hroom:(bg Γ.τ te).bytes * n≤281474976710656) (hmax:n≤maxLen) (hys:List.replicate n [x0]=ys)
  (hw:bk ops L g=some true) (hd:Nat.blt d Γ.n=true) (hk:DS false Γ ops rest K (k + 1) ((d,.row k)::L) ((k,.row te 1 ys)::H)):DS false Γ ops (⟨some d,.makeSlice t x y,ty,pos,af,g⟩::rest) K k L H:=by
 subst hys
 exact dl_op hw ((op_mk (lo_not k) ht hkn hes hzero hx0 hzok hx hy hn hroom hmax hd).cast (with1_lo k)) hk
def sealSV (i es:Nat) (xs:List (List D)):SV→SV
 | .row j=>match Nat.beq j i with|true=>.d (.slice es xs)|false=>.row j
 | s=>s
def sealL (i es:Nat) (xs:List (List D)):List SV→List SV
 | []=>[]
 | s::l=>sealSV i es xs s::sealL i es xs l
def scalB:SV→Bool
 | .d (.int _ _)=>true
 | .d (.bool _)=>true
 | .d (.str _)=>true
 | .tup []=>true
 | _=>false
theorem scal_rel {X Y:Nat→Prop} {e e':Env} {w w':World} {s:SV} {v:Value} (h:scalB s=true) (hr:Rel X e w s v):Rel Y e' w' s v:=by
 cases s with
 | d x =>
  cases x with
  | slice=>cases h
  | ptr=>cases h
  | _=>cases hr <;> constructor <;> assumption
 | tup ss =>
  cases ss with
  | nil=>obtain⟨vs,h1,h2⟩:=hr;cases vs with|nil=>exact⟨[],h1,trivial⟩|cons=>exact h2.elim
  | cons=>cases h
 | _=>cases h
theorem dl_callS {f:FuncId} {xs:List Operand} {ts:Array TypeId} {ty:TypeId} {pos:String} {af:Array Edge} {g:Option (Nat × Bool)} {d i es:Nat} {te:TypeId} {ds:List (List D)} {args:List SV} {R:SV→Prop} (hw:bk ops L g=some true)
  (hH:Hp.get H i=some (.row te es ds)) (ha:sealL i es ds (opsL L xs)=args) (hc:FnP Γ.dr Γ.P Γ.τ Γ.τok f args R) (hok:opsOk xs=true) (hlow:SV.lowL 0 args=true) (hd:Nat.blt d Γ.n=true) (hs:∀ r,R r→scalB r=true)
  (hk:∀ r,R r→DL Γ ops rest K k ((d,r)::L) H) :
  DL Γ ops (⟨some d,.call { callee:=.value (.func f),args:=xs.toArray,argTypes:=ts },ty,pos,af,g⟩::rest) K k L H:=by
 refine dl_run hw fun e a w m=>?_
 obtain⟨m2,hX⟩:=m.del i
 have key:∀ (ss:List SV) (vs:List Value),RelL (Γ.X e H) e w ss vs→RelL (Γ.X e (Hp.del H i)) e w (sealL i es ds ss) vs:=by
  intro ss
  induction ss with
  | nil=>intro vs h;cases vs <;> exact h
  | cons s ss ih =>
   intro vs h
   cases vs with
   | nil=>exact h.elim
   | cons v vs =>
    refine⟨?_,ih vs h.2⟩
    have hk:Rel (Γ.X e (Hp.del H i)) e w s v:=Rel.keep (Nat.le_refl _) (fun _ _ _=>rfl) (fun b _ h=>hX b h) _ _ h.1
    unfold sealSV
    split
    ·rename_i j
     cases hb:Nat.beq j i with
     | true =>
      have:=Nat.eq_of_beq_eq_true hb
      subst this
      rw [show v=e.η j from h.1.2.1]
      exact row_data m hH
     | false=>exact hk
    ·exact hk
 unfold Oper.wp
 rw [run_callOp hc.1]
 rw [Oper.upon_enter]
 refine (hc.use (τ:=Γ.τ) (τok:=Γ.τok) (Γ:=Γ) m2 hlow _ (ha▸key _ _ (opsL_rel m xs hok))).mono ?_
 rintro en w' ⟨r,v,hR,rfl,hb,hlr,hrel⟩
 exact⟨k,_,H,e,(m.below hb).put (Nat.le_of_ble_eq_true hd) (scal_rel (hs r hR) hrel),hk r hR⟩
theorem ds_callS (i:Nat) {f:FuncId} {xs:List Operand} {ts:Array TypeId} {ty:TypeId} {pos:String} {af:Array Edge} {g:Option (Nat × Bool)} {d es:Nat} {te:TypeId} {ds:List (List D)} {args:List SV} {R:SV→Prop} (hc:FnP Γ.dr Γ.P Γ.τ Γ.τok f args R)
  (hH:Hp.get H i=some (.row te es ds)) (ha:sealL i es ds (opsL L xs)=args) (hs:∀ r,R r→scalB r=true) (hw:bk ops L g=some true) (hok:opsOk xs=true) (hlow:SV.lowL 0 args=true) (hd:Nat.blt d Γ.n=true)
  (hk:∀ r,R r→DS false Γ ops rest K k ((d,r)::L) H):DS false Γ ops (⟨some d,.call { callee:=.value (.func f),args:=xs.toArray,argTypes:=ts },ty,pos,af,g⟩::rest) K k L H :=
 dl_callS hw hH ha hc hok hlow hd hs hk
theorem dw_lenA (t j:Nat) {c:Code} {Q:Post} {es:Nat} {ss:List SV} {xs:List (List D)} (h:L.get t = .agg ss) (hj:ss[j]? = some (.d (.slice es xs))) (hk:xs.length≤9223372036854775807→DW Γ c Q k L H):DW Γ c Q k L H:=by
 intro e a w m
 have hr:=m.slot t
 rw [h] at hr
 obtain⟨vs,_,h2⟩:=hr
 obtain⟨v,_,h3⟩:=RelL.get _ _ h2 j _ hj
 obtain⟨ao,cap,_,h4,h5,_⟩:=RepC.slice_inv h3
 exact hk (by unfold maxLen at h5;omega) e a w m
theorem dw_stop (id:Nat) {c y:Code} {Q:Post} (h:DW Γ (.seq (.block id c) y) Q k L H):DW Γ (.seq (.block id c) y) Q k L H:=h
theorem dw_stopR (id:Nat) {ops:Array Oper} {b:Bool} {x z:Code} {Q:Post} (h:DW Γ (.seq (.seq (.region id ops b) x) z) Q k L H):DW Γ (.seq (.seq (.region id ops b) x) z) Q k L H:=h
theorem cv (id:Nat) {ops:Array Oper} {b:Bool} {x:Code} {Q:Post} (h:DW Γ (.seq (.region id ops b) x) Q k L H):DW Γ (.seq (.region id ops b) x) Q k L H:=h
theorem dw_cut {ι:Type} {c y:Code} {Q:Post} (I:ι→St) (pre:ι→Prop) (hx:DW Γ c (thenD (fun k' L' H'=>∃ i,pre i∧Ent Γ k' L' H' (I i).k (I i).L (I i).H) Q) k L H) (hy:∀ i,pre i→DW Γ y Q (I i).k (I i).L (I i).H):DW Γ (.seq c y) Q k L H:=by
 intro e a w m
 refine wpIn_seq (wpIn_mono (hx e a w m) ?_)
 rintro ex a' w' (⟨k',L',H',e',m',hq⟩|hf)
 ·cases ex with
  | normal =>
   obtain⟨i,hp,he⟩:=hq
   obtain⟨e2,m2⟩:=he e' a' w' m'
   exact hy i hp e2 a' w' m2
  | _=>exact .inl ⟨k',L',H',e',m',hq⟩
 ·obtain⟨v,k',e',rfl,r⟩:=hf
  exact .inr ⟨v,k',e',rfl,r⟩
theorem ent_trans {k2 k3:Nat} {L2 L3:Sl} {H2 H3:Hp} (h:Ent Γ k L H k2 L2 H2) (g:Ent Γ k2 L2 H2 k3 L3 H3):Ent Γ k L H k3 L3 H3:=fun e a w m =>
 let ⟨e2,m2⟩:=h e a w m
 g e2 a w m2
end
end Go.Proofs.YtapciiffpnociacGreat
namespace Go.Proofs.YtapciiffpnociacGreat
open Go Go.RowKit
def SeqD (P:Program) (gf:FuncId) (caps:List SV) (xs:List (List SV)):Prop :=
 callable P gf=true ∧
 ∀ (X:Nat→Prop) (e:Env) (W0:World) (lb:List Value) (l:Nat) (J:Nat→World→Prop) (Jx:World→Prop),
  (∀ b,X b→b < W0.heap.size)→RelL X e W0 caps lb→J 0 W0 →
  (∀ i W,J i W→W0.heap.size≤W.heap.size∧∀ b,b < W0.heap.size→¬ X b→W.heap[b]? = W0.heap[b]?) →
  (∀ i W W',J i W→Below W.heap.size W W'→J i W')→(∀ W W',Jx W→Below W.heap.size W W'→Jx W') →
  (∀ (i:Nat) (h:i < xs.length) W1 W vs,J i W1→Below W1.heap.size W1 W→(∃ e',RelL (fun b=>b < W1.heap.size∧(X b∨W0.heap.size≤b)) e' W (xs[i]) vs) →
   ∃ r:Loop,W.heap[l]? = some (Obj.loop r)∧vs.toArray.size=r.params.size ∧
    RoundIn Fence.wide 0 P l r.fn ((r.params.zip vs.toArray).foldl (fun t (p,v)=>t.setIfInBounds p v) r.tmps) r.assign r.body W
     (fun en W'=>(en = .returned (.bool true)∧J (i + 1) W')∨(en = .returned (.bool false)∧Jx W'))) →
  Calls P gf (#[.func (.yield l) #[] #[]]++lb.toArray) W0 (fun en W'=>(∃ v,en = .returned v)∧(J xs.length W'∨Jx W'))
theorem Heap.rebase {Γ:Ctx} {k:Nat→Prop} {H:Hp} {e:Env} {w w2:World} (h:Heap Γ k H e w) (hs:w.heap.size≤w2.heap.size) (hk:KeepsCells w w2) {n J:Nat} {rd pan mk} (hJ:∀ j,j < J→k j) :
  Heap ⟨Γ.P,Γ.τ,Γ.τok,Γ.O,w2,fun b=>b∈a7 e H,n,J,e.an,rd,pan,mk,false⟩ k H e w2 where
 top:=h.top
 heap p hp:=⟨(h.heap p hp).1,HRel.turned hs hk p (h.heap p hp).2⟩
 ids:=h.ids
 nodup:=h.nodup
 mine b hb:=⟨.inl hb,(h.mine b hb).2⟩
 os:=rfl
 tape:=rfl
 output:=rfl
 drawn h:=nomatch h
 size:=Nat.le_refl _
 block _ _ _:=rfl
 obound b hb:=⟨Nat.lt_of_lt_of_le (h.obound b hb).1 (Nat.le_trans h.size hs),fun ho=>(h.mine b ho).2 hb⟩
 jle:=hJ
 anchor _ _:=rfl
theorem Heap.debase {Γ:Ctx} [NoDr Γ] {k k2:Nat→Prop} {H H2:Hp} {e e2:Env} {w wb w2:World} {E:Nat→Prop} {n J:Nat} {rd pan mk} (h:Heap Γ k H e w) (hs:w.heap.size≤wb.heap.size) (hos:wb.os=w.os) (ht:wb.tape=w.tape) (ho:wb.output=w.output)
  (hb:∀ b,b < Γ.w0.heap.size→¬ Γ.E0 b→wb.heap[b]? = w.heap[b]?)
  (h2:Heap ⟨Γ.P,Γ.τ,Γ.τok,Γ.O,wb,E,n,J,e.an,rd,pan,mk,false⟩ k2 H2 e2 w2) (hE:∀ b,E b→Γ.E0 b∨Γ.w0.heap.size≤b) (hJ:Γ.J≤J):Heap Γ k2 H2 e2 w2 where
 top:=h2.top
 heap:=h2.heap
 ids:=h2.ids
 nodup:=h2.nodup
 mine b hb2:=⟨(h2.mine b hb2).1.elim (hE b) fun hx=>.inr (Nat.le_trans h.size (Nat.le_trans hs hx)),(h2.mine b hb2).2⟩
 os:=h2.os.trans (hos.trans h.os)
 tape:=h2.tape.trans (ht.trans h.tape)
 output:=h2.output.trans (ho.trans h.output)
 drawn:=NoDr.any
 size:=Nat.le_trans h.size (Nat.le_trans hs h2.size)
 block b h3 h4:=(h2.block b (Nat.lt_of_lt_of_le h3 (Nat.le_trans h.size hs)) fun hx=>(hE b hx).elim h4 fun h5=>by omega).trans ((hb b h3 h4).trans (h.block b h3 h4))
 obound:=h.obound
 jle j hj:=h2.jle j (Nat.lt_of_lt_of_le hj hJ)
 anchor j hj:=(h2.anchor j (Nat.lt_of_lt_of_le hj hJ)).trans (h.anchor j hj)
mutual
def SV.stab:SV→Bool
 | .row _=>false
 | .prow _ _ _ _=>false
 | .rsl _ _ _ _=>false
 | .fn _ caps=>SV.stabL caps
 | .agg ss=>SV.stabL ss
 | .tup ss=>SV.stabL ss
 | .junk=>true
 | .d _=>true
 | .nils=>true
 | .pd _=>true
 | .loc _ _=>true
 | .mp _=>true
 | .md _ _=>true
 | .sl _ _ _ _=>true
 | .val _=>true
def SV.stabL:List SV→Bool
 | []=>true
 | s::ss=>SV.stab s && SV.stabL ss
end
mutual
theorem Rel.stab {X:Nat→Prop} {e e':Env} {w:World} (h:∀ i,e.dom i→e'.dom i∧e'.β i=e.β i):∀ (s:SV) (v:Value),s.stab=true→Rel X e w s v→Rel X e' w s v
 | .junk,_,_,_=>trivial
 | .d _,_,_,h=>h
 | .nils,_,_,h=>h
 | .pd _,_,_,h=>h
 | .loc i _,_,_,⟨h1,h2⟩=>⟨(h i h1).1,by rw [(h i h1).2];exact h2⟩
 | .mp i,_,_,⟨h1,h2⟩=>⟨(h i h1).1,by rw [(h i h1).2];exact h2⟩
 | .md _ _,_,_,h=>h
 | .sl i _ _ _,_,_,⟨h1,h2⟩=>⟨(h i h1).1,by rw [(h i h1).2];exact h2⟩
 | .row _,_,hb,_=>nomatch hb
 | .prow _ _ _ _,_,hb,_=>nomatch hb
 | .rsl _ _ _ _,_,hb,_=>nomatch hb
 | .fn _ caps,_,hb,⟨vs,h1,h2⟩=>⟨vs,h1,RelL.stab h caps vs hb h2⟩
 | .agg ss,_,hb,⟨vs,h1,h2⟩=>⟨vs,h1,RelL.stab h ss vs hb h2⟩
 | .tup ss,_,hb,⟨vs,h1,h2⟩=>⟨vs,h1,RelL.stab h ss vs hb h2⟩
 | .val _,_,_,h=>h
theorem RelL.stab {X:Nat→Prop} {e e':Env} {w:World} (h:∀ i,e.dom i→e'.dom i∧e'.β i=e.β i):∀ (ss:List SV) (vs:List Value),SV.stabL ss=true→RelL X e w ss vs→RelL X e' w ss vs
 | [],[],_,_=>trivial
 | [],_::_,_,h=>h.elim
 | _::_,[],_,h=>h.elim
 | s::ss,v::vs,hb,hr=>by
  simp only [SV.stabL,Bool.and_eq_true] at hb
  exact⟨Rel.stab h s v hb.1 hr.1,RelL.stab h ss vs hb.2 hr.2⟩
end
def keptB (L:Sl):Sl→Bool
 | []=>true
 | (_,s)::r=>s.stab && keptB L r
def Kepts (L:Sl):Sl→Prop
 | []=>True
 | (t,s)::r=>Sl.get L t=s∧Kepts L r
theorem kept_get {L:Sl}:∀ (L':Sl),Kepts L L'→keptB L L' = true→∀ t,L'.get t = .junk∨(L'.get t=L.get t∧(L.get t).stab=true)
 | [],_,_,_=>.inl rfl
 | (d,s)::r,⟨h1,h2⟩,hb,t=>by
  simp only [keptB,Bool.and_eq_true] at hb
  rw [Sl.get_cons]
  split
  ·rename_i hd;subst hd;exact .inr ⟨h1.symm,h1.symm▸hb.1⟩
  ·exact kept_get r h2 hb.2 t
def params:List Nat→List SV→Sl→Sl
 | p::ps,s::ss,L=>params ps ss ((p,s)::L)
 | _,_,L=>L
theorem params_slot {X e w}:∀ (ps:List Nat) (ss:List SV) (vs:List Value) (L:Sl) (tmps:Array Value),ps.length=ss.length→(∀ p∈ps,p < tmps.size)→RelL X e w ss vs→(∀ t,Rel X e w (L.get t) (tmps.getD t undef)) →
  ∀ t,Rel X e w ((params ps ss L).get t) (((ps.zip vs).foldl (fun t (q:Nat × Value)=>t.setIfInBounds q.1 q.2) tmps).getD t undef)
 | [],[],[],L,tmps,_,_,_,h,t=>h t
 | [],_::_,_,_,_,hl,_,_,_,_=>by simp at hl
 | _::_,[],_,_,_,hl,_,_,_,_=>by simp at hl
 | _,[],_::_,_,_,_,_,hr,_,_=>hr.elim
 | _,_::_,[],_,_,_,_,hr,_,_=>hr.elim
 | p::ps,s::ss,v::vs,L,tmps,hl,hp,⟨h1,h2⟩,h,t=>by
  refine params_slot ps ss vs ((p,s)::L) (tmps.setIfInBounds p v) (by simpa using hl) (fun q hq=>by rw [Array.size_setIfInBounds];exact hp q (List.mem_cons_of_mem _ hq)) h2 (fun t=>?_) t
  have:=hp p (List.mem_cons_self ..)
  rw [Sl.get_cons]
  simp only [Array.getD_eq_getD_getElem?,Array.getElem?_setIfInBounds]
  split
  ·rename_i hd;subst hd;simp;exact h1
  ·have:=h t;rwa [Array.getD_eq_getD_getElem?] at this
theorem foldl_size:∀ (l:List (Nat × Value)) (tmps:Array Value),(l.foldl (fun t (q:Nat × Value)=>t.setIfInBounds q.1 q.2) tmps).size=tmps.size
 | [],_=>rfl
 | q::l,tmps=>by rw [List.foldl_cons,foldl_size l];simp
def roundD {ι:Type} (Γ:Ctx) (next:ι→Prop) (I:ι→Nat × Hp) (Ls:Sl) (Q:Post):Post:=fun ex k L H=>match ex with
 | .normal=>∃ y,next y∧Ent Γ k L H (I y).1 [] (I y).2
 | .ret=>∃ k2 H2,Ent Γ k L H k2 [] H2∧Q .ret k2 Ls H2
 | _=>False
theorem Heap.widen {Γ:Ctx} {k:Nat→Prop} {H:Hp} {e:Env} {w:World} {l:Nat} (h:Heap Γ k H e w) (hl:¬ Γ.O l):Heap ⟨Γ.P,Γ.τ,Γ.τok,Γ.O,Γ.w0,fun b=>Γ.E0 b∨b=l,Γ.n,Γ.J,Γ.β0,Γ.rd,Γ.pan,Γ.mks,Γ.dr⟩ k H e w where
 top:=h.top
 heap:=h.heap
 ids:=h.ids
 nodup:=h.nodup
 mine b hb:=⟨(h.mine b hb).1.imp .inl id,(h.mine b hb).2⟩
 os:=h.os
 tape:=h.tape
 output:=h.output
 drawn:=h.drawn
 size:=h.size
 block b h1 h2:=h.block b h1 fun h=>h2 (.inl h)
 obound b hb:=⟨(h.obound b hb).1,fun hx=>hx.elim (h.obound b hb).2 fun hx=>hl (hx▸hb)⟩
 jle:=h.jle
 anchor:=h.anchor
theorem Heap.narrow {Γ:Ctx} {k:Nat→Prop} {H:Hp} {e:Env} {w:World} {l:Nat} (h:Heap ⟨Γ.P,Γ.τ,Γ.τok,Γ.O,Γ.w0,fun b=>Γ.E0 b∨b=l,Γ.n,Γ.J,Γ.β0,Γ.rd,Γ.pan,Γ.mks,Γ.dr⟩ k H e w) (hl:l ∉ a7 e H) (hb:w.heap[l]? = Γ.w0.heap[l]?):Heap Γ k H e w where
 top:=h.top
 heap:=h.heap
 ids:=h.ids
 nodup:=h.nodup
 mine b hm:=⟨(h.mine b hm).1.elim (fun hx=>hx.elim .inl fun hx=>absurd (hx▸hm) hl) .inr,(h.mine b hm).2⟩
 os:=h.os
 tape:=h.tape
 output:=h.output
 drawn:=h.drawn
 size:=h.size
 block b h1 h2:=by
  by_cases hbl:b=l
  ·subst hbl;exact hb
  ·exact h.block b h1 fun h=>h.elim h2 hbl
 obound b hb:=⟨(h.obound b hb).1,fun hx=>(h.obound b hb).2 (.inl hx)⟩
 jle:=h.jle
 anchor:=h.anchor
theorem Heap.owned_loop {Γ:Ctx} {k:Nat→Prop} {H:Hp} {e:Env} {w:World} (h:Heap Γ k H e w) {r:Nat} {o:Loop} (hr:w.heap[r]? = some (Obj.loop o)):r ∉ a7 e H:=by
 intro hb
 obtain⟨o,h1,h2⟩:=h.owned_cells hb
 rw [hr] at h1
 cases h1
 cases h2
set_option maxHeartbeats 1000000 in
theorem dw_range {P:Program} {τ:List (Nat × TI)} {τok:TabOk P τ} {O:Nat→Prop} {w0:World} {E0:Nat→Prop} {N J:Nat} {β0:Nat→Nat × Value} {pan:Value→Prop} {k:Nat} {L:Sl} {H:Hp} {Q:Post}
  {g:Operand} {ps:List Tmp} {assign body:Code} {gf:FuncId} {caps:List SV} (xs:List (List SV)) (hg:bi L g = .fn gf caps) (hgo:opOkB g=true) (hseq:SeqD P gf caps xs)
  (hps:∀ x∈xs,ps.length=x.length∧SV.lowL 0 x=true) (hpN:∀ p∈ps,p < N) (Ls:Sl) (hL1:Kepts L Ls) (hL2:keptB L Ls=true)
  {ι:Type} (I:Nat→ι→Nat × Hp) (pre:Nat→ι→Prop) (x0:ι) (p0:pre 0 x0) (hI0:I 0 x0=(k,H))
  (hbody:∀ (i:Nat) (hi:i < xs.length) x,pre i x→∀ O' w' E' β' l,DW ⟨P,τ,τok,O',w',E',N,k,β',some l,noPan,false,false⟩ assign (fun ex k2 L2 H2=>ex = .normal∧∀ O' w' E' β',DW ⟨P,τ,τok,O',w',E',N,k,β',some l,noPan,false,false⟩ body
   (roundD ⟨P,τ,τok,O',w',E',N,k,β',some l,noPan,false,false⟩ (pre (i + 1)) (I (i + 1)) Ls Q) k2 L2 H2) (I i x).1 (params ps (xs[i]) Ls) (I i x).2)
  (hdone:∀ y,pre xs.length y→Q .normal (I xs.length y).1 Ls (I xs.length y).2) :
  DW ⟨P,τ,τok,O,w0,E0,N,J,β0,none,pan,true,false⟩ (.rangeFunc g ps.toArray assign body) Q k L H:=by
 intro e a W m
 obtain⟨hcall,hseq⟩:=hseq
 have hgr:=m.op g (cq hgo)
 rw [hg] at hgr
 obtain⟨lb,hgv,hlb⟩:=hgr
 show (Code.rangeFunc g ps.toArray assign body).wpIn Fence.wide 0 P _ a W
 refine wpIn_rangeFunc ?_
 intro fn _
 obtain⟨rec,hrec⟩:∃ rec:LoopState→Option Code→Loop,rec=fun st pe=>{ state:=st,pending:=pe,fn,tmps:=a.tmps,params:=ps.toArray,assign,body,defers:=W.heap.size }:=⟨_,rfl⟩
 obtain⟨W1,hW1⟩:∃ W1,(W.alloc (.deferred (some []))).alloc (.loop (rec .ready none))=W1:=⟨_,rfl⟩
 have hD1:W1.heap[W.heap.size]? = some (Obj.deferred (some [])):=by
  rw [← hW1];exact (Below.heap_alloc _ _ _ (by simp)).trans (World.alloc_heap_new W _)
 obtain⟨l,hl⟩:∃ l,l=W.heap.size + 1:=⟨_,rfl⟩
 have hL1':W1.heap[l]? = some (Obj.loop (rec .ready none)):=by
  rw [← hW1,hl];have:=World.alloc_heap_new (W.alloc (.deferred (some []))) (.loop (rec .ready none));rwa [World.size_alloc] at this
 have hb1:Below W.heap.size W W1:=by
  rw [← hW1];exact ((Below.refl _ W).alloc (Nat.le_refl _) _).alloc (by simp) _
 have hsz1:W1.heap.size=W.heap.size + 2:=by rw [← hW1];simp
 have hk1:KeepsCells W W1:=fun b o _ hb=>(hb1.block b (lt_of_heap hb)).trans hb
 refine⟨W.heap.size + 1,[{ target:=.collected W.heap.size,args:=#[] }],W1,{ target:=.fn (.func gf) lb.toArray,args:=#[.func (.yield (W.heap.size + 1)) #[] #[]] },W1,gf,
  #[.func (.yield (W.heap.size + 1)) #[] #[]]++lb.toArray,W1,?_,?_,fun _ _=>trivial,?_,depth_wideR (ro:=none),?_⟩
 ·rw [← hW1,hrec];exact run_enterLoop_outer _ _ _ _ _
 ·simp only [resolve,hgv]
  simp [go_sem]
 ·simp [invoke,go_sem,run_call hcall]
 rw [← hl]
 refine callsIn_wide.2 ?_
 let Γ1:Ctx:=⟨P,τ,τok,O,W1,fun b=>b∈a7 e H,N,k,e.an,none,pan,true,false⟩
 have hH1:Heap Γ1 k H e W1:=m.toHeap.rebase hb1.size hk1 (fun j hj=>hj)
 have hlO:¬ O l:=fun hO=>by have h1:=(m.obound l hO).1;have h2:=m.size;simp only at h1 h2;omega
 let Γx:Ctx:=⟨P,τ,τok,O,W1,fun b=>b∈a7 e H∨b=l,N,k,e.an,none,pan,true,false⟩
 let X:Nat→Prop:=fun b=>O b∨b∈a7 e H
 have hXlt:∀ b,X b→b < W.heap.size:=fun b hb=>hb.elim (fun h=>Nat.lt_of_lt_of_le (m.obound b h).1 m.size) (m.lt b)
 have hlown:l ∉ a7 e H:=fun h=>by have:=m.lt l h;omega
 have hslots:∀ (k':Nat) (H':Hp) (e':Env) (W':World),Heap Γx k' H' e' W'→∀ t,Rel (Ctx.X Γx e' H') e' W' (Ls.get t) (a.tmps.getD t undef):=by
  intro k' H' e' W' h t
  rcases kept_get Ls hL1 hL2 t with h1|⟨h1,h2⟩
  ·rw [h1];trivial
  ·rw [h1]
   have hdom:∀ i,e.dom i→e'.dom i∧e'.β i=e.β i:=fun i hi=>⟨(h.top i).2 (h.jle i ((m.top i).1 hi)),Env.an_β (h.anchor i ((m.top i).1 hi))⟩
   refine Rel.keep (X:=X) (w:=W) (Nat.le_trans hb1.size h.size) (fun b hb hx=>?_) (fun b hb hx=>?_) _ _ (Rel.stab hdom _ _ h2 (m.slot t))
   ·have hb':b < W1.heap.size:=by omega
    exact (h.block b hb' fun hE=>hE.elim (fun hE=>hx (.inr hE)) fun hE=>by omega).trans (hb1.block b hb)
   ·rcases hx with hx|hx
    ·exact .inl hx
    ·rcases (h.mine b hx).1 with h3|h3
     ·exact h3.elim .inr fun h3=>by omega
     ·have h3:W1.heap.size≤b:=h3
      omega
 have hnarrow:∀ (k':Nat) (H':Hp) (e':Env) (W':World),Heap Γx k' H' e' W'→W'.heap[l]? = some (Obj.loop (rec .ready none))→Heap Γ1 k' H' e' W':=fun k' H' e' W' h hlw =>
  Heap.narrow (Γ:=Γ1) (l:=l) h (h.owned_loop hlw) (hlw.trans hL1'.symm)
 have hlive:∀ (k':Nat) (H':Hp) (e':Env) (W':World),Heap Γ1 k' H' e' W'→W'.heap[l]? = some (Obj.loop (rec .ready none)):=fun k' H' e' W' h =>
  (h.block l (by show l < W1.heap.size;omega) hlown).trans hL1'
 have hend:∀ (ex:Exit) (k':Nat) (H':Hp) (e':Env) (W':World) (o o':Loop),Heap Γx k' H' e' W'→W'.heap[l]? = some (Obj.loop o)→Q ex k' Ls H' →
   lift ⟨P,τ,τok,O,w0,E0,N,J,β0,none,pan,true,false⟩ Q ex { a with defers:=[{ target:=.collected W.heap.size,args:=#[] }]++a.defers } (W'.putObj l (.loop o')):=by
  intro ex k' H' e' W' o o' h hlw hq
  have hk:KeepsCells W' (W'.putObj l (.loop o')):=keepsCells_put hlw rfl
  have hx:Heap Γx k' H' e' (W'.putObj l (.loop o')):=h.turned (by simp) hk rfl rfl rfl rfl fun b _ hE=>World.putObj_heap_other fun hbl=>hE (.inr hbl)
  refine .inl ⟨k',Ls,H',e',⟨?_,?_,m.len,hslots _ _ _ _ hx⟩,hq⟩
  ·refine m.toHeap.debase hb1.size hb1.os hb1.tape hb1.output (fun b hb _=>hb1.block b (Nat.lt_of_lt_of_le hb m.size)) (show Heap ⟨P,τ,τok,O,W1,fun b=>b∈a7 e H∨b=l,N,k,e.an,none,pan,true,false⟩ k' H' e' (W'.putObj l (.loop o')) from hx) (fun b hb=>?_) ?_
   ·rcases hb with hb|hb
    ·exact (m.mine b hb).1
    ·exact .inr (by have:=m.size;simp only at this ⊢;omega)
   ·rcases Nat.eq_zero_or_pos J with hJ|hJ
    ·simp only;omega
    ·have:=m.jle (J - 1) (by simp only;omega)
     have h3:J - 1 < k:=this
     simp only;omega
  ·obtain⟨rs,h1,_,h2,h3⟩:=m.defers
   have hold:∀ r,r < W.heap.size→r ∉ a7 e H→(W'.putObj l (.loop o')).heap[r]? = W.heap[r]?:=fun r hr hn =>
    (hx.block r (by show r < W1.heap.size;omega) fun hE=>hE.elim hn fun hE=>by omega).trans (hb1.block r hr)
   refine⟨W.heap.size::rs,?_,fun h=>(nomatch h),?_,?_⟩
   ·show [_]++a.defers=_
    rw [h1];rfl
   ·refine List.nodup_cons.2 ⟨fun hm=>?_,h2⟩
    have:=lt_of_heap (h3 _ hm).2
    omega
   ·intro r hr
    rcases List.mem_cons.1 hr with rfl|hr
    ·refine⟨m.size,?_⟩
     exact (hx.block _ (by show _ < W1.heap.size;omega) fun hE=>hE.elim (fun hE=>by have:=m.lt _ hE;omega) fun hE=>by omega).trans hD1
    ·refine⟨(h3 r hr).1,(hold r (lt_of_heap (h3 r hr).2) fun ho=>m.owned_mark (h3 r hr).2 ho).trans (h3 r hr).2⟩
 have hb0:=hseq X e W1 lb l (fun i W'=>∃ x,pre i x∧∃ e',Heap Γ1 (I i x).1 (I i x).2 e' W')
  (fun W'=>W'.heap[l]? = some (Obj.loop (rec .done (some .ret)))∧∃ k2 H2 e',Heap Γx (lo k2) H2 e' W'∧Q .ret k2 Ls H2)
  (fun b hb=>by have:=hXlt b hb;omega)
  (RelL.keep hb1.size (fun b hb _=>hb1.block b hb) (fun b hb hx=>hx) _ _ hlb)
  ⟨x0,p0,e,by rw [hI0];exact hH1⟩
  (fun i W' ⟨x,_,e',h⟩=>⟨h.size,fun b hb hx=>h.block b hb fun hE=>hx (.inr hE)⟩)
  (fun i W' W'' ⟨x,hp,e',h⟩ hb=>⟨x,hp,e',h.below (Beld.no hb)⟩)
  (fun W' W'' ⟨h1,k2,H2,e',h2,h3⟩ hb=>⟨(hb.block l (lt_of_heap h1)).trans h1,k2,H2,e',h2.below (Beld.no hb),h3⟩)
  ?_
 ·refine hb0.mono ?_
  rintro en W2 ⟨⟨v,rfl⟩,⟨x,hp,e',h⟩|⟨h1,k2,H2,e',h2,h3⟩⟩
  ·have hlw:=hlive _ _ _ _ h
   refine⟨none,W2.putObj l (.loop (rec .exhausted none)),?_,?_⟩
   ·have:=run_endLoop (P:=P) hlw (by rw [hrec];simp)
    rw [hrec] at this ⊢;exact this
   ·exact hend .normal _ _ _ _ _ _ (Heap.widen (Γ:=Γ1) (l:=l) h hlO) hlw (hdone x hp)
  ·refine⟨some .ret,W2.putObj l (.loop (rec .exhausted (some .ret))),?_,?_⟩
   ·have:=run_endLoop (P:=P) h1 (by rw [hrec];simp)
    rw [hrec] at this ⊢;exact this
   ·exact wpIn_ret (hend .ret _ _ _ _ _ _ h2 h1 h3)
 ·rintro i hi Wa Wb vs ⟨x,hp,e1,hh1⟩ hbl ⟨e',hvs⟩
  have hhb:Heap Γ1 (lo (I i x).1) (I i x).2 e1 Wb:=hh1.below (Beld.no hbl)
  have hlw:=hlive _ _ _ _ hhb
  have hvl:=RelL.length _ _ hvs
  obtain⟨hpl,hxl⟩:=hps _ (List.getElem_mem hi)
  refine⟨rec .ready none,hlw,by rw [hrec];simp;omega,?_⟩
  rw [hrec]
  refine roundIn_of_wpIn trivial ?_
  show Code.wpIn (wideR (some l)) 0 P assign _ _ _
  have hdomb:∀ j,j < k→(lo (I i x).1) j:=fun j hj=>hhb.jle j hj
  have hA:Heap ⟨P,τ,τok,O,Wb,fun b=>b∈a7 e1 (I i x).2,N,k,e1.an,some l,noPan,false,false⟩ (lo (I i x).1) (I i x).2 e1 Wb:=hhb.rebase (Nat.le_refl _) (fun _ _ _ h=>h) hdomb
  have hhx:Heap Γx (lo (I i x).1) (I i x).2 e1 Wb:=Heap.widen (Γ:=Γ1) (l:=l) hhb hlO
  have mA:Models ⟨P,τ,τok,O,Wb,fun b=>b∈a7 e1 (I i x).2,N,k,e1.an,some l,noPan,false,false⟩ (lo (I i x).1) (params ps (xs[i]) Ls) (I i x).2 e1
    { tmps:=((ps.toArray.zip vs.toArray).foldl (fun t (p,v)=>t.setIfInBounds p v) a.tmps),defers:=[] } Wb:=by
   have hz:(ps.toArray.zip vs.toArray).foldl (fun t (p,v)=>t.setIfInBounds p v) a.tmps=(ps.zip vs).foldl (fun t (q:Nat × Value)=>t.setIfInBounds q.1 q.2) a.tmps:=by
    rw [List.zip_toArray,List.foldl_toArray]
   refine⟨hA,Marks.nil,?_,?_⟩
   ·show Array.size _=N
    rw [hz,foldl_size];exact m.len
   ·intro t
    show Rel _ e1 Wb _ (Array.getD _ t undef)
    rw [hz]
    refine params_slot ps (xs[i]) vs Ls a.tmps hpl (fun p hp=>by rw [m.len];exact hpN p hp) ?_ (hslots _ _ _ _ hhx) t
    refine RelL.keep (Nat.le_refl _) (fun _ _ _=>rfl) (fun b _ hx=>?_) _ _ (RelL.env _ _ hxl hvs)
    rcases hx with hx|hx
    ·have h1:=(m.obound b hx).1
     have h2:=m.size
     have h3:=hh1.size
     simp only at h1 h2
     have h3:W1.heap.size≤Wa.heap.size:=h3
     exact⟨by omega,.inl (.inl hx)⟩
    ·have h1:=hh1.lt b hx
     refine⟨h1,?_⟩
     rcases (hh1.mine b hx).1 with h2|h2
     ·exact .inl (.inr h2)
     ·exact .inr h2
  refine wpIn_mono (hbody i hi x hp O Wb _ e1.an l e1 _ Wb mA) ?_
  rintro ex a1 w1 (⟨k2,L2,H2,e2,m2,rfl,hB⟩|⟨_,_,_,_,hE,_⟩)
  rotate_left
  ·exact hE.elim
  have hlw1:w1.heap[l]? = some (Obj.loop (rec .ready none)):=(m2.block l (lt_of_heap hlw) (hhb.owned_loop hlw)).trans hlw
  have hx1:Heap Γx (lo k2) H2 e2 w1:=hhx.debase (wb:=Wb) (Nat.le_refl _) rfl rfl rfl (fun _ _ _=>rfl) (show Heap ⟨P,τ,τok,O,Wb,fun b=>b∈a7 e1 (I i x).2,N,k,e1.an,some l,noPan,false,false⟩ (lo k2) H2 e2 w1 from m2.toHeap) (fun b hb=>(hhx.mine b hb).1) (Nat.le_refl _)
  refine⟨w1.putObj l (.loop { rec .ready none with state:=.busy }),run_beginRound hlw1 (by rw [hrec]),?_⟩
  have hk2:KeepsCells w1 (w1.putObj l (.loop { rec .ready none with state:=.busy })):=keepsCells_put hlw1 rfl
  have hx2:Heap Γx (lo k2) H2 e2 (w1.putObj l (.loop { rec .ready none with state:=.busy })):=hx1.turned (by simp) hk2 rfl rfl rfl rfl fun b _ hE=>World.putObj_heap_other fun hbl=>hE (.inr hbl)
  generalize hw2:w1.putObj l (.loop { rec .ready none with state:=.busy })=w2 at hk2 hx2 ⊢
  have hs12:w1.heap.size≤w2.heap.size:=by rw [← hw2];simp
  have hlw2:w2.heap[l]? = some (Obj.loop { rec .ready none with state:=.busy }):=by rw [← hw2];exact World.putObj_heap_same (lt_of_heap hlw1)
  have hB2:Heap ⟨P,τ,τok,O,w2,fun b=>b∈a7 e2 H2,N,k,e2.an,some l,noPan,false,false⟩ (lo k2) H2 e2 w2:=m2.toHeap.rebase hs12 hk2 (fun j hj=>m2.jle j hj)
  have mB:Models ⟨P,τ,τok,O,w2,fun b=>b∈a7 e2 H2,N,k,e2.an,some l,noPan,false,false⟩ (lo k2) L2 H2 e2 a1 w2:=by
   refine⟨hB2,?_,m2.len,fun t=>Rel.turned hs12 hk2 _ _ (m2.slot t)⟩
   obtain⟨rs,h1,h0,_,_⟩:=m2.defers
   rw [h1,h0 rfl]
   exact Marks.nil
  show Code.wpIn (wideR (some l)) 0 P body _ _ _
  refine wpIn_mono (hB _ _ _ _ e2 a1 w2 mB) ?_
  have fin:∀ (k3:Nat) (H3:Hp) (e3:Env) (w3:World) (jump:Option Code),Heap ⟨P,τ,τok,O,w2,fun b=>b∈a7 e2 H2,N,k,e2.an,some l,noPan,false,false⟩ k3 H3 e3 w3 →
    (Instr.endRound l jump).run P w3 = .ok (.bool jump.isNone) (w3.putObj l (.loop (rec (if jump.isNone then .ready else .done) jump)))∧Heap Γx k3 H3 e3 (w3.putObj l (.loop (rec (if jump.isNone then .ready else .done) jump))) ∧
    (w3.putObj l (.loop (rec (if jump.isNone then .ready else .done) jump))).heap[l]? = some (Obj.loop (rec (if jump.isNone then .ready else .done) jump)):=by
   intro k3 H3 e3 w3 jump h3
   have hlw3:w3.heap[l]? = some (Obj.loop { rec .ready none with state:=.busy }):=(h3.block l (lt_of_heap hlw2) (hx2.owned_loop hlw2)).trans hlw2
   refine⟨?_,?_,World.putObj_heap_same (lt_of_heap hlw3)⟩
   ·have:=run_endRound (P:=P) jump hlw3
    rw [hrec] at this ⊢
    exact this
   ·have hx3:Heap Γx (lo k3) H3 e3 w3:=hx2.debase (wb:=w2) (Nat.le_refl _) rfl rfl rfl (fun _ _ _=>rfl) (show Heap ⟨P,τ,τok,O,w2,fun b=>b∈a7 e2 H2,N,k,e2.an,some l,noPan,false,false⟩ (lo k3) H3 e3 w3 from h3) (fun b hb=>(hx2.mine b hb).1) (Nat.le_refl _)
    exact hx3.turned (by simp) (keepsCells_put hlw3 rfl) rfl rfl rfl rfl fun b _ hE=>World.putObj_heap_other fun hbl=>hE (.inr hbl)
  rintro ex a3 w3 (⟨k3,L3,H3,e3,m3,hq⟩|⟨_,_,_,_,hE,_⟩)
  rotate_left
  ·exact hE.elim
  cases ex with
  | normal =>
   obtain⟨y,hy,hent⟩:=hq
   obtain⟨e4,m4⟩:=hent _ _ _ m3
   obtain⟨f1,f2,f3⟩:=fin _ _ _ _ none m4.toHeap
   exact⟨_,_,f1,.inl ⟨rfl,y,hy,e4,hnarrow _ _ _ _ f2 f3⟩⟩
  | ret =>
   obtain⟨k4,H4,hent,hq⟩:=hq
   obtain⟨e4,m4⟩:=hent _ _ _ m3
   obtain⟨f1,f2,f3⟩:=fin _ _ _ _ (some .ret) m4.toHeap
   exact⟨_,_,f1,.inr ⟨rfl,(by rw [show (if (some Code.ret).isNone=true then LoopState.ready else LoopState.done)=LoopState.done from rfl] at f3 ⊢;rw [hrec] at f3 ⊢;exact f3),k4,H4,e4,f2,hq⟩⟩
  | exit id=>exact hq.elim
  | goto t=>exact hq.elim
  | panic ch=>exact hq.elim
  | outgrown=>exact hq.elim
end Go.Proofs.YtapciiffpnociacGreat
namespace Go.Proofs.YtapciiffpnociacGreat
open Go Go.RowKit
def SV.flat:SV→Bool
 | .val _=>true
 | .junk=>true
 | .d (.int _ _)=>true
 | .d (.bool _)=>true
 | _=>false
theorem Rel.flat {X e w X' e' w'}:∀ (s:SV) (v:Value),s.flat=true→Rel X e w s v→Rel X' e' w' s v
 | .val _,_,_,h=>h
 | .junk,_,_,_=>trivial
 | .d (.int _ _),_,_,h=>by
  have h':RepC _ _ _ _:=h
  cases h' with
  | int g=>exact RepC.int g
 | .d (.bool _),_,_,h=>by
  have h:RepC _ _ _ _:=h
  cases h
  exact RepC.bool
 | .d (.str _),_,h,_=>nomatch h
 | .d (.slice _ _),_,h,_=>nomatch h
 | .nils,_,h,_=>nomatch h
 | .pd _,_,h,_=>nomatch h
 | .loc _ _,_,h,_=>nomatch h
 | .row _,_,h,_=>nomatch h
 | .mp _,_,h,_=>nomatch h
 | .md _ _,_,h,_=>nomatch h
 | .prow _ _ _ _,_,h,_=>nomatch h
 | .sl _ _ _ _,_,h,_=>nomatch h
 | .rsl _ _ _ _,_,h,_=>nomatch h
 | .fn _ _,_,h,_=>nomatch h
 | .agg _,_,h,_=>nomatch h
 | .tup _,_,h,_=>nomatch h
def flatB:Sl→Bool
 | []=>true
 | (_,s)::r=>s.flat && flatB r
theorem flat_get:∀ {L:Sl},flatB L=true→∀ t,(L.get t).flat=true
 | [],_,_=>rfl
 | (d,s)::r,h,t=>by
  simp only [flatB,Bool.and_eq_true] at h
  rw [Sl.get_cons]
  split
  ·exact h.1
  ·exact flat_get h.2 t
theorem kepts_get {L:Sl}:∀ {L':Sl},Kepts L L'→∀ t,L'.get t = .junk∨L'.get t=L.get t
 | [],_,_=>.inl rfl
 | (d,s)::r,h,t=>by
  rw [Sl.get_cons]
  split
  ·rename_i hd;subst hd;exact .inr h.1.symm
  ·exact kepts_get h.2 t
structure Flat (N:Nat) (L:Sl) (a:Act):Prop where
 len:a.tmps.size=N
 defers:a.defers=[]
 slot:∀ t X e w,Rel X e w (L.get t) (a.tmps.getD t undef)
abbrev Γit (P:Program) (τ:List (Nat × TI)) (τok:TabOk P τ) (O:Nat→Prop) (W:World) (N:Nat):Ctx:=⟨P,τ,τok,O,W,fun _=>False,N,0,fun _=>(0,undef),none,noPan,false,false⟩
section
variable {P : Program} {τ : List (Nat × TI)} {τok : TabOk P τ} {O : Nat → Prop} {N : Nat} {L : Sl}
theorem Flat.models {a:Act} (h:Flat N L a) (W:World) (hO:∀ b,O b→b < W.heap.size):Models (Γit P τ τok O W N) (lo 0) L [] ⟨fun _=>0,fun _=>undef,lo 0⟩ a W where
 top _:=Iff.rfl
 heap _ hp:=nomatch hp
 ids:=.nil
 nodup:=.nil
 mine _ hb:=nomatch hb
 os:=rfl
 tape:=rfl
 output:=rfl
 drawn h:=nomatch h
 size:=Nat.le_refl _
 block _ _ _:=rfl
 obound b hb:=⟨hO b hb,id⟩
 jle _ hj:=nomatch hj
 anchor _ hj:=nomatch hj
 defers:=by rw [h.defers];exact Marks.nil
 len:=h.len
 slot t:=h.slot t _ _ _
theorem Models.flatten {W:World} {k:Nat→Prop} {H:Hp} {e:Env} {a:Act} {w:World} (m:Models (Γit P τ τok O W N) k L H e a w) {Ls:Sl} (hK:Kepts L Ls) (hf:flatB Ls=true):Flat N Ls a where
 len:=m.len
 defers:=by
  obtain⟨rs,h1,h0,_⟩:=m.defers
  rw [h1,h0 rfl];rfl
 slot t X e' w':=by
  have hg:=flat_get hf t
  rcases kepts_get hK t with h|h
  ·rw [h];trivial
  ·rw [h] at hg ⊢;exact Rel.flat _ _ hg (m.slot t)
theorem Heap.it_below {W:World} {k:Nat→Prop} {H:Hp} {e:Env} {w:World} (h:Heap (Γit P τ τok O W N) k H e w):Below W.heap.size W w:=⟨h.os,h.tape,h.output,h.size,fun b hb=>h.block b hb id⟩
end
section
variable {Γ : Ctx} {k : Nat} {L : Sl} {H : Hp} {K : c6} {ops : List Oper} {rest : List Oper} {x y : Operand} {t ty : TypeId}
theorem ev_val {op:Op} {s:SV} (L2:Sl) (hm:∀ e a w,Models Γ (lo k) L H e a w→Models Γ (lo k) L2 H e a w) (h:Ev Γ (lo k) L2 H op ty s):Ev Γ (lo k) L H op ty s:=fun e a w m=>h e a w (hm e a w m)
theorem Models.val_as {e:Env} {a:Act} {w:World} {k:Nat→Prop} (m:Models Γ k L H e a w) (t:Nat) {v:Value} {s:SV} (hv:L.get t = .val v) (hr:Rel (Γ.X e H) e w s v):Models Γ k ((t,s)::L) H e a w where
 toHeap:=m.toHeap
 defers:=m.defers
 len:=m.len
 slot t':=by
  rw [Sl.get_cons]
  split
  ·rename_i h
   subst h
   have h1:=m.slot t
   rw [hv] at h1
   have h1:a.tmps.getD t undef=v:=h1
   rw [h1];exact hr
  ·exact m.slot t'
theorem ev_fa_val {s:TypeId} {f off fty sz b o:Nat} {l} (hs:Γ.sh s = .struct l) (hf:l[f]? = some (off,fty,sz)) (hz:Nat.beq sz 0=false) (t:Nat) (hx:L.get t = .val (.pointer (some ⟨b,o,none⟩))) :
  Ev Γ (lo k) L H (.fieldAddr s (.tmp t) f) ty (.val (.pointer (some ⟨b,o + off,none⟩))):=by
 obtain⟨fs,hu,hl⟩:=Ctx.struct hs
 subst hl
 rw [List.getElem?_map] at hf
 cases hff:fs.toList[f]? with
 | none=>rw [hff] at hf;cases hf
 | some fd =>
  rw [hff] at hf
  simp only [Option.map_some,Option.some.injEq,Prod.mk.injEq] at hf
  obtain⟨h1,h2,h3⟩:=hf
  have hfa:fs[f]? = some fd:=by rw [← Array.getElem?_toList];exact hff
  have hinf:∃ inf,Γ.P.info? fd.type=some inf∧inf.size≠0:=by
   cases hi:Γ.P.info? fd.type with
   | none=>rw [hi] at h3;exact absurd h3.symm (Nat.ne_of_beq_eq_false hz)
   | some inf=>rw [hi] at h3;exact⟨inf,rfl,fun h=>Nat.ne_of_beq_eq_false hz (by rw [← h3,← h];rfl)⟩
  obtain⟨inf,hi,hne⟩:=hinf
  intro e A w m
  have hA:A.eval (.tmp t) = .pointer (some ⟨b,o,none⟩):=by
   have h1:=m.slot t
   rw [hx] at h1
   exact h1
  refine⟨_,fun dst pos after guard w' _=>?_,rfl⟩
  simp [execOp,Instr.fieldAt,hA,run_underlying hu,hfa,Instr.sureAddr,fieldPlace,run_sizeOf hi,hne,h1,Addr.add_at]
theorem ev_ld_val {b o:Nat} {u:Value} (t2:Nat) (hkn:(Γ.sh t).known=true) (hg:(Γ.sh t).isAgg=false) (hx:L.get t2 = .val (.pointer (some ⟨b,o,none⟩))) (hc:Γ.w0.cell? ⟨b,o,none⟩=some u) (hE:∀ b,¬ Γ.E0 b) :
  Ev Γ (lo k) L H (.load t (.tmp t2)) ty (.val u):=by
 intro e a w m
 have ho:=Sh.known_ne hkn
 have hv:a.eval (.tmp t2) = .pointer (some ⟨b,o,none⟩):=by
  have h1:=m.slot t2
  rw [hx] at h1
  exact h1
 have hb:b < Γ.w0.heap.size:=by
  unfold World.cell? at hc
  split at hc
  ·rename_i hh;exact lt_of_heap hh
  ·cases hc
 have hcw:w.cell? ⟨b,o,none⟩=some u:=(World.cell?_of_block (w:=Γ.w0) (m.block b hb (hE b))).trans hc
 exact⟨u,fun _ _ _ _ w' hw=>run_load1 ho hg hv (cell_below hw hcw) _ _ _ _,rfl⟩
theorem ev_len_val {t':TypeId} {ao:Option Addr} {n:Nat} {cap:Nat} (t2:Nat) (ht:Γ.sh t = .slice t') (hx:L.get t2 = .val (.slice ao n cap)) (hn:n≤maxLen):Ev Γ (lo k) L H (.call { callee:=.builtin .len,args:=#[.tmp t2],argTypes:=#[t] }) ty (.d (.int .i64 n)):=by
 intro e a w m
 have hv:a.eval (.tmp t2) = .slice ao n cap:=by
  have h1:=m.slot t2
  rw [hx] at h1
  exact h1
 refine⟨.int .i64 n,fun _ _ _ _ w' _=>?_,.int (WalkArith.wf_i64 (by unfold maxLen at hn;omega))⟩
 simp [execOp,resolve,invoke,builtin,hv,Builtin.len_,goInt,run_underlying (Ctx.slice ht)]
end
theorem Oper.wp_in2 {ro:Option Nat} {P:Program} {o:Oper} {a:Act} {w:World} {K K':Act→World→Prop} {Q Q':Exit→Act→World→Prop} (hd:∀ c,o.op≠.defer c) (hK:∀ a w,K a w→K' a w)
  (hQ:∀ c a w,Q (.panic c) a w→Q' (.panic c) a w) (hL:¬ LetsOut Q) (h:o.wp P a w K Q):o.wpIn (wideR ro) 0 P a w K' Q':=by
 refine⟨fun _ _=>trivial,?_⟩
 rw [Oper.semAt_eq _ _ _ hd]
 unfold Oper.wp at h
 generalize (execOp a.eval o).run P w=r at h
 cases r with
 | ok x w' =>
  cases x <;> simp only [Oper.upon,Oper.uponIn] at h ⊢ <;> first
   | exact hK _ _ h
   | exact h.elim
   | exact⟨depth_wideR,callsIn_wideR (h.mono fun e w'' he=>by cases e <;> first|exact hK _ _ he|exact hQ _ _ _ he|exact absurd he hL)⟩
   | exact⟨depth_wideR,fun c cs _=>let ⟨v,w'',r,s⟩:=h c cs;⟨v,w'',hK _ _ r,stepsIn_wide.2 s⟩⟩
 | halt x w'=>cases x <;> simp only [Oper.upon,Oper.uponIn] at h ⊢ <;> first|exact hQ _ _ _ h|exact h
theorem wpList_app {ro:Option Nat} {P:Program} {ops:Array Oper} {Q Q':Exit→Act→World→Prop} (hQ:∀ c a w,Q (.panic c) a w→Q' (.panic c) a w) (hL:¬ LetsOut Q) (post:List Oper)
  (hn:∀ a w,Q .normal a w→wpListIn (wideR ro) 0 P ops Q' post a w):∀ (l:List Oper),noDefer l=true→∀ a w,wpList P ops Q l a w→wpListIn (wideR ro) 0 P ops Q' (l++post) a w
 | [],_,a,w,h=>hn a w h
 | o::l,hd,a,w,h=>by
  have hd1:=noDefer_spec hd o (List.mem_cons_self ..)
  have hd2:noDefer l=true:=by simp only [noDefer,Bool.and_eq_true] at hd;exact hd.2
  unfold wpList at h
  show wpListIn (wideR ro) 0 P ops Q' (o::(l++post)) a w
  unfold wpListIn
  split at h
  ·rename_i hw
   rw [if_pos hw]
   rcases h with h|h
   ·exact Oper.wp_in2 hd1 (fun a w=>wpList_app hQ hL post hn l hd2 a w) hQ hL h
   ·exact absurd h.2 hL
  ·rename_i hw
   rw [if_neg hw]
   exact⟨fun _ _=>trivial,wpList_app hQ hL post hn l hd2 _ _ h⟩
def DWr (Γ:Ctx) (c:Code) (R:Exit→Act→World→Prop) (k:Nat) (L:Sl) (H:Hp):Prop:=∀ e a w,Models Γ (lo k) L H e a w→c.wpIn (wideR Γ.rd) 0 Γ.P R a w
def rawQ (Γ:Ctx) (R:Exit→Act→World→Prop):Post:=fun ex k L H=>∀ e a w,Models Γ (lo k) L H e a w→R ex a w
section
variable {Γ : Ctx} {k : Nat} {L : Sl} {H : Hp} {R : Exit → Act → World → Prop}
theorem dwr_of {c:Code} (hp:Γ.pan=noPan) (h:DW Γ c (rawQ Γ R) k L H):DWr Γ c R k L H:=fun e a w m=>wpIn_mono (h e a w m) (by
 rintro ex a' w' (⟨k',L',H',e',m',hq⟩|⟨v,_,_,_,hv,_⟩)
 ·exact hq _ _ _ m'
 ·rw [hp] at hv;exact hv.elim)
theorem dwr_seq {x y:Code} (hp:Γ.pan=noPan) (h:DW Γ x (thenD (DWr Γ y R) (rawQ Γ R)) k L H):DWr Γ (.seq x y) R k L H:=fun e a w m=>by
 refine wpIn_seq (wpIn_mono (h e a w m) ?_)
 rintro ex a' w' (⟨k',L',H',e',m',hq⟩|⟨v,_,_,_,hv,_⟩)
 ·cases ex with
  | normal=>exact hq _ _ _ m'
  | _=>exact hq _ _ _ m'
 ·rw [hp] at hv;exact hv.elim
theorem dwr_run {c:Code} {e:Env} {a:Act} {w:World} (m:Models Γ (lo k) L H e a w) (h:DWr Γ c R k L H):c.wpIn (wideR Γ.rd) 0 Γ.P R a w:=h e a w m
theorem dw_run {Q:Post} {c:Code} {e:Env} {a:Act} {w:World} (m:Models Γ (lo k) L H e a w) (h:DW Γ c Q k L H):c.wpIn (wideR Γ.rd) 0 Γ.P (lift Γ Q) a w:=h e a w m
end
section
variable {Γ : Ctx} {k : Nat} {L : Sl} {H : Hp} {R : Exit → Act → World → Prop}
theorem dwr_seqR {x y:Code} (h:DWr Γ x (Exit.then (y.wpIn (wideR Γ.rd) 0 Γ.P R) R) k L H):DWr Γ (.seq x y) R k L H:=fun e a w m=>wpIn_seq (h e a w m)
theorem dwr_block {id:Nat} {c:Code} (h:DWr Γ c (Exit.inBlock id R) k L H):DWr Γ (.block id c) R k L H:=fun e a w m=>wpIn_block (h e a w m)
end
abbrev Oit (X:Nat→Prop) (W0 W:World):Nat→Prop:=fun b=>b < W.heap.size∧(X b∨W0.heap.size≤b)
theorem it_rel {P:Program} {τ:List (Nat × TI)} {τok:TabOk P τ} {N:Nat} {X:Nat→Prop} {W0 W:World} (hs:W0.heap.size≤W.heap.size) (hfr:∀ b,b < W0.heap.size→¬ X b→W.heap[b]? = W0.heap[b]?)
  {s:SV} {v:Value} {e0:Env} (hlow:s.low 0=true) (h:Rel X e0 W0 s v) {k:Nat→Prop} {H:Hp} {e:Env} {w:World} (hh:Heap (Γit P τ τok (Oit X W0 W) W N) k H e w):Rel (Ctx.X (Γit P τ τok (Oit X W0 W) W N) e H) e w s v:=by
 have hb:=hh.it_below
 refine Rel.keep (Nat.le_trans hs hb.size) (fun b hb1 hx=>(hb.block b (Nat.lt_of_lt_of_le hb1 hs)).trans (hfr b hb1 hx)) (fun b hb1 hx=>?_) _ _ (Rel.env _ _ hlow h)
 rcases hx with hx|hx
 ·rcases hx.2 with h1|h1
  ·exact h1
  ·omega
 ·rcases (hh.mine b hx).1 with h1|h1
  ·exact h1.elim
  ·have h1:W.heap.size≤b:=h1
   omega
theorem ent_freeze {Γ:Ctx} {k:Nat} {L:Sl} {H:Hp} (t i:Nat) {f:FuncId} {ty:TypeId} {ds:List D} (hL:L.get t = .fn f [.loc i 0]) (hH:Hp.get H i=some (.blk ty (ds.map .d))):Ent Γ k L H k ((t,.fn f [.pd ds])::L) (Hp.del H i):=by
 intro e a w m
 obtain⟨m2,hX⟩:=m.del i
 have hmem:=Hp.mem_of hH
 refine⟨e,m2.toHeap,m2.defers,m2.len,fun t'=>?_⟩
 rw [Sl.get_cons]
 split
 ·rename_i ht
  subst ht
  have hs:=m.slot t
  rw [hL] at hs
  obtain⟨vs,h1,h2⟩:=hs
  refine⟨vs,h1,?_⟩
  match vs,h2 with
  | [v],⟨⟨_,hv⟩,_⟩ =>
   refine⟨?_,trivial⟩
   obtain⟨us,g1,g2,_⟩:=(m.heap _ hmem).2
   have hown:HB.owned e (i,.blk ty (ds.map .d))=some (e.β i):=rfl
   refine⟨e.β i,0,hv,lt_of_heap g1,fun hx=>?_,fun j hj=>?_⟩
   ·rcases hx with hx|hx
    ·exact (m.mine _ (List.mem_filterMap.2 ⟨_,hmem,hown⟩)).2 hx
    ·obtain⟨p,hp,hpg⟩:=List.mem_filterMap.1 hx
     have hd:=Hp.del_mem (i:=i) H m.ids p hp
     exact m.owned_ne hd.1 hmem hd.2 hpg hown
   ·obtain⟨u,g3,g4⟩:=RelL.get _ _ g2 j (.d ds[j]) (by rw [List.getElem?_map,List.getElem?_eq_getElem hj];rfl)
    refine⟨u,?_,RepC.keep (Nat.le_refl _) (fun _ _ _=>rfl) (fun b _ h=>hX b h) g4⟩
    rw [cell_of_row w _ _ _ ty (0,0) g1,Nat.zero_add];simpa using g3
 ·exact m2.slot t'
theorem dwr_yield {P:Program} {τ:List (Nat × TI)} {τok:TabOk P τ} {O:Nat→Prop} {W:World} {N:Nat} {k:Nat} {L:Sl} {H:Hp} {R:Exit→Act→World→Prop}
  {id l d:Nat} {xs:List Operand} {ts:Array TypeId} {ty:TypeId} {pos:String} {af:Array Edge} {pre post:List Oper} {fy:Nat} (hn:noDefer pre=true) (hnp:noDefer post=true) (hdN:d < N) (Lf:Sl) (hf:flatB Lf=true) (Lp:Bool→Sl)
  (J' Jx:World→Prop)
  (hpre:DL (Γit P τ τok O W N) (pre++⟨some d,.call { callee:=.value (.tmp fy),args:=xs.toArray,argTypes:=ts },ty,pos,af,none⟩::post) pre (fun _ L' _=>L'.get fy = .val (.func (.yield l) #[] #[])∧opsOk xs=true∧Kepts L' Lf ∧
   ∀ e W' vs,Below W.heap.size W W'→RelL O e W' (opsL L' xs) vs→∃ r:Loop,W'.heap[l]? = some (Obj.loop r)∧vs.toArray.size=r.params.size ∧
    RoundIn Fence.wide 0 P l r.fn ((r.params.zip vs.toArray).foldl (fun t (p,v)=>t.setIfInBounds p v) r.tmps) r.assign r.body W'
     (fun en W''=>(en = .returned (.bool true)∧J' W'')∨(en = .returned (.bool false)∧Jx W''))) k L H)
  (hpost:∀ (b:Bool) (W':World),DL (Γit P τ τok (fun _=>False) W' N) (pre++⟨some d,.call { callee:=.value (.tmp fy),args:=xs.toArray,argTypes:=ts },ty,pos,af,none⟩::post) post (fun _ L' H'=>H' = []∧Kepts L' (Lp b)∧flatB (Lp b)=true) 0 ((d,.d (.bool b))::Lf) [])
  (hR:∀ (b:Bool) a' W',Flat N (Lp b) a'→(∃ W1,Below W1.heap.size W1 W'∧((b=true∧J' W1)∨(b=false∧Jx W1)))→R .normal a' W') :
  DWr (Γit P τ τok O W N) (.region id (pre++⟨some d,.call { callee:=.value (.tmp fy),args:=xs.toArray,argTypes:=ts },ty,pos,af,none⟩::post).toArray false) R k L H:=by
 intro e a w m
 refine wpIn_region_lit ?_
 refine wpList_app (Q:=lift (Γit P τ τok O W N) (onNormal _)) ?_ letsOut_lift _ ?_ pre hn a w (hpre e a w m)
 ·rintro c a' w' (⟨_,_,_,_,_,hx,_⟩|⟨_,_,_,_,hv,_⟩)
  ·cases hx
  ·exact hv.elim
 rintro a' w' (⟨k',L',H',e',m',_,hy,hok,hkf,hround⟩|⟨_,_,_,hx,_⟩)
 rotate_left
 ·cases hx
 have hfl:=m'.flatten hkf hf
 unfold wpListIn
 rw [if_pos (by rfl)]
 refine⟨fun _ _=>trivial,?_⟩
 rw [Oper.semAt_eq _ _ _ (by intro c h;cases h)]
 have hyv:a'.eval (.tmp fy) = .func (.yield l) #[] #[]:=by
  have h1:=m'.slot fy
  rw [hy] at h1
  exact h1
 have hb:=m'.toHeap.it_below
 obtain⟨r,h1,h2,h3⟩:=hround e' w' (xs.map a'.eval) hb (RelL.keep (Nat.le_refl _) (fun _ _ _=>rfl) (fun b _ hx=>.inl hx) _ _ (opsL_rel m' xs hok))
 have hrun:(execOp a'.eval ⟨some d,.call { callee:=.value (.tmp fy),args:=xs.toArray,argTypes:=ts },ty,pos,af,none⟩).run P w' =
   .ok (.round l r.fn ((r.params.zip (xs.map a'.eval).toArray).foldl (fun t (p,v)=>t.setIfInBounds p v) r.tmps) r.assign r.body) w':=by
  simp only [execOp,resolve]
  simp only [hyv]
  have:=run_yield (P:=P) (w:=w') h1 h2
  simp [Deferred.ofValue,invoke,this]
 rw [hrun]
 rw [Oper.uponIn_round]
 refine⟨depth_wideR,h3.mono ?_⟩
 have fin:∀ (b:Bool) W1,((b=true∧J' W1)∨(b=false∧Jx W1))→wpListIn (wideR none) 0 P (pre++⟨some d,.call { callee:=.value (.tmp fy),args:=xs.toArray,argTypes:=ts },ty,pos,af,none⟩::post).toArray R post (a'.put (some d) (.bool b)) W1:=by
  intro b W1 hj
  have m2:Models (Γit P τ τok (fun _=>False) W1 N) (lo 0) ((d,.d (.bool b))::Lf) [] ⟨fun _=>0,fun _=>undef,lo 0⟩ (a'.put (some d) (.bool b)) W1 :=
   (hfl.models W1 (fun _ h=>h.elim)).put (s:=.d (.bool b)) hdN RepC.bool
  have:=wpList_app (ro:=none) (Q:=lift (Γit P τ τok (fun _=>False) W1 N) (onNormal _)) (Q':=R) ?_ letsOut_lift [] ?_ post hnp _ _ (hpost b W1 _ _ _ m2)
  ·rw [List.append_nil] at this;exact this
  ·rintro c a' w' (⟨_,_,_,_,_,hx,_⟩|⟨_,_,_,_,hv,_⟩)
   ·cases hx
   ·exact hv.elim
  ·rintro a3 w3 (⟨k3,L3,H3,e3,m3,_,rfl,hk3,hf3⟩|⟨_,_,_,hx,_⟩)
   ·exact hR b a3 w3 (m3.flatten hk3 hf3) ⟨W1,m3.toHeap.it_below,hj⟩
   ·cases hx
 rintro en W1 (⟨rfl,hj⟩|⟨rfl,hj⟩)
 ·exact fin true W1 (.inl ⟨rfl,hj⟩)
 ·exact fin false W1 (.inr ⟨rfl,hj⟩)
theorem dwr_yieldL {P:Program} {τ:List (Nat × TI)} {τok:TabOk P τ} {O:Nat→Prop} {W:World} {N:Nat} {k:Nat} {L:Sl} {H:Hp} {R:Exit→Act→World→Prop}
  {id l d:Nat} {xs:List Operand} {ts:Array TypeId} {ty:TypeId} {pos:String} {af:Array Edge} {ops pre post:List Oper} {fy:Nat} (hl:ops=pre++⟨some d,.call { callee:=.value (.tmp fy),args:=xs.toArray,argTypes:=ts },ty,pos,af,none⟩::post)
  (hn:noDefer pre=true) (hnp:noDefer post=true) (hdN:Nat.blt d N=true) (Lf:Sl) (hf:flatB Lf=true) (Lp:Bool→Sl)
  (J' Jx:World→Prop)
  (hpre:DS false (Γit P τ τok O W N) ops pre (fun _ L' _=>L'.get fy = .val (.func (.yield l) #[] #[])∧opsOk xs=true∧Kepts L' Lf ∧
   ∀ e W' vs,Below W.heap.size W W'→RelL O e W' (opsL L' xs) vs→∃ r:Loop,W'.heap[l]? = some (Obj.loop r)∧vs.toArray.size=r.params.size ∧
    RoundIn Fence.wide 0 P l r.fn ((r.params.zip vs.toArray).foldl (fun t (p,v)=>t.setIfInBounds p v) r.tmps) r.assign r.body W'
     (fun en W''=>(en = .returned (.bool true)∧J' W'')∨(en = .returned (.bool false)∧Jx W''))) k L H)
  (hpost:∀ (b:Bool) (W':World),DS false (Γit P τ τok (fun _=>False) W' N) ops post (fun _ L' H'=>H' = []∧Kepts L' (Lp b)∧flatB (Lp b)=true) 0 ((d,.d (.bool b))::Lf) [])
  (hR:∀ (b:Bool) a' W',Flat N (Lp b) a'→(∃ W1,Below W1.heap.size W1 W'∧((b=true∧J' W1)∨(b=false∧Jx W1)))→R .normal a' W') :
  DWr (Γit P τ τok O W N) (.region id ops.toArray false) R k L H:=by
 subst hl
 exact dwr_yield hn hnp (Nat.le_of_ble_eq_true hdN) Lf hf Lp J' Jx hpre hpost hR
end Go.Proofs.YtapciiffpnociacGreat
namespace Go.Proofs.YtapciiffpnociacGreat
open Go Go.RowKit
section
variable {Γ : Ctx} {l : List Oper} {κ c : Nat} {ro : Option Nat}
def noQ:Exit→Act→World→Prop:=fun _ _ _=>False
theorem letsOut_noQ:¬ LetsOut noQ:=by
 rintro⟨_,_,h⟩
 exact h
theorem wpOp_in2 {P:Program} {Q:Exit→Act→World→Prop} (hn:noDefer l=true) {i:Nat} {K:Act→World→Prop} {a:Act} {w:World} (h:wpOp P l.toArray noQ i K a w):wpOpIn (wideR ro) 0 P l.toArray Q i K a w:=by
 unfold wpOp at h
 unfold wpOpIn
 cases ho:l.toArray[i]? with
 | none=>rw [ho] at h;exact h
 | some o =>
  rw [ho] at h
  have hm:o∈l:=by
   rw [List.getElem?_toArray] at ho
   exact List.mem_of_getElem? ho
  simp only at h ⊢
  split at h
  ·rename_i hw
   rw [if_pos hw]
   rcases h with h|h
   ·exact Oper.wp_in2 (noDefer_spec hn o hm) (fun _ _ h=>h) (fun _ _ _ h=>h.elim) letsOut_noQ h
   ·exact absurd h.2 letsOut_noQ
  ·rename_i hw
   rw [if_neg hw]
   exact⟨fun _ _=>trivial,h⟩
def keepA (t:Nat) (v:Value) (a:Act):Prop:=a.tmps.getD t undef=v
def keepB (t:Nat) (l:List Oper):Bool:=l.all fun o=>match o.dst with
 | some d=>!Nat.beq d t
 | none=>true
theorem keepA_put {t:Nat} {v:Value} {a:Act} {dst:Option Nat} (hd:dst≠some t) (ha:keepA t v a) (u:Value):keepA t v (a.put dst u):=by
 unfold keepA at *
 cases dst with
 | none=>exact ha
 | some d =>
  have hne:d≠t:=fun h=>hd (by rw [h])
  rw [← ha]
  show (a.tmps.setIfInBounds d u).getD t undef=_
  simp [Array.getD_eq_getD_getElem?,Array.getElem?_setIfInBounds_ne hne]
theorem keepB_spec {t:Nat} {l:List Oper} (h:keepB t l=true) {o:Oper} (ho:o∈l):o.dst≠some t:=by
 intro hd
 have h1:=List.all_eq_true.1 h o ho
 rw [hd] at h1
 simp at h1
theorem wp_keep {P:Program} {o:Oper} {a:Act} {w:World} {t:Nat} {v:Value} {K:Act→World→Prop} {Q:Exit→Act→World→Prop} (hd:o.dst≠some t) (ha:keepA t v a) (hh:o.wp P a w (fun a w=>keepA t v a→K a w) Q):o.wp P a w K Q:=by
 unfold Oper.wp at *
 generalize (execOp a.eval o).run P w=r at *
 cases r with
 | ok n w' =>
  cases n <;> simp only [Oper.upon] at hh ⊢ <;>
   first
    | exact hh (keepA_put hd ha _)
    | exact hh (keepA_put (a:={ a with defers:=_::a.defers }) hd ha _)
    | exact Calls.mono hh (fun e w'' he=>by cases e <;> first|exact he (keepA_put hd ha _)|exact he)
    | exact Rows.mono hh (fun _ _ he=>he (keepA_put hd ha _))
 | halt x w'=>cases x <;> simp only [Oper.upon] at hh ⊢ <;> exact hh
theorem wpOp_keep {P:Program} {t:Nat} {v:Value} (hkp:keepB t l=true) {i:Nat} {K:Act→World→Prop} {a:Act} {w:World} (ha:keepA t v a) (h:wpOp P l.toArray noQ i (fun a w=>keepA t v a→K a w) a w):wpOp P l.toArray noQ i K a w:=by
 unfold wpOp at h ⊢
 cases ho:l.toArray[i]? with
 | none=>rw [ho] at h;exact h ha
 | some o =>
  rw [ho] at h
  have hm:o∈l:=by
   rw [List.getElem?_toArray] at ho
   exact List.mem_of_getElem? ho
  simp only at h ⊢
  split at h
  ·rename_i hw
   rw [if_pos hw]
   rcases h with h|h
   ·exact .inl (wp_keep (keepB_spec hkp hm) ha h)
   ·exact absurd h.2 letsOut_noQ
  ·rename_i hw
   rw [if_neg hw]
   exact h (keepA_put (keepB_spec hkp hm) ha _)
theorem tailIn_run (hdown:regDownB l=true) (hT:tailB l c=true) {Q:Exit→Act→World→Prop}:∀ (m:Nat) (listed:Array Bool) (a:Act) (w:World),Going l listed (cx (l.length - m) (l.drop (l.length - m)))→m≤l.length - c→wpListIn (wideR ro) 0 Γ.P l.toArray Q (l.drop (l.length - m)) a w→wpAnyIn (wideR ro) 0 Γ.P .any l.toArray Q m listed a w
 | 0,listed,a,w,g,_,h=>by
  have hn:l.drop (l.length - 0)=[]:=List.drop_eq_nil_of_le (by omega)
  rw [hn] at g h
  refine⟨?_,h⟩
  apply List.eq_nil_iff_forall_not_mem.2
  intro j hj
  obtain⟨h1,o,ho,_⟩:=mem_ready.1 hj
  have:=(g.left (j,o)).2 ⟨by simpa using ho,h1⟩
  simp [cx] at this
 | m + 1,listed,a,w,g,hm,h=>by
  have hj:l.length - (m + 1) < l.length:=by omega
  have hd:l.drop (l.length - (m + 1))=l[l.length - (m + 1)]::l.drop (l.length - m):=by
   rw [List.drop_eq_getElem_cons hj]
   congr 2
   omega
  have hen:cx (l.length - (m + 1)) (l.drop (l.length - (m + 1)))=(l.length - (m + 1),l[l.length - (m + 1)])::cx (l.length - m) (l.drop (l.length - m)):=by
   rw [hd,cx]
   congr 2
   omega
  rw [hen] at g
  rw [hd] at h
  generalize hJ:l.length - (m + 1)=J at *
  have hr:=first_ready hdown g
  refine⟨fun h0=>?_,fun i hi=>?_⟩
  ·rw [h0] at hr;simp at hr
  ·obtain⟨h1,o,ho,hall⟩:=mem_ready.1 hi
   have hio:l[i]? = some o:=by simpa using ho
   have hij:i=J:=by
    have hmem:=(g.left (i,o)).2 ⟨hio,h1⟩
    rcases List.mem_cons.1 hmem with h|h
    ·exact congrArg Prod.fst h
    ·exfalso
     have hlt:J < i:=by simpa using (List.pairwise_cons.1 g.sorted).1 _ h
     have:=reach_done g l.length i o (tailB_spec hT hio (by omega) hlt) hio hall
     have h3:=((g.left (J,l[J])).1 (List.mem_cons_self ..)).2
     have hJs:J < listed.size:=by rw [g.size];exact hj
     rw [getD_flip hJs] at h3
     rw [h3] at this
     cases this
   subst hij
   have g':=Going.rest (pre:=[]) (i:=i) (o:=l[i]) (post:=cx (l.length - m) (l.drop (l.length - m))) g hi rfl (by rw [List.getElem?_eq_getElem hj])
   unfold wpOpIn
   have hlk:l.toArray[i]? = some l[i]:=by simp [hj]
   rw [hlk]
   unfold wpListIn at h
   split at h
   ·rename_i hw
    simp only [hw,if_true]
    exact Oper.wpIn_mono (fun a' w' hk=>tailIn_run hdown hT m _ a' w' g' (by omega) hk) h
   ·rename_i hw
    simp only [hw]
    exact⟨fun _ _=>trivial,tailIn_run hdown hT m _ _ w g' (by omega) h.2⟩
theorem tailIn_sim (hB:regAnyB l=true) (hT:tailB l c=true) (hcl:c≤l.length) (hnd:noDefer l=true) {tv:Nat} {vv:Value} (hkp:keepB tv l=true) {K:FS→Prop} {Q:Exit→Act→World→Prop} (hQ:∀ s e a w,K s→Rep Γ (lo (κ + c)) s e a w→keepA tv vv a→wpListIn (wideR ro) 0 Γ.P l.toArray Q (l.drop c) a w) :
  ∀ (fuel:Nat) (listed:Array Bool) (a:Act) (w:World) (s:FS) (e:Env) (D:Nat→Prop) (rem:List (Nat × Oper)) (lg:Log),Going l listed (rem++cx c (l.drop c))→(∀ q∈rem,q.1 < c)→rem.length=fuel→Rep Γ D s e a w →
   (∀ x,D x→x < κ + c∧∀ j,x=κ + j→listed.getD j false=true)→DR Γ l κ rem lg K s→keepA tv vv a→wpAnyIn (wideR ro) 0 Γ.P .any l.toArray Q (fuel + (l.length - c)) listed a w:=by
 simp only [regAnyB,Bool.and_eq_true] at hB
 obtain⟨hdown,hpair,hcall⟩:=hB
 intro fuel
 induction fuel with
 | zero =>
  intro listed a w s e D rem lg g hrc hlen hr hD hd hka
  have hrem:rem=[]:=List.eq_nil_of_length_eq_zero hlen
  subst hrem
  rw [Nat.zero_add]
  have hcc:l.length - (l.length - c)=c:=by omega
  refine tailIn_run hdown hT (l.length - c) listed a w (by rw [hcc];exact g) (Nat.le_refl _) ?_
  rw [hcc]
  cases hd with
  | nil hk =>
   obtain⟨L,H,m,hs⟩:=hr
   obtain⟨e',m'⟩:=m.widenTo (k':=lo (κ + c)) fun x hx=>(hD x hx).1
   exact hQ s e' a w hk ⟨L,H,m',hs⟩ hka
 | succ fuel ih =>
  intro listed a w s e D rem lg g hrc hlen hr hD hd hka
  rw [show fuel + 1 + (l.length - c)=(fuel + (l.length - c)) + 1 by omega]
  obtain⟨q0,rem0,hq0⟩:∃ q r,rem=q::r:=by
   cases rem with
   | nil=>simp at hlen
   | cons q r=>exact⟨q,r,rfl⟩
  refine⟨fun h0=>?_,fun i hi=>?_⟩
  ·exfalso
   have hg:=g
   rw [hq0,List.cons_append] at hg
   have:=first_ready hdown hg
   rw [h0] at this
   simp at this
  ·obtain⟨h1,o,ho,hall⟩:=mem_ready.1 hi
   have hio:l[i]? = some o:=by simpa using ho
   have hic:i < c:=by
    apply Classical.byContradiction
    intro hn
    have hq0c:q0.1 < c:=hrc q0 (by rw [hq0];exact List.mem_cons_self ..)
    have hrd:=reach_done g l.length i o (tailB_spec hT hio (by omega) (show q0.1 < i by omega)) hio hall
    have h3:=(g.left q0).1 (List.mem_append_left _ (by rw [hq0];exact List.mem_cons_self ..))
    have hs:q0.1 < listed.size:=by rw [g.size];exact ca h3.1
    have h4:=h3.2
    rw [getD_flip hs,hrd] at h4
    cases h4
   have hmem:(i,o)∈rem:=by
    rcases List.mem_append.1 ((g.left (i,o)).2 ⟨hio,h1⟩) with h|h
    ·exact h
    ·exfalso
     have:=((enumO_mem _ _ _).1 h).1
     simp only at this
     omega
   obtain⟨pre,post,hre⟩:=List.append_of_mem hmem
   have g0:=g
   rw [hre,List.append_assoc,List.cons_append] at g0
   have g':=g0.rest hi rfl hio
   rw [← List.append_assoc] at g'
   have hpull:DR Γ l κ ((i,o)::(pre++post)) lg K s:=by
    refine DR.pull pre lg s (fun q hq=>?_) (hre▸hd)
    have hqr:q∈rem++cx c (l.drop c):=List.mem_append_left _ (by rw [hre];exact List.mem_append_left _ hq)
    obtain⟨hq1,hq2⟩:=(g.left q).1 hqr
    have hqi:q.1 < i:=by
     have hs:=g0.sorted
     rw [List.pairwise_append] at hs
     have:=hs.2.2 q hq (i,o) (List.mem_cons_self ..)
     simpa using this
    have hqs:q.1 < listed.size:=by rw [g.size];exact ca hq1
    have hq2':listed.getD q.1 false=false:=(getD_flip hqs).symm.trans hq2
    have e0:path2B l i q.1=false:=path2_false hio hall g.closed hq2'
    have e1:=path2_edge e0
    have e2:edgeB l q.1 i=false:=by
     cases hx:edgeB l q.1 i with
     | false=>rfl
     | true =>
      obtain⟨o',ho',e',he',hb',hon⟩:=edgeB_spec.1 hx
      have:=down_spec hdown q.1 o' ho' e' he' hb'
      omega
    refine⟨e0,e2,?_,fun hcq=>?_⟩
    ·unfold regPairB at hpair
     rw [List.all_eq_true] at hpair
     have p1:=hpair (i,o) ((enumO_mem l 0 (i,o)).2 ⟨Nat.zero_le _,by simpa using hio⟩)
     rw [List.all_eq_true] at p1
     have p2:=p1 q ((enumO_mem l 0 q).2 ⟨Nat.zero_le _,by simpa using hq1⟩)
     have hnb:Nat.ble i q.1=false:=by
      cases hb:Nat.ble i q.1 with
      | false=>rfl
      | true=>have:=Nat.le_of_ble_eq_true hb;omega
     simp only [hnb,Bool.false_or,e1] at p2
     exact p2
    ·cases hci:isCall o with
     | false=>rfl
     | true =>
      have:=calls_done g hcall hq1 hcq i o hio hci hqi hall
      rw [hq2'] at this
      cases this
   cases hpull with
   | cons cc S rd wr hm hl hne hn hk =>
    have hz:¬ D (κ + i):=by
     intro hx
     have:=(hD _ hx).2 i rfl
     have hin:i < listed.size:=by rw [g.size];exact ca hio
     rw [← getD_flip hin,h1] at this
     cases this
    refine wpOp_in2 hnd (wpOp_keep hkp hka (Mv.sound hm hr ⟨κ + c,fun x hx=>(hD x hx).1⟩ hz hio noQ _ fun v u a' w' e' hv hr' hka'=>?_))
    refine ih (listed.setIfInBounds i true) a' w' _ e' _ (pre++post) _ g' (fun q hq=>hrc q ?_) ?_ hr' (fun x hx=>?_) (hk v u hv) hka'
    ·rw [hre];rcases List.mem_append.1 hq with h|h <;> simp [h]
    ·rw [hre] at hlen
     simp only [List.length_append,List.length_cons] at hlen ⊢
     omega
    ·have hin:i < listed.size:=by rw [g.size];exact ca hio
     rcases hx with hx|hx
     ·refine⟨(hD x hx).1,fun j hj=>?_⟩
      have:=(hD x hx).2 j hj
      by_cases hij:i=j
      ·subst hij;simp [hin]
      ·rw [getD_set_ne false hij];exact this
     ·subst hx
      refine⟨by omega,fun j hj=>?_⟩
      have:i=j:=by omega
      subst this
      simp [hin]
end
theorem dwr_yieldA {P:Program} {τ:List (Nat × TI)} {τok:TabOk P τ} {O:Nat→Prop} {W:World} {N:Nat} {k m:Nat} {L:Sl} {H:Hp} {R:Exit→Act→World→Prop}
  {id l d:Nat} {xs:List Operand} {ts:Array TypeId} {ty:TypeId} {pos:String} {af:Array Edge} {g:Option (Nat × Bool)} {ops pre post:List Oper} {fy:Nat} (hm:P.follows .mixedOrders=true) (hl:ops=pre++⟨some d,.call { callee:=.value (.tmp fy),args:=xs.toArray,argTypes:=ts },ty,pos,af,g⟩::post)
  (hB:regAnyB ops=true) (hT:tailB ops pre.length=true) (hnd:noDefer ops=true) (hnp:noDefer post=true) (hdN:Nat.blt d N=true) (hk:lenIs pre k m) (L2:Sl) (h2:∀ e a w,Models (Γit P τ τok O W N) (lo k) L H e a w→Models (Γit P τ τok O W N) (lo k) L2 H e a w) (tv:Nat) (vv:Value) (hLt:L.get tv = .val vv) (hkp:keepB tv ops=true) (Lf:Sl) (hf:flatB Lf=true) (Lp:Bool→Sl)
  (J' Jx:World→Prop)
  (hpre:DT (Γit P τ τok O W N) ops k (cx 0 pre) [] (endK (Γit P τ τok O W N) m (fun _ L' _=>bk ops L' g=some true∧L'.get fy = .val (.func (.yield l) #[] #[])∧opsOk xs=true∧Kepts L' Lf ∧
   ∀ e W' vs,Below W.heap.size W W'→RelL O e W' (opsL L' xs) vs→∃ r:Loop,W'.heap[l]? = some (Obj.loop r)∧vs.toArray.size=r.params.size ∧
    RoundIn Fence.wide 0 P l r.fn ((r.params.zip vs.toArray).foldl (fun t (p,v)=>t.setIfInBounds p v) r.tmps) r.assign r.body W'
     (fun en W''=>(en = .returned (.bool true)∧J' W'')∨(en = .returned (.bool false)∧Jx W'')))) L2 H)
  (hpost:∀ (b:Bool) (W':World),DS false (Γit P τ τok (fun _=>False) W' N) ops post (fun _ L' H'=>H' = []∧Kepts L' (Lp b)∧flatB (Lp b)=true) 0 ((d,.d (.bool b))::(tv,.val vv)::Lf) [])
  (hR:∀ (b:Bool) a' W',Flat N (Lp b) a'→(∃ W1,Below W1.heap.size W1 W'∧((b=true∧J' W1)∨(b=false∧Jx W1)))→R .normal a' W') :
  DWr (Γit P τ τok O W N) (.region id ops.toArray true) R k L H:=by
 have hdN:=Nat.le_of_ble_eq_true hdN
 have hmc:k + pre.length=m:=lenIs_spec pre k m hk
 subst hmc
 have hdrop:ops.drop pre.length=⟨some d,.call { callee:=.value (.tmp fy),args:=xs.toArray,argTypes:=ts },ty,pos,af,g⟩::post:=by rw [hl,List.drop_left]
 have hcl:pre.length≤ops.length:=by rw [hl,List.length_append];omega
 intro e a w mm0
 have hka0:keepA tv vv a:=by
  have h1:=mm0.slot tv
  rw [hLt] at h1
  exact h1
 have mm:=h2 e a w mm0
 refine wpIn_region_any hm ?_
 have m0:=mm.below (w':={ w with drawn:=w.drawn + 1 }) ((Beld.refl _ _ _).drew)
 have hsp:cx 0 pre++cx pre.length (ops.drop pre.length)=cx 0 ops:=by
  have h1:=enumO_app pre (ops.drop pre.length) 0
  rw [Nat.zero_add] at h1
  rw [← h1,hdrop,← hl]
 have hg:Going ops (Array.replicate ops.length false) (cx 0 ops):=by
  refine⟨by simp,fun j o hj hl=>?_,fun q=>?_,enumO_sorted ops 0⟩
  ·have hlt:=ca hj
   simp [hlt] at hl
  ·rw [enumO_mem ops 0 q]
   simp only [Nat.zero_le,Nat.sub_zero,true_and]
   constructor
   ·intro hq;exact⟨hq,by have:=ca hq;simp [this]⟩
   ·exact fun h=>h.1
 have hlenO:∀ (l:List Oper) b,(cx b l).length=l.length:=by
  intro l
  induction l with
  | nil=>intro b;rfl
  | cons o l ih=>intro b;simp [cx,ih]
 have hsize:ops.toArray.size=pre.length + (ops.length - pre.length):=by simp;omega
 rw [hsize]
 refine tailIn_sim (Γ:=Γit P τ τok O W N) hB hT hcl hnd hkp (Q:=R) (fun s e a w hk hr hka=>?_) pre.length _ a _ (ofL L2 H) e (lo k) (cx 0 pre) [] (by rw [hsp,← hsize];simpa using hg) (fun q hq=>?_) (hlenO _ _) ⟨L2,H,m0,rfl⟩ (fun x hx=>⟨Nat.lt_of_lt_of_le hx (Nat.le_add_right _ _),fun j hj=>?_⟩) hpre hka0
 rotate_left
 ·have h2:=((enumO_mem _ _ _).1 hq).2
  exact ca h2
 ·have:x < k:=hx
  omega
 obtain⟨k',L',H',e',m',hw,hy,hok,hkf,hround⟩:=hk e a w hr
 rw [hdrop]
 have hfl0:=m'.flatten hkf hf
 have hfl:Flat N ((tv,.val vv)::Lf) a:=⟨hfl0.len,hfl0.defers,fun t X e w=>by
  rw [Sl.get_cons]
  split
  ·rename_i h;subst h;exact hka
  ·exact hfl0.slot t X e w⟩
 unfold wpListIn
 rw [if_pos (wantedSV_spec m' hw)]
 refine⟨fun _ _=>trivial,?_⟩
 rw [Oper.semAt_eq _ _ _ (by intro c h;cases h)]
 have hyv:a.eval (.tmp fy) = .func (.yield l) #[] #[]:=by
  have h1:=m'.slot fy
  rw [hy] at h1
  exact h1
 have hb:=m'.toHeap.it_below
 obtain⟨r,h1,h2,h3⟩:=hround e' w (xs.map a.eval) hb (RelL.keep (Nat.le_refl _) (fun _ _ _=>rfl) (fun b _ hx=>.inl hx) _ _ (opsL_rel m' xs hok))
 have hrun:(execOp a.eval ⟨some d,.call { callee:=.value (.tmp fy),args:=xs.toArray,argTypes:=ts },ty,pos,af,g⟩).run P w =
   .ok (.round l r.fn ((r.params.zip (xs.map a.eval).toArray).foldl (fun t (p,v)=>t.setIfInBounds p v) r.tmps) r.assign r.body) w:=by
  simp only [execOp,resolve]
  simp only [hyv]
  have:=run_yield (P:=P) (w:=w) h1 h2
  simp [Deferred.ofValue,invoke,this]
 rw [hrun]
 rw [Oper.uponIn_round]
 refine⟨depth_wideR,h3.mono ?_⟩
 have fin:∀ (b:Bool) W1,((b=true∧J' W1)∨(b=false∧Jx W1))→wpListIn (wideR none) 0 P ops.toArray R post (a.put (some d) (.bool b)) W1:=by
  intro b W1 hj
  have m2:Models (Γit P τ τok (fun _=>False) W1 N) (lo 0) ((d,.d (.bool b))::(tv,.val vv)::Lf) [] ⟨fun _=>0,fun _=>undef,lo 0⟩ (a.put (some d) (.bool b)) W1 :=
   (hfl.models W1 (fun _ h=>h.elim)).put (s:=.d (.bool b)) hdN RepC.bool
  have:=wpList_app (ro:=none) (Q:=lift (Γit P τ τok (fun _=>False) W1 N) (onNormal _)) (Q':=R) ?_ letsOut_lift [] ?_ post hnp _ _ (hpost b W1 _ _ _ m2)
  ·rw [List.append_nil] at this;exact this
  ·rintro c a' w' (⟨_,_,_,_,_,hx,_⟩|⟨_,_,_,_,hv,_⟩)
   ·cases hx
   ·exact hv.elim
  ·rintro a3 w3 (⟨k3,L3,H3,e3,m3,_,rfl,hk3,hf3⟩|⟨_,_,_,hx,_⟩)
   ·exact hR b a3 w3 (m3.flatten hk3 hf3) ⟨W1,m3.toHeap.it_below,hj⟩
   ·cases hx
 rintro en W1 (⟨rfl,hj⟩|⟨rfl,hj⟩)
 ·exact fin true W1 (.inl ⟨rfl,hj⟩)
 ·exact fin false W1 (.inr ⟨rfl,hj⟩)
structure UId where
 author:Int
 number:Int
structure Fct where
 pred:Int
 args:List Int
structure Upd where
 id:UId
 parents:List UId
 says:List Fct
 takes:List UId
def cmpI (a b:Int):Int:=if a < b then -1 else if b < a then 1 else 0
def ordL:List Int→List Int→Int
 | [],[]=>0
 | [],_::_=>-1
 | _::_,[]=>1
 | a::l,b::m=>if cmpI a b=0 then ordL l m else cmpI a b
def c9 (a b:Fct):Int:=if cmpI a.pred b.pred=0 then ordL a.args b.args else cmpI a.pred b.pred
def inR (n a b:Int):Bool:=decide (a≤n) && decide (n≤b)
def numB (n:Int):Bool:=inR n (-1000000) 1000000
def UId.same (a b:UId):Bool:=decide (a.author=b.author) && decide (a.number=b.number)
def putN (n:Nat):Nat→List UInt8
 | 0=>[]
 | k + 1=>UInt8.ofNat n::putN (n / 256) k
def put (n:Int) (k:Nat):List UInt8:=putN (n % 4294967296).toNat k
def sameL {α:Type} (p:α→α→Bool):List α→List α→Bool
 | [],[]=>true
 | x::xs,y::ys=>p x y && sameL p xs ys
 | _,_=>false
def Fct.same (x y:Fct):Bool:=decide (c9 x y=0)
def Upd.same (a b:Upd):Bool:=a.id.same b.id && (sameL UId.same a.parents b.parents && (sameL Fct.same a.says b.says && sameL UId.same a.takes b.takes))
theorem cmpI_self (a:Int):cmpI a a=0:=by unfold cmpI;rw [if_neg (by omega),if_neg (by omega)]
theorem cmpI_zero {a b:Int} (h:cmpI a b=0):a=b:=by
 unfold cmpI at h
 split at h
 ·cases h
 ·split at h
  ·cases h
  ·omega
theorem ordL_self:∀ l:List Int,ordL l l=0
 | []=>rfl
 | a::l=>by unfold ordL;rw [if_pos (cmpI_self a)];exact ordL_self l
theorem ordF_self (f:Fct):c9 f f=0:=by unfold c9;rw [if_pos (cmpI_self _)];exact ordL_self _
theorem sameL_drop {α:Type} (p:α→α→Bool) (xs ys:List α) (k:Nat) (h1:k < xs.length) (h2:k < ys.length) :
  sameL p (xs.drop k) (ys.drop k)=(p xs[k] ys[k] && sameL p (xs.drop (k + 1)) (ys.drop (k + 1))):=by
 rw [List.drop_eq_getElem_cons h1,List.drop_eq_getElem_cons h2];rfl
theorem sameL_end {α:Type} (p:α→α→Bool) (xs ys:List α) (k:Nat) (h1:xs.length≤k) (h2:ys.length≤k) :
  sameL p (xs.drop k) (ys.drop k)=true:=by
 rw [List.drop_of_length_le h1,List.drop_of_length_le h2];rfl
theorem sameL_len {α:Type} (p:α→α→Bool):∀ (xs ys:List α),xs.length≠ys.length→sameL p xs ys=false
 | [],[],h=>absurd rfl h
 | [],_::_,_=>rfl
 | _::_,[],_=>rfl
 | x::xs,y::ys,h=>by rw [sameL,sameL_len p xs ys (fun e=>h (by simp [e])),Bool.and_false]
def hasF (l:List Fct) (f:Fct):Bool:=l.any fun x=>decide (c9 x f=0)
def kFrom (l:List Fct) (f:Fct):Nat→Nat
 | 0=>0
 | n + 1=>match l[n]? with
  | some x=>if 0 < c9 x f then kFrom l f n else n + 1
  | none=>n + 1
def insF (l:List Fct) (f:Fct):List Fct:=if hasF l f then l else l.take (kFrom l f l.length)++f::l.drop (kFrom l f l.length)
def b9 (l:List Fct):List Fct:=l.foldl insF []
theorem kFrom_succ {l:List Fct} {f:Fct} {n:Nat} (h:n < l.length):kFrom l f (n + 1)=if 0 < c9 l[n] f then kFrom l f n else n + 1:=by
 rw [kFrom,List.getElem?_eq_getElem h]
theorem insF_len (l:List Fct) (f:Fct):(insF l f).length≤l.length + 1:=by
 unfold insF
 split
 ·omega
 ·simp;omega
theorem setF_take {l:List Fct} {i:Nat} (h:i < l.length):(l.take (i + 1)).foldl insF []=insF ((l.take i).foldl insF []) l[i]:=by
 rw [List.take_succ_eq_append_getElem h,List.foldl_append];rfl
theorem setF_len:∀ (l o:List Fct),(l.foldl insF o).length≤l.length + o.length
 | [],o=>by simp
 | x::l,o=>by
  have:=setF_len l (insF o x)
  have:=insF_len o x
  rw [List.foldl_cons,List.length_cons]
  omega
theorem shift_step {α:Type} {l:List α} {y:α} {k:Nat} (h:k < l.length):(l.take (k + 1)++y::l.drop (k + 1)).set (k + 1) l[k]=l.take k++l[k]::l.drop k:=by
 have h1:(l.take (k + 1)).length=k + 1:=by simp;omega
 rw [List.set_append_right _ _ (by omega),h1,Nat.sub_self,List.set_cons_zero,List.take_succ_eq_append_getElem h,List.append_assoc,List.drop_eq_getElem_cons h]
 rfl
theorem shift_get {α:Type} {l:List α} {y:α} {k:Nat} (h:k < l.length):(l.take (k + 1)++y::l.drop (k + 1))[k]? = some l[k]:=by
 rw [List.getElem?_append_left (by simp;omega),List.getElem?_take,if_pos (by omega),List.getElem?_eq_getElem h]
theorem shift_end {α:Type} {l:List α} {y x:α} {k:Nat} (h:k≤l.length):(l.take k++y::l.drop k).set k x=l.take k++x::l.drop k:=by
 have h1:(l.take k).length=k:=by simp;omega
 rw [List.set_append_right _ _ (by omega),h1,Nat.sub_self,List.set_cons_zero]
end Go.Proofs.YtapciiffpnociacGreat
