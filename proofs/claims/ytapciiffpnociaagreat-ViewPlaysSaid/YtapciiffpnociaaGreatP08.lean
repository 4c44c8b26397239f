/- Several texts in one: GxDo TokP TokE GxCell. Condition: none. -/
import Derived.Test.YtapciiffpnociaaGreatP07
import Derived.Test.YtapciiffpnociaaGreatP01
import Derived.Test.YtapciiffpnociaaGreatP02
namespace Go.Proofs.YtapciiffpnociaaGreat
open Go Go.RowKit
theorem hv_chr {c:UInt8}:SV.d (.str ⟨#[UInt8.ofNat (c.toNat:Int).toNat]⟩) = .d (.str ⟨#[c]⟩):=by simp
theorem hv_row {α:Type} {l:List α} {f:α→List D} {n:Int} {j:Nat} (hn:n=(j:Int)) (h:j < (l.map f).length):SV.pd (rowAt (l.map f) n.toNat) = .pd (f (l[j]'(by simpa using h))):=by
 have h':j < l.length:=by simpa using h
 subst hn;simp [rowAt,List.getD,h']
theorem hv_sltake {α:Type} {f:α→List D} {l:List α} {n:Int} {j es:Nat} (hn:n=(j:Int)):SV.d (.slice es (((l.map f).take n.toNat).drop (0:Int).toNat)) = .d (.slice es ((l.take j).map f)):=by subst hn;simp
theorem hv_sldrop {α:Type} {f:α→List D} {l:List α} {n:Int} {j es:Nat} (hn:n=(j:Int)):SV.d (.slice es (((l.map f).take (((l.map f).length:Nat):Int).toNat).drop n.toNat)) = .d (.slice es ((l.drop j).map f)):=by
 subst hn
 have h:(l.map f).take (((l.map f).length:Nat):Int).toNat=l.map f:=List.take_of_length_le (by simp)
 rw [h,List.map_drop];simp
theorem hv_prow {i es o:Nat} {n:Int} {j:Nat} (hn:n=(j:Int)):SV.prow i n.toNat es o = .prow i j es o:=by subst hn;rfl
theorem hv_ldrow {τ:List (Nat × TI)} {t:TypeId} {o j:Nat} {xs:List (List D)} {ds:List D} {p:Prop} {s:SV} (hg:xs[j]? = some ds) (hs:loadC τ t (.pd (ds.drop o)) (fun _=>none)=some (p,s)):loadRow τ t (rowAt xs j) o=s:=by
 have hr:rowAt xs j=ds:=by simp [rowAt,List.getD,hg]
 unfold loadRow
 rw [hr,hs]
theorem hv_get {α:Type} {f:α→List D} {l:List α} {j:Nat} (h:j < (l.map f).length):(l.map f)[j]? = some (f (l[j]'(by simpa using h))):=by
 have h':j < l.length:=by simpa using h
 simp [h']
theorem hv_sat {s:ByteArray} {n:Int} {j:Nat} (hn:n=(j:Int)) (h:j < s.size):SV.d (.int .u8 (sat s n.toNat)) = .d (.int .u8 ((s[j]'h).toNat:Int)):=by
 subst hn;simp [sat_eq h]
theorem hv_ext {s:ByteArray} {n m:Int} {i j:Nat} (hn:n=(i:Int)) (hm:m=(j:Int)):SV.d (.str (s.extract n.toNat m.toNat)) = .d (.str (s.extract i j)):=by
 subst hn;subst hm;rfl
mutual
theorem SV.ren_id:∀ (s:SV),s.ren id=s
 | .junk=>rfl
 | .d _=>rfl
 | .nils=>rfl
 | .pd _=>rfl
 | .loc _ _=>rfl
 | .row _=>rfl
 | .mp _=>rfl
 | .md _ _=>rfl
 | .prow _ _ _ _=>rfl
 | .sl _ _ _ _=>rfl
 | .rsl _ _ _ _=>rfl
 | .fn f caps=>by simp only [SV.ren,SV.renL_id caps]
 | .agg ss=>by simp only [SV.ren,SV.renL_id ss]
 | .tup ss=>by simp only [SV.ren,SV.renL_id ss]
 | .val _=>rfl
theorem SV.renL_id:∀ (ss:List SV),SV.renL id ss=ss
 | []=>rfl
 | s::ss=>by simp only [SV.renL,SV.ren_id s,SV.renL_id ss]
end
def Kept (J:Nat) (R:Nat→SV→Hp→Prop) (_:Nat) (r:SV) (H:Hp):Prop :=
 ∃ k2 H2,KnowsH id H H2∧Hp.low k2 H2=true∧bm (H2.map (·.1))=true∧Nat.ble J k2=true∧r.low k2=true∧R k2 r H2
theorem anchorOk_id:∀ J,anchorOk id J=true
 | 0=>rfl
 | J + 1=>by simp only [anchorOk,Bool.and_eq_true];exact⟨Nat.beq_refl J,anchorOk_id J⟩
theorem fn_enterF {dr:Bool} {P:Program} {τ:List (Nat × TI)} {τok:d7 P τ} {f:FuncId} {fn:Func} {c:Code} {args:List SV} {J k:Nat} {H:Hp} {R:Nat→SV→Hp→Prop} (N:Nat) (hf:P.funcs[f]? = some fn) (hb:fn.body=some c)
  (hN:args.length + (fn.ntmps - args.length)=N) (hcall:io P f=true)
  (h:∀ (O:Nat→Prop) (w0:World) (E0:Nat→Prop) (β0:Nat→Nat × Value),DW ⟨P,τ,τok,O,w0,E0,N,J,β0,none,dm,true,dr⟩ c (RetQ τ fn.results.toList (Kept J R)) k (enumSl 0 args) H):FnOk dr P τ τok f args J k H R:=by
 have h2:=mb (J:=J) (k:=k) (H:=H) N hf hb hN hcall (R:=Kept J R) h
 refine⟨h2.1,fun O e w vs hH hr=>(h2.2 O e w vs hH hr).mono ?_⟩
 rintro en w' ⟨k',r,H',e',v,⟨k2,H2,hK,hl,hd,hj,hrl,hR⟩,rfl,hH',hrel⟩
 obtain⟨g1,g2⟩:=hH'.ren id k2 H2 hK hl hd hd hj (anchorOk_id J)
 exact⟨k2,r,H2,e'.ren id k2,v,hR,rfl,g1,Rel.keep (Nat.le_refl _) (fun _ _ _=>rfl) (fun b _ hy=>g2 b hy) _ _ (Rel.ren id k2 r v hrl ((SV.ren_id r).symm▸hrel))⟩
section
variable {Γ : Ctx} {k κ : Nat} {L : Sl} {H : Hp} {K : cq} {ops : List Oper} {rest : List Oper} {q : Bool}
theorem ds_evC {d:Nat} {op:Op} {ty:TypeId} {pos:String} {af:Array Edge} {g:Option (Nat × Bool)} {p:Prop} {s s':SV} (he:evC Γ.τ (a8 L) (Hp.get H) op=some (p,s)) (hp:p) (hv:s=s') (hok:ce op=true)
  (hw:bf ops L g=some true) (hd:Nat.blt d Γ.n=true) (hk:DS q Γ ops rest K k ((d,s')::L) H):DS q Γ ops (⟨some d,op,ty,pos,af,g⟩::rest) K k L H:=by
 subst hv
 exact il (evC_sound he hp hok) hw hd hk
def setF:Hp→Nat→HB→(Hp→Option Hp)→Option Hp
 | [],_,_,k=>k []
 | (d,s)::H,i,b,k=>match Nat.beq d i with
  | true=>k ((d,b)::H)
  | false=>setF H i b fun H'=>k ((d,s)::H')
theorem ke (i:Nat) (b:HB):∀ (H:Hp) (k:Hp→Option Hp),setF H i b k=k (Hp.set H i b)
 | [],_=>rfl
 | (d,s)::H,k=>by
  simp only [setF,Hp.set]
  cases h:Nat.beq d i with
  | true=>rfl
  | false=>simp only [ke i b H]
def delF:Hp→Nat→(Hp→Option Hp)→Option Hp
 | [],_,k=>k []
 | (d,s)::H,i,k=>match Nat.beq d i with
  | true=>k H
  | false=>delF H i fun H'=>k ((d,s)::H')
theorem mg (i:Nat):∀ (H:Hp) (k:Hp→Option Hp),delF H i k=k (Hp.del H i)
 | [],_=>rfl
 | (d,s)::H,k=>by
  simp only [delF,Hp.del]
  cases h:Nat.beq d i with
  | true=>rfl
  | false=>simp only [mg i H]
theorem ds_newC {d:Nat} {op:Op} {ty:TypeId} {pos:String} {af:Array Edge} {g:Option (Nat × Bool)} {p:Prop} {s:SV} {b:HB} (he:ks Γ.τ (a8 L) (Hp.get H) k op=some (p,s,.new b)) (hp:p) (hok:ce op=true)
  (hw:bf ops L g=some true) (hd:Nat.blt d Γ.n=true) (hk:DS false Γ ops rest K (k + 1) ((d,s)::L) ((k,b)::H)):DS false Γ ops (⟨some d,op,ty,pos,af,g⟩::rest) K k L H :=
 dl_op hw ((stepD_sound he hp trivial hok hd (f5 k)).cast (fe k)) hk
theorem ds_tradeC [NoDr Γ] {d j:Nat} {op:Op} {ty:TypeId} {pos:String} {af:Array Edge} {g:Option (Nat × Bool)} {p:Prop} {s:SV} {b:HB} {H':Hp} (he:ks Γ.τ (a8 L) (Hp.get H) k op=some (p,s,.trade j b)) (hp:p) (hok:ce op=true)
  (hw:bf ops L g=some true) (hd:Nat.blt d Γ.n=true) (hH:delF H j some=some H') (hk:DS false Γ ops rest K (k + 1) ((d,s)::L) ((k,b)::H')):DS false Γ ops (⟨some d,op,ty,pos,af,g⟩::rest) K k L H:=by
 rw [mg] at hH
 cases hH
 exact dl_op hw ((stepD_sound he hp (NoDr.no (Γ:=Γ)) hok hd (f5 k)).cast (fe k)) hk
theorem store_sound {te ty:TypeId} {x y:Operand} {pos:String} {af:Array Edge} {g:Option (Nat × Bool)} {s:SV} {j:Nat} {b:HB} {D:Nat→Prop} (h:storeC Γ.τ te (a8 L x) (a8 L y) (Hp.get H)=some (True,s,.set j b)) (hok:c9 y=true) :
  OpOk Γ ⟨none,.store te x y,ty,pos,af,g⟩ D L H D L (Hp.set H j b):=by
 simp only [storeC,fu] at h
 split at h
 ·rename_i i o hx
  split at h
  ·rename_i tb cs hH
   split at h
   ·rename_i hc
    simp only [Option.some.injEq,Prod.mk.injEq,Up.set.injEq] at h
    obtain⟨_,_,rfl,rfl⟩:=h
    simp only [Bool.and_eq_true] at hc
    exact op_store hx hH rfl hok hc.1 hc.2.1 hc.2.2.1 hc.2.2.2
   ·cases h
  ·cases h
 ·rename_i i j es o hx
  split at h
  ·rename_i tb es' xs hH
   split at h
   ·rename_i x hy
    split at h
    ·rename_i hc
     simp only [Option.some.injEq,Prod.mk.injEq,Up.set.injEq] at h
     obtain⟨hp,_,rfl,rfl⟩:=h
     have hp:=of_eq_true hp
     simp only [Bool.and_eq_true] at hc
     obtain⟨c1,c2,c3,c4,c5⟩:=hc
     have e3:=Nat.eq_of_beq_eq_true c3
     have e4:=Nat.eq_of_beq_eq_true c4
     have e5:=Nat.eq_of_beq_eq_true c5
     have e2:=Nat.eq_of_beq_eq_true c2
     subst e3;subst e5
     rw [e4] at hH
     have hone:xs[j].length=1:=hp.2 _ (List.getElem_mem hp.1)
     have hsp:gq xs[j] 0 [x]=[x]:=by
      unfold gq
      match hx1:xs[j],hone with
      | [u],_=>rfl
     have:=op_storeP (k:=D) (te:=te) (pos:=pos) (af:=af) (g:=g) (ty:=ty) (new:=[x]) hx hH hp.1 hy hok rfl c1 (by rw [show Γ.cells te=1 from e2];rfl) rfl
     rw [hsp] at this
     exact this
    ·cases h
   ·cases h
  ·cases h
 ·cases h
theorem ds_setC {te ty:TypeId} {x y:Operand} {pos:String} {af:Array Edge} {g:Option (Nat × Bool)} {s:SV} {j:Nat} {b:HB} {H':Hp} (he:storeC Γ.τ te (a8 L x) (a8 L y) (Hp.get H)=some (True,s,.set j b)) (hok:c9 y=true)
  (hw:bf ops L g=some true) (hH:setF H j b some=some H') (hk:DS false Γ ops rest K k L H'):DS false Γ ops (⟨none,.store te x y,ty,pos,af,g⟩::rest) K k L H:=by
 rw [ke] at hH
 cases hH
 exact dl_op hw (store_sound he hok) hk
theorem ds_bsC {d:Nat} {t len:Nat} {ty:TypeId} {pos:String} {af:Array Edge} {g:Option (Nat × Bool)} {ps:Array (Nat × Operand)} {p:Prop} {s:SV} (he:dw Γ.τ (a8 L) t len ps.toList=some (p,s,.no)) (hok:ce (.buildSlice t len ps)=true)
  (hw:bf ops L g=some true) (hd:Nat.blt d Γ.n=true) (hk:DS false Γ ops rest K k ((d,s)::L) H):DS false Γ ops (⟨some d,.buildSlice t len ps,ty,pos,af,g⟩::rest) K k L H :=
 dl_op hw (bs_sound he hok hd) hk
mutual
theorem Rel.lower {X e w} (k:Nat):∀ (s:SV) (v:Value),s.low k=true→Rel X e w s v→Rel X ⟨e.β,e.η,lo k⟩ w s v
 | .junk,_,_,_=>trivial
 | .d _,_,_,h=>h
 | .nils,_,_,h=>h
 | .pd _,_,_,h=>h
 | .loc _ _,_,hb,h=>⟨Nat.le_of_ble_eq_true hb,h.2⟩
 | .row _,_,hb,h=>⟨Nat.le_of_ble_eq_true hb,h.2⟩
 | .mp _,_,hb,h=>⟨Nat.le_of_ble_eq_true hb,h.2⟩
 | .md _ _,_,_,h=>h
 | .prow _ _ _ _,_,hb,h=>⟨Nat.le_of_ble_eq_true hb,h.2⟩
 | .sl _ _ _ _,_,hb,h=>⟨Nat.le_of_ble_eq_true hb,h.2⟩
 | .rsl _ _ _ _,_,hb,h=>⟨Nat.le_of_ble_eq_true hb,h.2⟩
 | .fn _ caps,_,hb,⟨vs,h1,h2⟩=>⟨vs,h1,RelL.lower k caps vs hb h2⟩
 | .agg ss,_,hb,⟨vs,h1,h2⟩=>⟨vs,h1,RelL.lower k ss vs hb h2⟩
 | .tup ss,_,hb,⟨vs,h1,h2⟩=>⟨vs,h1,RelL.lower k ss vs hb h2⟩
 | .val _,_,_,h=>h
theorem RelL.lower {X e w} (k:Nat):∀ (ss:List SV) (vs:List Value),SV.lowL k ss=true→RelL X e w ss vs→RelL X ⟨e.β,e.η,lo k⟩ w ss vs
 | [],[],_,_=>trivial
 | [],_::_,_,h=>h.elim
 | _::_,[],_,h=>h.elim
 | s::ss,v::vs,hb,h=>by
  simp only [SV.lowL,Bool.and_eq_true] at hb
  exact⟨Rel.lower k s v hb.1 h.1,RelL.lower k ss vs hb.2 h.2⟩
end
theorem Sl.low_get {k:Nat}:∀ (L:Sl),Sl.low k L=true→∀ t,(Sl.get L t).low k=true
 | [],_,_=>rfl
 | (d,s)::L,h,t=>by
  simp only [Sl.low,Bool.and_eq_true] at h
  rw [Sl.get_cons]
  split
  ·exact h.1
  ·exact Sl.low_get L h.2 t
theorem Models.lower {k':Nat→Prop} {e:Env} {a:Act} {w:World} (m:Models Γ k' L H e a w) (k:Nat) (hL:Sl.low k L=true) (hH:Hp.low k H=true) (hj:Nat.ble Γ.J k=true):Models Γ k L H ⟨e.β,e.η,lo k⟩ a w:=by
 have hlow:=Hp.low_spec H hH
 have hol:aw ⟨e.β,e.η,lo k⟩ H=aw e H:=rfl
 refine⟨⟨fun _=>Iff.rfl,fun p hp=>⟨(hlow p hp).1,?_⟩,m.ids,m.nodup,m.mine,m.os,m.tape,m.output,m.drawn,m.size,m.block,m.obound,fun j hjl=>Nat.lt_of_lt_of_le hjl (Nat.le_of_ble_eq_true hj),m.anchor⟩,m.defers,m.len,fun t=>Rel.lower k _ _ (Sl.low_get L hL t) (m.slot t)⟩
 have h:=(m.heap p hp).2
 have hl:=(hlow p hp).2
 obtain⟨i,b⟩:=p
 cases b with
 | blk ty cs =>
  obtain⟨vs,h1,h2,h3⟩:=h
  exact⟨vs,h1,RelL.lower k cs vs hl h2,h3⟩
 | row ty es xs=>exact h
 | map kd kvs=>exact h
def HB.force (b:HB) (k:HB→Prop):Prop:=match b with
 | .blk ty cs=>forceL cs fun cs'=>k (.blk ty cs')
 | .row ty es xs=>k (.row ty es xs)
 | .map kd kvs=>k (.map kd kvs)
theorem HB.force_eq (b:HB) (k:HB→Prop):b.force k=k b:=by cases b <;> simp [HB.force,fu]
def forceHp:Hp→(Hp→Prop)→Prop
 | [],k=>k []
 | (i,b)::r,k=>b.force fun b'=>forceHp r fun r'=>k ((i,b')::r')
theorem forceHp_eq:∀ (H:Hp) (k:Hp→Prop),forceHp H k=k H
 | [],_=>rfl
 | (i,b)::r,k=>by simp only [forceHp,HB.force_eq,forceHp_eq r]
def afterCall (q:Bool) (Γ:Ctx) (ops rest:List Oper) (K:cq) (k m d:Nat) (r:SV) (L:Sl) (H:Hp):Prop :=
 forceSV r fun r'=>forceHp H fun H'=>match Sl.low k L && (SV.low k r' && (Hp.low k H' && Nat.ble Γ.J k)) with
  | true=>DS q Γ ops rest K k ((d,r')::L) H'
  | false=>DS q Γ ops rest K m ((d,r')::L) H'
theorem after_call {m d:Nat} {r:SV} (h:afterCall false Γ ops rest K k m d r L H):DS false Γ ops rest K m ((d,r)::L) H:=by
 unfold afterCall at h
 rw [jj,forceHp_eq] at h
 split at h
 ·rename_i hc
  simp only [Bool.and_eq_true] at hc
  intro e a w mm
  exact h _ a w (mm.lower k (by simp only [Sl.low,Bool.and_eq_true];exact⟨hc.2.1,hc.1⟩) hc.2.2.1 hc.2.2.2)
 ·exact h
theorem b8 {f:FuncId} {xs:List Operand} {ts:Array TypeId} {ty:TypeId} {pos:String} {af:Array Edge} {g:Option (Nat × Bool)} {d:Nat} {args:List SV} {J kc:Nat} {Hc:Hp} {R:Nat→SV→Hp→Prop} (ρ:Nat→Nat)
  (hc:FnOk Γ.dr Γ.P Γ.τ Γ.τok f args J kc Hc R) (hw:bf ops L g=some true) (ha:opsL L xs=SV.renL ρ args) (hok:eb xs=true) (hlA:SV.lowL kc args=true) (hKH:KnowsH ρ H Hc) (hl:Hp.low kc Hc=true)
  (hd:bm (Hc.map fun p=>ρ p.1)=true) (hd':bm (Hc.map (·.1))=true) (hJ:Nat.ble J kc=true) (hall:allIn J (Hc.map (·.1))=true) (hdn:Nat.blt d Γ.n=true)
  (hRr:∀ k2 r H2,R k2 r H2→r.rowsGe J=true∧Hp.rowsGe J H2=true)
  (hk:∀ k2 r H2,R k2 r H2→afterCall false Γ ops rest K k (k + k2) d (r.ren (sig ρ J k)) L ((H2.map fun p=>(sig ρ J k p.1,p.2.ren (sig ρ J k)))++restOf H (Hc.map fun p=>ρ p.1))) :
  DS false Γ ops (⟨some d,.call { callee:=.value (.func f),args:=xs.toArray,argTypes:=ts },ty,pos,af,g⟩::rest) K k L H :=
 ds_callO ρ hc hw ha hok hlA hKH hl hd hd' hJ hall hdn hRr fun k2 r H2 h=>after_call (hk k2 r H2 h)
theorem ds_callVF {f:FuncId} {x:Operand} {caps:List SV} {xs:List Operand} {ts:Array TypeId} {ty:TypeId} {pos:String} {af:Array Edge} {g:Option (Nat × Bool)} {d:Nat} {args:List SV} {J kc:Nat} {Hc:Hp} {R:Nat→SV→Hp→Prop} (ρ:Nat→Nat)
  (hc:FnOk Γ.dr Γ.P Γ.τ Γ.τok f args J kc Hc R) (hx:a8 L x = .fn f caps) (hxo:c9 x=true) (hw:bf ops L g=some true) (ha:opsL L xs++caps=SV.renL ρ args) (hok:eb xs=true) (hlA:SV.lowL kc args=true) (hKH:KnowsH ρ H Hc) (hl:Hp.low kc Hc=true)
  (hd:bm (Hc.map fun p=>ρ p.1)=true) (hd':bm (Hc.map (·.1))=true) (hJ:Nat.ble J kc=true) (hall:allIn J (Hc.map (·.1))=true) (hdn:Nat.blt d Γ.n=true)
  (hRr:∀ k2 r H2,R k2 r H2→r.rowsGe J=true∧Hp.rowsGe J H2=true)
  (hk:∀ k2 r H2,R k2 r H2→afterCall false Γ ops rest K k (k + k2) d (r.ren (sig ρ J k)) L ((H2.map fun p=>(sig ρ J k p.1,p.2.ren (sig ρ J k)))++restOf H (Hc.map fun p=>ρ p.1))) :
  DS false Γ ops (⟨some d,.call { callee:=.value x,args:=xs.toArray,argTypes:=ts },ty,pos,af,g⟩::rest) K k L H :=
 ds_callVO ρ hc hx hxo hw ha hok hlA hKH hl hd hd' hJ hall hdn hRr fun k2 r H2 h=>after_call (hk k2 r H2 h)
theorem ds_ent {k':Nat} {L':Sl} {H':Hp} (he:Ent Γ k L H k' L' H') (h:DS false Γ ops rest K k' L' H'):DS false Γ ops rest K k L H:=fun e a w m =>
 let ⟨e',m'⟩:=he e a w m
 h e' a w m'
def DT (Γ:Ctx) (ops:List Oper) (κ:Nat) (rest:List (Nat × Oper)) (lg:Log) (K:FS→Prop) (L:Sl) (H:Hp):Prop:=DR Γ ops κ rest lg K (ofL L H)
variable {rem : List (Nat × Oper)} {lg : Log} {Kf : FS → Prop}
def lenIs:List Oper→Nat→Nat→Prop
 | [],k,m=>k=m
 | _::l,k,m=>lenIs l (k + 1) m
theorem lenIs_spec:∀ (l:List Oper) (k m:Nat),lenIs l k m→k + l.length=m
 | [],_,_,h=>h
 | _::l,k,m,h=>by have:=lenIs_spec l (k + 1) m h;simp only [List.length_cons];omega
theorem dw_any {id m:Nat} {l:List Oper} {Q:f9} (hm:Γ.P.follows .mixedOrders=true) (hB:regAnyB l=true) (hnd:dt l=true) (hl:lenIs l k m) (h:DT Γ l k (d6 0 l) [] (endK Γ m (Q .normal)) L H):DW Γ (.region id l.toArray true) Q k L H :=
 dw_region_any hm hB hnd (lenIs_spec l k m hl▸h)
theorem dt_nil {m:Nat} {Q:cq} (hn:bm (H.map (·.1))=true) (h:Q m L H):DT Γ ops κ [] lg (endK Γ m Q) L H:=by
 refine .nil fun e a w hr=>?_
 obtain⟨L2,H2,m2,hs⟩:=hr
 have h1:∀ t,Sl.get L2 t=Sl.get L t:=fun t=>congrFun (congrArg FS.ℓ hs) t
 have h2:∀ i,Hp.get H2 i=Hp.get H i:=fun i=>congrFun (congrArg FS.η hs) i
 exact⟨m,L,H,e,m2.same h1 h2 (dq _ hn),h⟩
theorem dt_nil0 {m:Nat} {Q:cq} (hn:bm (H.map (·.1))=true) (hj:Nat.ble Γ.J κ=true) (hL:Sl.low κ L=true) (hH:Hp.low κ H=true) (h:Q κ L H):DT Γ ops κ [] lg (endK Γ m Q) L H:=by
 refine .nil fun e a w hr=>?_
 obtain⟨L2,H2,m2,hs⟩:=hr
 have h1:∀ t,Sl.get L2 t=Sl.get L t:=fun t=>congrFun (congrArg FS.ℓ hs) t
 have h2:∀ i,Hp.get H2 i=Hp.get H i:=fun i=>congrFun (congrArg FS.η hs) i
 exact⟨κ,L,H,_,(m2.same h1 h2 (dq _ hn)).lower κ hL hH hj,h⟩
theorem dt_skip {i:Nat} {op:Op} {ty:TypeId} {pos:String} {af:Array Edge} {g:Option (Nat × Bool)} {dst:Option Nat} (hw:bf ops L g=some false) (hd:dstOk Γ dst=true) (hlog:gc ops i [] [] lg=true)
  (hk:DT Γ ops κ rem ((i,[],[])::lg) Kf (putL dst (.tup []) L) H):DT Γ ops κ ((i,⟨dst,op,ty,pos,af,g⟩)::rem) lg Kf L H:=by
 refine .cons false _ [] [] (.skip ((je ops L g).trans hw) hd) hlog ⟨_,_,rfl,rfl⟩ (fun v u hv=>by rw [hv.2];rfl) fun v u hv=>?_
 rw [hv.1,hv.2]
 have:(ofL L H).app (κ + i) dst (.tup []) .no=ofL (putL dst (.tup []) L) H:=by rw [← kf];cases dst <;> rfl
 show DR Γ ops κ rem _ Kf ((ofL L H).app (κ + i) dst (.tup []) .no)
 rw [this]
 exact hk
theorem dt_step {i:Nat} {op:Op} {ty:TypeId} {pos:String} {af:Array Edge} {g:Option (Nat × Bool)} {dst:Option Nat} {p:Prop} {v v':SV} {u:Up} (hw:bf ops L g=some true)
  (hs:ip Γ.τ (a8 L) (Hp.get H) (κ + i) dst op=some (p,v,u)) (hp:p) (hu:u.okD Γ.dr) (hv:v=v') (hok:ce op=true) (hd:dstOk Γ dst=true) (hn:bm (H.map (·.1))=true)
  (hlog:gc ops i (k9 (a8 L) op) (u.names (κ + i)) lg=true) (hk:DT Γ ops κ rem ((i,k9 (a8 L) op,u.names (κ + i))::lg) Kf (putL dst v' L) (u.appL (κ + i) H)) :
  DT Γ ops κ ((i,⟨dst,op,ty,pos,af,g⟩)::rem) lg Kf L H:=by
 subst hv
 have hs':ip Γ.τ (ofL L H).op (ofL L H).η (κ + i) dst op=some (p,v,u):=by rw [ja];exact hs
 have hr:k9 (ofL L H).op op=k9 (a8 L) op:=by rw [ja]
 refine .cons false _ _ _ (.step p v u ((je ops L g).trans hw) hs' hp hu hok hd) (by rw [hr];exact hlog) ⟨v,u,rfl,rfl⟩ (fun v u hv=>by rw [hv.2]) fun v' u' hv=>?_
 rw [hv.1,hv.2]
 show DR Γ ops κ rem ((i,k9 (ofL L H).op op,u.names (κ + i))::lg) Kf ((ofL L H).app (κ + i) dst v u)
 rw [hr,← appL_get (dq _ hn) hs]
 exact hk
theorem dt_skipD {i:Nat} {op:Op} {ty:TypeId} {pos:String} {af:Array Edge} {g:Option (Nat × Bool)} {d:Nat} (hw:bf ops L g=some false) (hd:Nat.blt d Γ.n=true) (hlog:gc ops i [] [] lg=true)
  (hk:DT Γ ops κ rem ((i,[],[])::lg) Kf ((d,.tup [])::L) H):DT Γ ops κ ((i,⟨some d,op,ty,pos,af,g⟩)::rem) lg Kf L H:=dt_skip (dst:=some d) hw hd hlog hk
theorem dc {i:Nat} {op:Op} {ty:TypeId} {pos:String} {af:Array Edge} {g:Option (Nat × Bool)} {d:Nat} {p:Prop} {v v':SV} (hw:bf ops L g=some true)
  (hs:ip Γ.τ (a8 L) (Hp.get H) (κ + i) (some d) op=some (p,v,.no)) (hp:p) (hv:v=v') (hok:ce op=true) (hd:Nat.blt d Γ.n=true) (hn:bm (H.map (·.1))=true)
  (hlog:gc ops i (k9 (a8 L) op) [] lg=true) (hk:DT Γ ops κ rem ((i,k9 (a8 L) op,[])::lg) Kf ((d,v')::L) H) :
  DT Γ ops κ ((i,⟨some d,op,ty,pos,af,g⟩)::rem) lg Kf L H:=dt_step hw hs hp trivial hv hok hd hn hlog hk
theorem dt_new {i z:Nat} {op:Op} {ty:TypeId} {pos:String} {af:Array Edge} {g:Option (Nat × Bool)} {d:Nat} {p:Prop} {v v':SV} {b:HB} (hw:bf ops L g=some true) (hz:κ + i=z)
  (hs:ip Γ.τ (a8 L) (Hp.get H) z (some d) op=some (p,v,.new b)) (hp:p) (hv:v=v') (hok:ce op=true) (hd:Nat.blt d Γ.n=true) (hn:bm (H.map (·.1))=true)
  (hlog:gc ops i (k9 (a8 L) op) [z] lg=true) (hk:DT Γ ops κ rem ((i,k9 (a8 L) op,[z])::lg) Kf ((d,v')::L) ((z,b)::H)) :
  DT Γ ops κ ((i,⟨some d,op,ty,pos,af,g⟩)::rem) lg Kf L H:=by subst hz;exact dt_step hw hs hp trivial hv hok hd hn hlog hk
theorem dt_set {i j:Nat} {op:Op} {ty:TypeId} {pos:String} {af:Array Edge} {g:Option (Nat × Bool)} {p:Prop} {v:SV} {b:HB} {H':Hp} (hw:bf ops L g=some true)
  (hs:ip Γ.τ (a8 L) (Hp.get H) (κ + i) none op=some (p,v,.set j b)) (hp:p) (hok:ce op=true) (hn:bm (H.map (·.1))=true) (hH:setF H j b some=some H')
  (hlog:gc ops i (k9 (a8 L) op) [j] lg=true) (hk:DT Γ ops κ rem ((i,k9 (a8 L) op,[j])::lg) Kf L H') :
  DT Γ ops κ ((i,⟨none,op,ty,pos,af,g⟩)::rem) lg Kf L H:=by rw [ke] at hH;cases hH;exact dt_step (dst:=none) (v':=v) hw hs hp trivial rfl hok rfl hn hlog hk
theorem dt_del {i j:Nat} {op:Op} {ty:TypeId} {pos:String} {af:Array Edge} {g:Option (Nat × Bool)} {d:Nat} {p:Prop} {v v':SV} (hw:bf ops L g=some true)
  (hs:ip Γ.τ (a8 L) (Hp.get H) (κ + i) (some d) op=some (p,v,.del j)) (hp:p) (hv:v=v') (hok:ce op=true) (hd:Nat.blt d Γ.n=true) (hn:bm (H.map (·.1))=true)
  (hlog:gc ops i (k9 (a8 L) op) [j] lg=true) {H':Hp} (hH:delF H j some=some H') (hk:DT Γ ops κ rem ((i,k9 (a8 L) op,[j])::lg) Kf ((d,v')::L) H') :
  DT Γ ops κ ((i,⟨some d,op,ty,pos,af,g⟩)::rem) lg Kf L H:=by rw [mg] at hH;cases hH;exact dt_step hw hs hp trivial hv hok hd hn hlog hk
theorem dt_trade [NoDr Γ] {i j z:Nat} {op:Op} {ty:TypeId} {pos:String} {af:Array Edge} {g:Option (Nat × Bool)} {d:Nat} {p:Prop} {v v':SV} {b:HB} (hw:bf ops L g=some true) (hz:κ + i=z)
  (hs:ip Γ.τ (a8 L) (Hp.get H) z (some d) op=some (p,v,.trade j b)) (hp:p) (hv:v=v') (hok:ce op=true) (hd:Nat.blt d Γ.n=true) (hn:bm (H.map (·.1))=true)
  (hlog:gc ops i (k9 (a8 L) op) [j,z] lg=true) {H':Hp} (hH:delF H j some=some H') (hk:DT Γ ops κ rem ((i,k9 (a8 L) op,[j,z])::lg) Kf ((d,v')::L) ((z,b)::H')) :
  DT Γ ops κ ((i,⟨some d,op,ty,pos,af,g⟩)::rem) lg Kf L H:=by rw [mg] at hH;cases hH;subst hz;exact dt_step hw hs hp (NoDr.no (Γ:=Γ)) hv hok hd hn hlog hk
theorem dt_call {i:Nat} {f:FuncId} {xs:List Operand} {ts:Array TypeId} {ty:TypeId} {pos:String} {af:Array Edge} {g:Option (Nat × Bool)} {d:Nat} {args:List SV} {R:SV→Prop} (hw:bf ops L g=some true)
  (ha:opsL L xs=args) (hc:FnP Γ.dr Γ.P Γ.τ Γ.τok f args R) (hok:eb xs=true) (hlow:SV.lowL 0 args=true) (hd:Nat.blt d Γ.n=true) (hlog:gc ops i [] [] lg=true) (hne:∃ r,R r)
  (hk:∀ r,R r→DT Γ ops κ rem ((i,[],[])::lg) Kf ((d,r)::L) H) :
  DT Γ ops κ ((i,⟨some d,.call { callee:=.value (.func f),args:=xs.toArray,argTypes:=ts },ty,pos,af,g⟩)::rem) lg Kf L H:=by
 have e1:xs.map (ofL L H).op++[]=args:=by rw [ja,List.append_nil,← iy,ha]
 have hok':ce (.call { callee:=.value (.func f),args:=xs.toArray,argTypes:=ts })=true:=by
  unfold ce
  simp only [Op.operands,Call.operands,Array.toList_append,List.all_append,Bool.and_eq_true]
  refine⟨rfl,?_⟩
  have:∀ (xs:List Operand),eb xs=true→xs.all c9=true:=by
   intro xs
   induction xs with
   | nil=>intro _;rfl
   | cons x xs ih=>intro h;simp only [eb,Bool.and_eq_true] at h;simp [h.1,ih h.2]
  exact this xs hok
 refine .cons true _ [] [] (.call d f (.func f) [] xs ts R ((je ops L g).trans hw) rfl rfl rfl (e1▸hc) (e1▸hlow) hok' hd) hlog (hne.imp fun r h=>⟨.no,h,rfl⟩) (fun v u hv=>by rw [hv.2];rfl) fun v u hv=>?_
 rw [hv.2]
 have:(ofL L H).app (κ + i) (some d) v .no=ofL ((d,v)::L) H:=(kf L H (some d) v)
 show DR Γ ops κ rem _ Kf ((ofL L H).app (κ + i) (some d) v .no)
 rw [this]
 exact hk v hv.1
theorem dt_callW {i:Nat} {f:FuncId} {xs:List Operand} {ts:Array TypeId} {ty:TypeId} {pos:String} {af:Array Edge} {g:Option (Nat × Bool)} {d:Nat} {args:List SV} {te:TypeId} {es:Nat} {R:List (List D)→Prop} (hw:bf ops L g=some true)
  (ha:opsL L xs=args) (hc:FnRow Γ.dr Γ.P Γ.τ Γ.τok f args te es R) (hok:eb xs=true) (hlow:SV.lowL 0 args=true) (hd:Nat.blt d Γ.n=true) (hlog:gc ops i [] [κ + i] lg=true) (hne:∃ ys,R ys)
  (hk:∀ ys,R ys→DT Γ ops κ rem ((i,[],[κ + i])::lg) Kf ((d,.row (κ + i))::L) ((κ + i,.row te es ys)::H)) :
  DT Γ ops κ ((i,⟨some d,.call { callee:=.value (.func f),args:=xs.toArray,argTypes:=ts },ty,pos,af,g⟩)::rem) lg Kf L H:=by
 have e1:xs.map (ofL L H).op++[]=args:=by rw [ja,List.append_nil,← iy,ha]
 have hok':ce (.call { callee:=.value (.func f),args:=xs.toArray,argTypes:=ts })=true:=by
  unfold ce
  simp only [Op.operands,Call.operands,Array.toList_append,List.all_append,Bool.and_eq_true]
  refine⟨rfl,?_⟩
  have:∀ (xs:List Operand),eb xs=true→xs.all c9=true:=by
   intro xs
   induction xs with
   | nil=>intro _;rfl
   | cons x xs ih=>intro h;simp only [eb,Bool.and_eq_true] at h;simp [h.1,ih h.2]
  exact this xs hok
 refine .cons true _ [] [κ + i] (.callW d f (.func f) [] xs ts te es R ((je ops L g).trans hw) rfl rfl rfl (e1▸hc) (e1▸hlow) hok' hd) hlog (by obtain⟨ys,h⟩:=hne;exact⟨_,_,ys,h,rfl,rfl⟩) (fun v u hv=>by obtain⟨ys,_,_,h⟩:=hv;rw [h];rfl) fun v u hv=>?_
 obtain⟨ys,hR,rfl,rfl⟩:=hv
 show DR Γ ops κ rem _ Kf ((ofL L H).app (κ + i) (some d) (.row (κ + i)) (.new (.row te es ys)))
 rw [← ofL_new]
 exact hk ys hR
theorem dt_callT [NoDr Γ] (j:Nat) {i:Nat} {f:FuncId} {xs:List Operand} {ts:Array TypeId} {ty:TypeId} {pos:String} {af:Array Edge} {g:Option (Nat × Bool)} {d:Nat} {args:List SV} {te0 te:TypeId} {es0 es:Nat} {ds:List (List D)} {R:List (List D)→Prop} {H':Hp} (hc:FnTr Γ.dr Γ.P Γ.τ Γ.τok f args te0 es0 ds te es R)
  (hw:bf ops L g=some true) (ha:opsL L xs=SV.renL (fun _=>j) args) (hH:Hp.get H j=some (.row te0 es0 ds)) (hok:eb xs=true) (hlow:SV.lowL 1 args=true) (hd:Nat.blt d Γ.n=true) (hlog:gc ops i [j] [j,κ + i] lg=true) (hne:∃ ys,R ys) (hD:delF H j some=some H') (hn:bm (H.map (·.1))=true)
  (hk:∀ ys,R ys→DT Γ ops κ rem ((i,[j],[j,κ + i])::lg) Kf ((d,.row (κ + i))::L) ((κ + i,.row te es ys)::H')) :
  DT Γ ops κ ((i,⟨some d,.call { callee:=.value (.func f),args:=xs.toArray,argTypes:=ts },ty,pos,af,g⟩)::rem) lg Kf L H:=by
 rw [mg] at hD
 cases hD
 have e1:xs.map (ofL L H).op=SV.renL (fun _=>j) args:=by rw [ja,← iy,ha]
 have hok':ce (.call { callee:=.value (.func f),args:=xs.toArray,argTypes:=ts })=true:=by
  unfold ce
  simp only [Op.operands,Call.operands,Array.toList_append,List.all_append,Bool.and_eq_true]
  refine⟨rfl,?_⟩
  have:∀ (xs:List Operand),eb xs=true→xs.all c9=true:=by
   intro xs
   induction xs with
   | nil=>intro _;rfl
   | cons x xs ih=>intro h;simp only [eb,Bool.and_eq_true] at h;simp [h.1,ih h.2]
  exact this xs hok
 refine .cons true _ [j] [j,κ + i] (.callT d f xs ts j args te0 te es0 es ds R ((je ops L g).trans hw) rfl rfl hc e1 hlow hH hok' hd NoDr.no) hlog (by obtain⟨ys,h⟩:=hne;exact⟨_,_,ys,h,rfl,rfl⟩) (fun v u hv=>by obtain⟨ys,_,_,h⟩:=hv;rw [h];rfl) fun v u hv=>?_
 obtain⟨ys,hR,rfl,rfl⟩:=hv
 show DR Γ ops κ rem _ Kf ((ofL L H).app (κ + i) (some d) (.row (κ + i)) (.trade j (.row te es ys)))
 rw [← ofL_trade _ _ _ _ _ _ _ (dq _ hn)]
 exact hk ys hR
theorem ik {i:Nat} {f:FuncId} {x:Operand} {caps:List SV} {xs:List Operand} {ts:Array TypeId} {ty:TypeId} {pos:String} {af:Array Edge} {g:Option (Nat × Bool)} {d:Nat} {args:List SV} {R:SV→Prop} (hx:a8 L x = .fn f caps) (hxo:c9 x=true) (hw:bf ops L g=some true)
  (ha:opsL L xs++caps=args) (hc:FnP Γ.dr Γ.P Γ.τ Γ.τok f args R) (hok:eb xs=true) (hlow:SV.lowL 0 args=true) (hd:Nat.blt d Γ.n=true) (hlog:gc ops i [] [] lg=true) (hne:∃ r,R r)
  (hk:∀ r,R r→DT Γ ops κ rem ((i,[],[])::lg) Kf ((d,r)::L) H) :
  DT Γ ops κ ((i,⟨some d,.call { callee:=.value x,args:=xs.toArray,argTypes:=ts },ty,pos,af,g⟩)::rem) lg Kf L H:=by
 have e1:xs.map (ofL L H).op++caps=args:=by rw [ja,← iy,ha]
 have hok':ce (.call { callee:=.value x,args:=xs.toArray,argTypes:=ts })=true:=by
  unfold ce
  simp only [Op.operands,Call.operands,Array.toList_append,List.all_append,Bool.and_eq_true]
  refine⟨by simp [hxo],?_⟩
  have:∀ (xs:List Operand),eb xs=true→xs.all c9=true:=by
   intro xs
   induction xs with
   | nil=>intro _;rfl
   | cons x xs ih=>intro h;simp only [eb,Bool.and_eq_true] at h;simp [h.1,ih h.2]
  exact this xs hok
 refine .cons true _ [] [] (.call d f x caps xs ts R ((je ops L g).trans hw) rfl rfl (by rw [ja];exact hx) (e1▸hc) (e1▸hlow) hok' hd) hlog (hne.imp fun r h=>⟨.no,h,rfl⟩) (fun v u hv=>by rw [hv.2];rfl) fun v u hv=>?_
 rw [hv.2]
 have:(ofL L H).app (κ + i) (some d) v .no=ofL ((d,v)::L) H:=(kf L H (some d) v)
 show DR Γ ops κ rem _ Kf ((ofL L H).app (κ + i) (some d) v .no)
 rw [this]
 exact hk v hv.1
theorem dt_callR {i:Nat} {f:FuncId} {xs:List Operand} {ts:Array TypeId} {ty:TypeId} {pos:String} {af:Array Edge} {g:Option (Nat × Bool)} {d:Nat} {args:List SV} {J:Nat} {Hc:Hp} {R:SV→Prop} (ρ:Nat→Nat)
  (hc:FnOk Γ.dr Γ.P Γ.τ Γ.τok f args J J Hc (fun _ r H2=>R r∧H2=Hc)) (hR:∀ r,R r→r.low 0=true∧r.rowsGe J=true) (hne:∃ r,R r) (hw:bf ops L g=some true) (ha:opsL L xs=SV.renL ρ args) (hok:eb xs=true) (hlA:SV.lowL J args=true) (hKH:KnowsH ρ H Hc) (hl:Hp.low J Hc=true)
  (hd:bm (Hc.map fun p=>ρ p.1)=true) (hd':bm (Hc.map (·.1))=true) (hall:allIn J (Hc.map (·.1))=true) (hbel:allBelow J Hc=true) (hrows:Hp.rowsGe J Hc=true) (hdn:Nat.blt d Γ.n=true) {rd:List Nat} (hrd:Hc.map (fun p=>ρ p.1)=rd) (hlog:gc ops i rd [] lg=true)
  (hk:∀ r,R r→DT Γ ops κ rem ((i,rd,[])::lg) Kf ((d,r)::L) H) :
  DT Γ ops κ ((i,⟨some d,.call { callee:=.value (.func f),args:=xs.toArray,argTypes:=ts },ty,pos,af,g⟩)::rem) lg Kf L H:=by
 subst hrd
 have e1:xs.map (ofL L H).op++[]=SV.renL ρ args:=by rw [ja,List.append_nil,← iy,ha]
 have hok':ce (.call { callee:=.value (.func f),args:=xs.toArray,argTypes:=ts })=true:=by
  unfold ce
  simp only [Op.operands,Call.operands,Array.toList_append,List.all_append,Bool.and_eq_true]
  refine⟨rfl,?_⟩
  have:∀ (xs:List Operand),eb xs=true→xs.all c9=true:=by
   intro xs
   induction xs with
   | nil=>intro _;rfl
   | cons x xs ih=>intro h;simp only [eb,Bool.and_eq_true] at h;simp [h.1,ih h.2]
  exact this xs hok
 refine .cons true _ _ [] (.callR d f (.func f) [] xs ts ρ args J Hc R ((je ops L g).trans hw) rfl rfl rfl hc e1 hlA ((knowsF_is ρ H Hc).2 hKH) hl hd hd' hall hbel hR hrows hok' hdn) hlog (hne.imp fun r h=>⟨.no,h,rfl⟩) (fun v u hv=>by rw [hv.2];rfl) fun v u hv=>?_
 rw [hv.2]
 have:(ofL L H).app (κ + i) (some d) v .no=ofL ((d,v)::L) H:=(kf L H (some d) v)
 show DR Γ ops κ rem _ Kf ((ofL L H).app (κ + i) (some d) v .no)
 rw [this]
 exact hk v hv.1
theorem ofL_bool {t:Nat} {b:Bool} (hb:L.get t = .d (.bool b)):ofL ((t,.d (.bool b))::L) H=ofL L H:=by
 unfold ofL
 congr 1
 funext t'
 rw [Sl.get_cons]
 split
 ·rename_i h;subst h;exact hb.symm
 ·rfl
theorem dt_split {t:Nat} {b:Bool} (hb:L.get t = .d (.bool b)) (ht:b=true→DT Γ ops κ rem lg Kf ((t,.d (.bool true))::L) H) (hf:b=false→DT Γ ops κ rem lg Kf ((t,.d (.bool false))::L) H):DT Γ ops κ rem lg Kf L H:=by
 unfold DT at *
 cases b with
 | true=>exact ofL_bool (H:=H) hb▸ht rfl
 | false=>exact ofL_bool (H:=H) hb▸hf rfl
theorem dt_known {i:Nat} {op:Op} {ty:TypeId} {pos:String} {af:Array Edge} {g:Option (Nat × Bool)} {dst:Option Nat} {b:Bool} (_:bf ops L g=some b) (h:DT Γ ops κ ((i,⟨dst,op,ty,pos,af,g⟩)::rem) lg Kf L H) :
  DT Γ ops κ ((i,⟨dst,op,ty,pos,af,g⟩)::rem) lg Kf L H:=h
theorem bk {op:Op} {ty:TypeId} {pos:String} {af:Array Edge} {g:Option (Nat × Bool)} {dst:Option Nat} {b:Bool} (_:bf ops L g=some b) (h:DS q Γ ops (⟨dst,op,ty,pos,af,g⟩::rest) K k L H) :
  DS q Γ ops (⟨dst,op,ty,pos,af,g⟩::rest) K k L H:=h
theorem k5 {i:Nat} {op:Op} {ty:TypeId} {pos:String} {af:Array Edge} {j:Nat} {want:Bool} {p:Prop} {_:Decidable p} {dst:Option Nat} {oj:Oper} {t:Nat} (_:nthOp ops j=some oj) (_:oj.dst=some t) (hb:L.get t = .d (.bool (decide p)))
  (ht:p→DT Γ ops κ ((i,⟨dst,op,ty,pos,af,some (j,want)⟩)::rem) lg Kf ((t,.d (.bool true))::L) H) (hf:¬ p→DT Γ ops κ ((i,⟨dst,op,ty,pos,af,some (j,want)⟩)::rem) lg Kf ((t,.d (.bool false))::L) H) :
  DT Γ ops κ ((i,⟨dst,op,ty,pos,af,some (j,want)⟩)::rem) lg Kf L H:=dt_split hb (fun h=>ht (of_decide_eq_true h)) (fun h=>hf (of_decide_eq_false h))
theorem jr {op:Op} {ty:TypeId} {pos:String} {af:Array Edge} {j:Nat} {want b:Bool} {dst:Option Nat} {oj:Oper} {t:Nat} (_:nthOp ops j=some oj) (_:oj.dst=some t) (hb:L.get t = .d (.bool b))
  (ht:b=true→DS q Γ ops (⟨dst,op,ty,pos,af,some (j,want)⟩::rest) K k ((t,.d (.bool true))::L) H) (hf:b=false→DS q Γ ops (⟨dst,op,ty,pos,af,some (j,want)⟩::rest) K k ((t,.d (.bool false))::L) H) :
  DS q Γ ops (⟨dst,op,ty,pos,af,some (j,want)⟩::rest) K k L H:=ds_split hb ht hf
theorem bl {op:Op} {ty:TypeId} {pos:String} {af:Array Edge} {j:Nat} {want:Bool} {p:Prop} {_:Decidable p} {dst:Option Nat} {oj:Oper} {t:Nat} (_:nthOp ops j=some oj) (_:oj.dst=some t) (hb:L.get t = .d (.bool (decide p)))
  (ht:p→DS q Γ ops (⟨dst,op,ty,pos,af,some (j,want)⟩::rest) K k ((t,.d (.bool true))::L) H) (hf:¬ p→DS q Γ ops (⟨dst,op,ty,pos,af,some (j,want)⟩::rest) K k ((t,.d (.bool false))::L) H) :
  DS q Γ ops (⟨dst,op,ty,pos,af,some (j,want)⟩::rest) K k L H:=ds_split hb (fun h=>ht (of_decide_eq_true h)) (fun h=>hf (of_decide_eq_false h))
end
section
variable {Γ : Ctx} {k κ : Nat} {L : Sl} {H : Hp} {K : cq} {ops : List Oper} {rest : List Oper} {q : Bool} {rem : List (Nat × Oper)} {lg : Log} {Kf : FS → Prop}
theorem z0 {d:Nat} {op:Op} {ty:TypeId} {pos:String} {af:Array Edge} {g:Option (Nat × Bool)} {p:Prop} {s s':SV} (hk:DS q Γ ops rest K k ((d,s')::L) H) (he:evC Γ.τ (a8 L) (Hp.get H) op=some (p,s):=by exact rfl) (hp:p:=by (first|(with_reducible exact trivial)|(with_reducible exact u8_range _)|(with_reducible exact sat_range _ _)|omega|(with_reducible assumption)|(with_reducible exact bytesOk_one)|(constructor <;> omega)|(simp only [List.length_map];omega)|(unfold maxLen at *;omega)|(simp <;> omega)|(unfold maxLen;simp <;> omega))) (hv:s=s':=by (first|(with_reducible exact hv_chr)|((with_reducible apply hv_prow);(first|exact dn _|exact e7 _|exact fa _|exact e8|exact nat_lit_1|exact rfl|exact (Int.toNat_of_nonneg (by omega)).symm))|((with_reducible apply hv_sltake);(first|exact dn _|exact e7 _|exact fa _|exact e8|exact nat_lit_1|exact rfl|exact (Int.toNat_of_nonneg (by omega)).symm))|((with_reducible apply hv_sldrop);(first|exact dn _|exact e7 _|exact fa _|exact e8|exact nat_lit_1|exact rfl|exact (Int.toNat_of_nonneg (by omega)).symm))|((with_reducible apply hv_ldrow);(apply hv_get;(first|(with_reducible exact trivial)|(with_reducible exact u8_range _)|(with_reducible exact sat_range _ _)|omega|(with_reducible assumption)|(with_reducible exact bytesOk_one)|(constructor <;> omega)|(simp only [List.length_map];omega)|(unfold maxLen at *;omega)|(simp <;> omega)|(unfold maxLen;simp <;> omega)));exact rfl)|((with_reducible apply hv_row);(first|exact dn _|exact e7 _|exact fa _|exact e8|exact nat_lit_1|exact rfl|exact (Int.toNat_of_nonneg (by omega)).symm);(first|omega|(rw [List.length_map];omega)))|((with_reducible apply hv_sat);(first|exact dn _|exact e7 _|exact fa _|exact e8|exact nat_lit_1|exact rfl|exact (Int.toNat_of_nonneg (by omega)).symm);omega)|((with_reducible apply hv_ext);(first|exact dn _|exact e7 _|exact fa _|exact e8|exact nat_lit_1|exact rfl|exact (Int.toNat_of_nonneg (by omega)).symm);(first|exact dn _|exact e7 _|exact fa _|exact e8|exact nat_lit_1|exact rfl|exact (Int.toNat_of_nonneg (by omega)).symm))|(with_reducible exact rfl))) (hok:ce op=true:=by exact rfl) (hw:bf ops L g=some true:=by exact rfl) (hd:Nat.blt d Γ.n=true:=by exact rfl):DS q Γ ops (⟨some d,op,ty,pos,af,g⟩::rest) K k L H:=ds_evC he hp hv hok hw hd hk
theorem z1 {d:Nat} {op:Op} {ty:TypeId} {pos:String} {af:Array Edge} {g:Option (Nat × Bool)} {p:Prop} {s:SV} {b:HB} (hk:DS false Γ ops rest K (k + 1) ((d,s)::L) ((k,b)::H)) (he:ks Γ.τ (a8 L) (Hp.get H) k op=some (p,s,.new b):=by exact rfl) (hp:p:=by (first|(with_reducible exact trivial)|(with_reducible exact u8_range _)|(with_reducible exact sat_range _ _)|omega|(with_reducible assumption)|(with_reducible exact bytesOk_one)|(constructor <;> omega)|(simp only [List.length_map];omega)|(unfold maxLen at *;omega)|(simp <;> omega)|(unfold maxLen;simp <;> omega))) (hok:ce op=true:=by exact rfl) (hw:bf ops L g=some true:=by exact rfl) (hd:Nat.blt d Γ.n=true:=by exact rfl):DS false Γ ops (⟨some d,op,ty,pos,af,g⟩::rest) K k L H:=ds_newC he hp hok hw hd hk
theorem z2 [NoDr Γ] {d j:Nat} {op:Op} {ty:TypeId} {pos:String} {af:Array Edge} {g:Option (Nat × Bool)} {p:Prop} {s:SV} {b:HB} {H':Hp} (hk:DS false Γ ops rest K (k + 1) ((d,s)::L) ((k,b)::H')) (he:ks Γ.τ (a8 L) (Hp.get H) k op=some (p,s,.trade j b):=by exact rfl) (hp:p:=by (first|(with_reducible exact trivial)|(with_reducible exact u8_range _)|(with_reducible exact sat_range _ _)|omega|(with_reducible assumption)|(with_reducible exact bytesOk_one)|(constructor <;> omega)|(simp only [List.length_map];omega)|(unfold maxLen at *;omega)|(simp <;> omega)|(unfold maxLen;simp <;> omega))) (hok:ce op=true:=by exact rfl) (hw:bf ops L g=some true:=by exact rfl) (hd:Nat.blt d Γ.n=true:=by exact rfl) (hH:delF H j some=some H':=by exact rfl):DS false Γ ops (⟨some d,op,ty,pos,af,g⟩::rest) K k L H:=ds_tradeC he hp hok hw hd hH hk
theorem z3 {te ty:TypeId} {x y:Operand} {pos:String} {af:Array Edge} {g:Option (Nat × Bool)} {s:SV} {j:Nat} {b:HB} {H':Hp} (hk:DS false Γ ops rest K k L H') (he:storeC Γ.τ te (a8 L x) (a8 L y) (Hp.get H)=some (True,s,.set j b):=by exact rfl) (hok:c9 y=true:=by exact rfl) (hw:bf ops L g=some true:=by exact rfl) (hH:setF H j b some=some H':=by exact rfl):DS false Γ ops (⟨none,.store te x y,ty,pos,af,g⟩::rest) K k L H:=ds_setC he hok hw hH hk
theorem z4 {d:Nat} {t len:Nat} {ty:TypeId} {pos:String} {af:Array Edge} {g:Option (Nat × Bool)} {ps:Array (Nat × Operand)} {p:Prop} {s:SV} (hk:DS false Γ ops rest K k ((d,s)::L) H) (he:dw Γ.τ (a8 L) t len ps.toList=some (p,s,.no):=by exact rfl) (hok:ce (.buildSlice t len ps)=true:=by exact rfl) (hw:bf ops L g=some true:=by exact rfl) (hd:Nat.blt d Γ.n=true:=by exact rfl):DS false Γ ops (⟨some d,.buildSlice t len ps,ty,pos,af,g⟩::rest) K k L H:=ds_bsC he hok hw hd hk
theorem z5 {i:Nat} {op:Op} {ty:TypeId} {pos:String} {af:Array Edge} {g:Option (Nat × Bool)} {d:Nat} {p:Prop} {v v':SV} (hk:DT Γ ops κ rem ((i,k9 (a8 L) op,[])::lg) Kf ((d,v')::L) H) (hw:bf ops L g=some true:=by exact rfl) (hs:ip Γ.τ (a8 L) (Hp.get H) (κ + i) (some d) op=some (p,v,.no):=by exact rfl) (hp:p:=by (first|(with_reducible exact trivial)|(with_reducible exact u8_range _)|(with_reducible exact sat_range _ _)|omega|(with_reducible assumption)|(with_reducible exact bytesOk_one)|(constructor <;> omega)|(simp only [List.length_map];omega)|(unfold maxLen at *;omega)|(simp <;> omega)|(unfold maxLen;simp <;> omega))) (hv:v=v':=by (first|(with_reducible exact hv_chr)|((with_reducible apply hv_prow);(first|exact dn _|exact e7 _|exact fa _|exact e8|exact nat_lit_1|exact rfl|exact (Int.toNat_of_nonneg (by omega)).symm))|((with_reducible apply hv_sltake);(first|exact dn _|exact e7 _|exact fa _|exact e8|exact nat_lit_1|exact rfl|exact (Int.toNat_of_nonneg (by omega)).symm))|((with_reducible apply hv_sldrop);(first|exact dn _|exact e7 _|exact fa _|exact e8|exact nat_lit_1|exact rfl|exact (Int.toNat_of_nonneg (by omega)).symm))|((with_reducible apply hv_ldrow);(apply hv_get;(first|(with_reducible exact trivial)|(with_reducible exact u8_range _)|(with_reducible exact sat_range _ _)|omega|(with_reducible assumption)|(with_reducible exact bytesOk_one)|(constructor <;> omega)|(simp only [List.length_map];omega)|(unfold maxLen at *;omega)|(simp <;> omega)|(unfold maxLen;simp <;> omega)));exact rfl)|((with_reducible apply hv_row);(first|exact dn _|exact e7 _|exact fa _|exact e8|exact nat_lit_1|exact rfl|exact (Int.toNat_of_nonneg (by omega)).symm);(first|omega|(rw [List.length_map];omega)))|((with_reducible apply hv_sat);(first|exact dn _|exact e7 _|exact fa _|exact e8|exact nat_lit_1|exact rfl|exact (Int.toNat_of_nonneg (by omega)).symm);omega)|((with_reducible apply hv_ext);(first|exact dn _|exact e7 _|exact fa _|exact e8|exact nat_lit_1|exact rfl|exact (Int.toNat_of_nonneg (by omega)).symm);(first|exact dn _|exact e7 _|exact fa _|exact e8|exact nat_lit_1|exact rfl|exact (Int.toNat_of_nonneg (by omega)).symm))|(with_reducible exact rfl))) (hok:ce op=true:=by exact rfl) (hd:Nat.blt d Γ.n=true:=by exact rfl) (hn:bm (H.map (·.1))=true:=by exact rfl) (hlog:gc ops i (k9 (a8 L) op) [] lg=true:=by exact rfl):DT Γ ops κ ((i,⟨some d,op,ty,pos,af,g⟩)::rem) lg Kf L H:=dc hw hs hp hv hok hd hn hlog hk
theorem z6 {i j:Nat} {op:Op} {ty:TypeId} {pos:String} {af:Array Edge} {g:Option (Nat × Bool)} {p:Prop} {v:SV} {b:HB} {H':Hp} (hk:DT Γ ops κ rem ((i,k9 (a8 L) op,[j])::lg) Kf L H') (hw:bf ops L g=some true:=by exact rfl) (hs:ip Γ.τ (a8 L) (Hp.get H) (κ + i) none op=some (p,v,.set j b):=by exact rfl) (hp:p:=by (first|(with_reducible exact trivial)|(with_reducible exact u8_range _)|(with_reducible exact sat_range _ _)|omega|(with_reducible assumption)|(with_reducible exact bytesOk_one)|(constructor <;> omega)|(simp only [List.length_map];omega)|(unfold maxLen at *;omega)|(simp <;> omega)|(unfold maxLen;simp <;> omega))) (hok:ce op=true:=by exact rfl) (hn:bm (H.map (·.1))=true:=by exact rfl) (hH:setF H j b some=some H':=by exact rfl) (hlog:gc ops i (k9 (a8 L) op) [j] lg=true:=by exact rfl):DT Γ ops κ ((i,⟨none,op,ty,pos,af,g⟩)::rem) lg Kf L H:=dt_set hw hs hp hok hn hH hlog hk
theorem z7 {i z:Nat} {op:Op} {ty:TypeId} {pos:String} {af:Array Edge} {g:Option (Nat × Bool)} {d:Nat} {p:Prop} {v v':SV} {b:HB} (hk:DT Γ ops κ rem ((i,k9 (a8 L) op,[z])::lg) Kf ((d,v')::L) ((z,b)::H)) (hw:bf ops L g=some true:=by exact rfl) (hz:κ + i=z:=by exact rfl) (hs:ip Γ.τ (a8 L) (Hp.get H) z (some d) op=some (p,v,.new b):=by exact rfl) (hp:p:=by (first|(with_reducible exact trivial)|(with_reducible exact u8_range _)|(with_reducible exact sat_range _ _)|omega|(with_reducible assumption)|(with_reducible exact bytesOk_one)|(constructor <;> omega)|(simp only [List.length_map];omega)|(unfold maxLen at *;omega)|(simp <;> omega)|(unfold maxLen;simp <;> omega))) (hv:v=v':=by exact rfl) (hok:ce op=true:=by exact rfl) (hd:Nat.blt d Γ.n=true:=by exact rfl) (hn:bm (H.map (·.1))=true:=by exact rfl) (hlog:gc ops i (k9 (a8 L) op) [z] lg=true:=by exact rfl):DT Γ ops κ ((i,⟨some d,op,ty,pos,af,g⟩)::rem) lg Kf L H:=dt_new hw hz hs hp hv hok hd hn hlog hk
theorem z8 {i j:Nat} {op:Op} {ty:TypeId} {pos:String} {af:Array Edge} {g:Option (Nat × Bool)} {d:Nat} {p:Prop} {v v':SV} {H':Hp} (hk:DT Γ ops κ rem ((i,k9 (a8 L) op,[j])::lg) Kf ((d,v')::L) H') (hw:bf ops L g=some true:=by exact rfl) (hs:ip Γ.τ (a8 L) (Hp.get H) (κ + i) (some d) op=some (p,v,.del j):=by exact rfl) (hp:p:=by (first|(with_reducible exact trivial)|(with_reducible exact u8_range _)|(with_reducible exact sat_range _ _)|omega|(with_reducible assumption)|(with_reducible exact bytesOk_one)|(constructor <;> omega)|(simp only [List.length_map];omega)|(unfold maxLen at *;omega)|(simp <;> omega)|(unfold maxLen;simp <;> omega))) (hv:v=v':=by exact rfl) (hok:ce op=true:=by exact rfl) (hd:Nat.blt d Γ.n=true:=by exact rfl) (hn:bm (H.map (·.1))=true:=by exact rfl) (hlog:gc ops i (k9 (a8 L) op) [j] lg=true:=by exact rfl) (hH:delF H j some=some H':=by exact rfl):DT Γ ops κ ((i,⟨some d,op,ty,pos,af,g⟩)::rem) lg Kf L H:=dt_del hw hs hp hv hok hd hn hlog hH hk
theorem z9 [NoDr Γ] {i j z:Nat} {op:Op} {ty:TypeId} {pos:String} {af:Array Edge} {g:Option (Nat × Bool)} {d:Nat} {p:Prop} {v v':SV} {b:HB} {H':Hp} (hk:DT Γ ops κ rem ((i,k9 (a8 L) op,[j,z])::lg) Kf ((d,v')::L) ((z,b)::H')) (hw:bf ops L g=some true:=by exact rfl) (hz:κ + i=z:=by exact rfl) (hs:ip Γ.τ (a8 L) (Hp.get H) z (some d) op=some (p,v,.trade j b):=by exact rfl) (hp:p:=by (first|(with_reducible exact trivial)|(with_reducible exact u8_range _)|(with_reducible exact sat_range _ _)|omega|(with_reducible assumption)|(with_reducible exact bytesOk_one)|(constructor <;> omega)|(simp only [List.length_map];omega)|(unfold maxLen at *;omega)|(simp <;> omega)|(unfold maxLen;simp <;> omega))) (hv:v=v':=by exact rfl) (hok:ce op=true:=by exact rfl) (hd:Nat.blt d Γ.n=true:=by exact rfl) (hn:bm (H.map (·.1))=true:=by exact rfl) (hlog:gc ops i (k9 (a8 L) op) [j,z] lg=true:=by exact rfl) (hH:delF H j some=some H':=by exact rfl):DT Γ ops κ ((i,⟨some d,op,ty,pos,af,g⟩)::rem) lg Kf L H:=dt_trade hw hz hs hp hv hok hd hn hlog hH hk
theorem z10 {m:Nat} {Q:cq} (h:Q κ L H) (hn:bm (H.map (·.1))=true:=by exact rfl) (hj:Nat.ble Γ.J κ=true:=by exact rfl) (hL:Sl.low κ L=true:=by exact rfl) (hH:Hp.low κ H=true:=by exact rfl):DT Γ ops κ [] lg (endK Γ m Q) L H:=dt_nil0 hn hj hL hH h
theorem z11 {m:Nat} {Q:cq} (h:Q m L H) (hn:bm (H.map (·.1))=true:=by exact rfl):DT Γ ops κ [] lg (endK Γ m Q) L H:=dt_nil hn h
theorem z12 {op:Op} {ty:TypeId} {pos:String} {af:Array Edge} {g:Option (Nat × Bool)} {d:Nat} (h:DS q Γ ops rest K k ((d,.tup [])::L) H) (hw:bf ops L g=some false:=by exact rfl) (hd:Nat.blt d Γ.n=true:=by exact rfl):DS q Γ ops (⟨some d,op,ty,pos,af,g⟩::rest) K k L H:=ds_skip hw hd h
theorem z14 {i:Nat} {op:Op} {ty:TypeId} {pos:String} {af:Array Edge} {g:Option (Nat × Bool)} {d:Nat} (hk:DT Γ ops κ rem ((i,[],[])::lg) Kf ((d,.tup [])::L) H) (hw:bf ops L g=some false:=by exact rfl) (hd:Nat.blt d Γ.n=true:=by exact rfl) (hlog:gc ops i [] [] lg=true:=by exact rfl):DT Γ ops κ ((i,⟨some d,op,ty,pos,af,g⟩)::rem) lg Kf L H:=dt_skipD hw hd hlog hk
theorem z16 {id:Nat} {l:List Oper} {Q:f9} (h:DS false Γ l l (Q .normal) k L H) (hn:dt l=true:=by exact rfl):DW Γ (.region id l.toArray false) Q k L H:=ds_region hn h
theorem z17 {id i:Nat} {Q:f9} (h:Q .normal k L H) (hb:Nat.beq i id=true:=by exact rfl):b9 id Q (.exit i) k L H:=inB_e hb h
theorem z18 {Γ:Ctx} {k:Nat} {L:Sl} {H:Hp} {Q:f9} {c:Operand} {x y:Code} (h:DW Γ x Q k L H) (hc:a8 L c = .d (.bool true):=by exact rfl):DW Γ (.cond c x y) Q k L H:=dw_condT hc h
theorem z19 {Γ:Ctx} {k:Nat} {L:Sl} {H:Hp} {Q:f9} {c:Operand} {x y:Code} (h:DW Γ y Q k L H) (hc:a8 L c = .d (.bool false):=by exact rfl):DW Γ (.cond c x y) Q k L H:=dw_condF hc h
theorem z20 {id m:Nat} {l:List Oper} {Q:f9} (h:DT Γ l k (d6 0 l) [] (endK Γ m (Q .normal)) L H) (hm:Γ.P.follows .mixedOrders=true:=by kernel_rfl) (hB:regAnyB l=true:=by kernel_rfl) (hnd:dt l=true:=by exact rfl) (hl:lenIs l k m:=by exact rfl):DW Γ (.region id l.toArray true) Q k L H:=dw_any hm hB hnd hl h
theorem z21 {f:FuncId} {xs:List Operand} {ts:Array TypeId} {ty:TypeId} {pos:String} {af:Array Edge} {g:Option (Nat × Bool)} {d:Nat} {args:List SV} {r0:SV} (hk:DS false Γ ops rest K k ((d,r0)::L) H) (hw:bf ops L g=some true:=by exact rfl) (ha:opsL L xs=args:=by exact rfl) (hc:FnP Γ.dr Γ.P Γ.τ Γ.τok f args (fun r=>r=r0)) (hok:eb xs=true:=by exact rfl) (hlow:SV.lowL 0 args=true:=by (first|exact rfl|assumption)) (hd:Nat.blt d Γ.n=true:=by exact rfl):DS false Γ ops (⟨some d,.call { callee:=.value (.func f),args:=xs.toArray,argTypes:=ts },ty,pos,af,g⟩::rest) K k L H:=ds_call hw ha hc hok hlow hd (by rintro _ rfl;exact hk)
theorem z22 {i:Nat} {f:FuncId} {xs:List Operand} {ts:Array TypeId} {ty:TypeId} {pos:String} {af:Array Edge} {g:Option (Nat × Bool)} {d:Nat} {args:List SV} {r0:SV} (hk:DT Γ ops κ rem ((i,[],[])::lg) Kf ((d,r0)::L) H) (hw:bf ops L g=some true:=by exact rfl) (ha:opsL L xs=args:=by exact rfl) (hc:FnP Γ.dr Γ.P Γ.τ Γ.τok f args (fun r=>r=r0)) (hok:eb xs=true:=by exact rfl) (hlow:SV.lowL 0 args=true:=by (first|exact rfl|assumption)) (hd:Nat.blt d Γ.n=true:=by exact rfl) (hlog:gc ops i [] [] lg=true:=by exact rfl):DT Γ ops κ ((i,⟨some d,.call { callee:=.value (.func f),args:=xs.toArray,argTypes:=ts },ty,pos,af,g⟩)::rem) lg Kf L H:=dt_call hw ha hc hok hlow hd hlog ⟨_,rfl⟩ (by rintro _ rfl;exact hk)
theorem z23 {Γ:Ctx} {k:Nat} {L:Sl} {H:Hp} {Q:f9} {c:Operand} {x y:Code} {p:Prop} {_:Decidable p} (ht:p→DW Γ x Q k L H) (hf:¬ p→DW Γ y Q k L H) (hc:a8 L c = .d (.bool (decide p)):=by exact rfl):DW Γ (.cond c x y) Q k L H:=cd hc ht hf
end
def iu (c:UInt8):Bool:=decide ((97:Int)≤c.toNat) && decide ((c.toNat:Int)≤122)
def ji (c:UInt8):Bool:=decide ((65:Int)≤c.toNat) && decide ((c.toNat:Int)≤90)
def ek (c:UInt8):Bool:=decide ((48:Int)≤c.toNat) && decide ((c.toNat:Int)≤57)
def f8 (c:UInt8):Bool:=iu c || ji c
def ko (c:UInt8):Bool:=f8 c || ek c
def fv (p:UInt8→Bool):List UInt8→Nat
 | []=>0
 | c::l=>if p c then fv p l + 1 else 0
theorem takeW_le (p:UInt8→Bool):∀ l,fv p l≤l.length
 | []=>Nat.le_refl _
 | c::l=>by
  unfold fv
  have:=takeW_le p l
  split <;> simp <;> omega
theorem takeW_step (p:UInt8→Bool) (l:List UInt8) (i:Nat) (h:i < l.length) (hp:p l[i]=true):fv p (l.drop i)=fv p (l.drop (i + 1)) + 1:=by
 rw [List.drop_eq_getElem_cons h,fv,if_pos hp]
theorem takeW_stop (p:UInt8→Bool) (l:List UInt8) (i:Nat) (h:i < l.length) (hp:p l[i]=false):fv p (l.drop i)=0:=by
 rw [List.drop_eq_getElem_cons h,fv,if_neg (by rw [hp];exact Bool.false_ne_true)]
theorem takeW_end (p:UInt8→Bool) (l:List UInt8) (i:Nat) (h:l.length≤i):fv p (l.drop i)=0:=by
 rw [List.drop_of_length_le h];rfl
def signs:List UInt8:=[40,41,44,46,60,61,43,45,42]
def pairB:List UInt8→Bool
 | a::b::_=>(a == 58 && b == 45) || (a == 60 && b == 61) || (a == 33 && b == 61)
 | _=>false
def c8:List UInt8→Int × Nat
 | []=>(0,0)
 | c::l=>if f8 c then (if iu c then 1 else 2,1 + fv ko l)
  else if ek c then (3,1 + fv ek l)
  else if pairB (c::l) then (4,2)
  else if signs.contains c then (4,1)
  else (0,0)
structure Tok where
 kind:Int
 at_:Int
 text:ByteArray
def sameAll {α:Type} (p:α→α→Bool):List α→List α→Bool
 | [],[]=>true
 | x::xs,y::ys=>p x y && sameAll p xs ys
 | _,_=>false
def Tok.same (at_:Bool) (x y:Tok):Bool:=decide (x.kind=y.kind) && decide (x.text=y.text) && (!at_ || decide (x.at_=y.at_))
theorem iq (c:UInt8) (l:List UInt8):c8 (c::l)=(if f8 c then (if iu c then 1 else 2,1 + fv ko l)
  else if ek c then (3,1 + fv ek l)
  else if pairB (c::l) then (4,2)
  else if signs.contains c then (4,1)
  else (0,0)):=rfl
theorem tokAt_le (l:List UInt8):(c8 l).2≤l.length:=by
 cases l with
 | nil=>simp [c8]
 | cons c l =>
  have h1:=takeW_le ko l
  have h2:=takeW_le ek l
  rw [iq]
  by_cases a:f8 c=true
  ·rw [if_pos a];simp only [List.length_cons];omega
  ·rw [if_neg a]
   by_cases b:ek c=true
   ·rw [if_pos b];simp only [List.length_cons];omega
   ·rw [if_neg b]
    by_cases d:pairB (c::l)=true
    ·rw [if_pos d]
     cases l with
     | nil=>simp [pairB] at d
     | cons b l=>simp
    ·rw [if_neg d]
     by_cases e:signs.contains c=true
     ·rw [if_pos e];simp
     ·rw [if_neg e];simp
theorem tokAt_pos (l:List UInt8) (h:(c8 l).1≠0):1≤(c8 l).2:=by
 cases l with
 | nil=>simp [c8] at h
 | cons c l =>
  rw [iq] at h ⊢
  by_cases a:f8 c=true
  ·rw [if_pos a];simp
  ·rw [if_neg a] at h ⊢
   by_cases b:ek c=true
   ·rw [if_pos b];simp
   ·rw [if_neg b] at h ⊢
    by_cases d:pairB (c::l)=true
    ·rw [if_pos d];simp
    ·rw [if_neg d] at h ⊢
     by_cases e:signs.contains c=true
     ·rw [if_pos e];simp
     ·rw [if_neg e] at h;simp at h
def er (kind:Int) (n:Nat) (c:UInt8):Int :=
 if kind=0 then 1
 else if ((kind=1∨kind=2)∧12 < n)∨(kind=3∧7 < n) then 2
 else if kind=3∧1 < n∧c=48 then 1
 else 0
def gh (s:ByteArray):Nat→Bool→Nat→Except (Int × Int) (List Tok)
 | 0,_,_=>.ok []
 | f + 1,note,i =>
  if h:i < s.size then
   if note || s[i] == 37 then gh s f (s[i] != 10) (i + 1)
   else if s[i] == 32 || s[i] == 9 || s[i] == 10 then gh s f false (i + 1)
   else
    let q:=c8 (s.data.toList.drop i)
    if er q.1 q.2 s[i]=0 then (gh s f false (i + q.2)).map (Tok.mk q.1 i (s.extract i (i + q.2))::·)
    else .error (i,er q.1 q.2 s[i])
  else .ok []
theorem scanGo_fuel (s:ByteArray):∀ (f g:Nat) (note:Bool) (i:Nat),s.size - i≤f→s.size - i≤g→gh s f note i=gh s g note i:=by
 intro f
 induction f with
 | zero =>
  intro g note i h1 h2
  cases g with
  | zero=>rfl
  | succ g=>simp only [gh];rw [dif_neg (by omega)]
 | succ f ih =>
  intro g note i h1 h2
  cases g with
  | zero=>simp only [gh];rw [dif_neg (by omega)]
  | succ g =>
   simp only [gh]
   by_cases h:i < s.size
   ·rw [dif_pos h,dif_pos h]
    split
    ·exact ih g _ _ (by omega) (by omega)
    ·split
     ·exact ih g _ _ (by omega) (by omega)
     ·split
      ·rename_i he
       have hk:(c8 (s.data.toList.drop i)).1≠0:=fun h0=>by simp [er,h0] at he
       have:=tokAt_pos _ hk
       rw [ih g _ _ (by omega) (by omega)]
      ·rfl
   ·rw [dif_neg h,dif_neg h]
def ct (s:ByteArray) (note:Bool) (i:Nat):Except (Int × Int) (List Tok):=gh s (s.size - i) note i
theorem scanAt_end (s:ByteArray) (note:Bool) (i:Nat) (h:s.size≤i):ct s note i = .ok []:=by
 unfold ct
 rw [show s.size - i=0 by omega];rfl
theorem scanAt_note (s:ByteArray) (note:Bool) (i:Nat) (h:i < s.size) (hn:(note || s[i] == 37)=true):ct s note i=ct s (s[i] != 10) (i + 1):=by
 unfold ct
 rw [show s.size - i=(s.size - (i + 1)) + 1 by omega,gh,dif_pos h,if_pos hn]
theorem scanAt_blank (s:ByteArray) (i:Nat) (h:i < s.size) (hn:(s[i] == 37)=false) (hb:(s[i] == 32 || s[i] == 9 || s[i] == 10)=true):ct s false i=ct s false (i + 1):=by
 unfold ct
 rw [show s.size - i=(s.size - (i + 1)) + 1 by omega,gh,dif_pos h,if_neg (by simp [hn]),if_pos hb]
theorem scanAt_err (s:ByteArray) (i:Nat) (h:i < s.size) (hn:(s[i] == 37)=false) (hb:(s[i] == 32 || s[i] == 9 || s[i] == 10)=false) (he:er (c8 (s.data.toList.drop i)).1 (c8 (s.data.toList.drop i)).2 s[i]≠0) :
  ct s false i = .error (i,er (c8 (s.data.toList.drop i)).1 (c8 (s.data.toList.drop i)).2 s[i]):=by
 unfold ct
 rw [show s.size - i=(s.size - (i + 1)) + 1 by omega,gh,dif_pos h,if_neg (by simp [hn]),if_neg (by simp [hb])]
 exact if_neg he
theorem scanAt_tok (s:ByteArray) (i:Nat) (h:i < s.size) (hn:(s[i] == 37)=false) (hb:(s[i] == 32 || s[i] == 9 || s[i] == 10)=false) (he:er (c8 (s.data.toList.drop i)).1 (c8 (s.data.toList.drop i)).2 s[i]=0) :
  ct s false i=(ct s false (i + (c8 (s.data.toList.drop i)).2)).map (Tok.mk (c8 (s.data.toList.drop i)).1 i (s.extract i (i + (c8 (s.data.toList.drop i)).2))::·):=by
 have hk:(c8 (s.data.toList.drop i)).1≠0:=fun h0=>by simp [er,h0] at he
 have:=tokAt_pos _ hk
 unfold ct
 rw [scanGo_fuel s (s.size - i) ((s.size - (i + 1)) + 1) false i (Nat.le_refl _) (by omega)]
 rw [gh,dif_pos h,if_neg (by simp [hn]),if_neg (by simp [hb])]
 show (if _ then _ else _)=_
 rw [if_pos he,scanGo_fuel s (s.size - (i + 1)) (s.size - (i + (c8 (s.data.toList.drop i)).2)) false _ (by omega) (Nat.le_refl _)]
def scanS (s:ByteArray):List Tok × Int × Int :=
 if 5000 < s.size then ([],0,2) else match ct s false 0 with
  | .ok l=>(l,0,0)
  | .error (p,e)=>([],p,e)
attribute [irreducible] iu ji ek f8 ko pairB fv c8 er gh ct scanS sameAll Tok.same
def encTok (t:Tok):List D:=[.int .i64 t.kind,.int .i64 t.at_,.str t.text]
def encToks (l:List Tok):D:=.slice 3 (l.map encTok)
abbrev FnD (dr:Bool) (f:FuncId) (args:List SV) (R:SV→Prop):Prop:=FnP dr Tryz.prog tab cn f args R
abbrev Fn (f:FuncId) (args:List SV) (R:SV→Prop):Prop:=FnP false Tryz.prog tab cn f args R
theorem byteAt (s:ByteArray) (i:Nat) (h:i < s.size):s.data.toList[i]'(by simpa using h)=s[i]'h:=by simp [ByteArray.getElem_eq_getElem_data]
end Go.Proofs.YtapciiffpnociaaGreat
namespace Go.Proofs.YtapciiffpnociaaGreat
open Go Go.RowKit
def KeptR (J:Nat) (R:Nat→SV→Hp→Prop) (_:Nat) (r:SV) (H:Hp):Prop :=
 ∃ (ρ:Nat→Nat) (k2:Nat) (r2:SV) (H2:Hp),r=r2.ren ρ∧KnowsH ρ H H2∧Hp.low k2 H2=true∧bm (H2.map fun p=>ρ p.1)=true∧bm (H2.map (·.1))=true∧Nat.ble J k2=true∧anchorOk ρ J=true∧r2.low k2=true∧R k2 r2 H2
theorem co {dr:Bool} {P:Program} {τ:List (Nat × TI)} {τok:d7 P τ} {f:FuncId} {fn:Func} {c:Code} {args:List SV} {J k:Nat} {H:Hp} {R:Nat→SV→Hp→Prop} (N:Nat) (hf:P.funcs[f]? = some fn) (hb:fn.body=some c)
  (hN:args.length + (fn.ntmps - args.length)=N) (hcall:io P f=true)
  (h:∀ (O:Nat→Prop) (w0:World) (E0:Nat→Prop) (β0:Nat→Nat × Value),DW ⟨P,τ,τok,O,w0,E0,N,J,β0,none,dm,true,dr⟩ c (RetQ τ fn.results.toList (KeptR J R)) k (enumSl 0 args) H):FnOk dr P τ τok f args J k H R:=by
 have h2:=mb (J:=J) (k:=k) (H:=H) N hf hb hN hcall (R:=KeptR J R) h
 refine⟨h2.1,fun O e w vs hH hr=>(h2.2 O e w vs hH hr).mono ?_⟩
 rintro en w' ⟨k',r,H',e',v,⟨ρ,k2,r2,H2,rfl,hK,hl,hd,hd',hj,ha,hrl,hR⟩,rfl,hH',hrel⟩
 obtain⟨g1,g2⟩:=hH'.ren ρ k2 H2 hK hl hd hd' hj ha
 exact⟨k2,r2,H2,e'.ren ρ k2,v,hR,rfl,g1,Rel.keep (Nat.le_refl _) (fun _ _ _=>rfl) (fun b _ hy=>g2 b hy) _ _ (Rel.ren ρ k2 r2 v hrl hrel)⟩
theorem set_same {α:Type} {l:List α} {i:Nat} {v:α} (h:l[i]? = some v):l.set i v=l:=by
 apply List.ext_getElem?
 intro j
 rw [List.getElem?_set]
 split
 ·rename_i hij
  subst hij
  obtain⟨h1,h2⟩:=List.getElem?_eq_some_iff.1 h
  rw [if_pos h1,h]
 ·rfl
section
variable {Γ : Ctx} {k : Nat} {L : Sl} {H H' : Hp} {Q : f9} {c : Code}
theorem k0 (i o:Nat) (te:TypeId) (es:Nat) {tb:TypeId} {cs:List SV} (hH:Hp.get H i=some (.blk tb cs)) (hc:cs[o]? = some .nils) (hS:setF ((k,.row te es [])::H) i (.blk tb (cs.set o (.row k))) some=some H'):Ent Γ k L H (k + 1) L H':=by
 rw [ke] at hS
 cases hS
 intro e a w m
 have hη:(e.bindRow k (.slice none 0 0)).η k = .slice none 0 0:=if_pos rfl
 have m2:=(m.new (f5 k) (hb:=.row te es []) (e':=e.bindRow k (.slice none 0 0)) (w':=w) (fun i=>or_congr (m.top i) Iff.rfl) (e.bindRow_ext _ _ (fun h=>f5 k ((m.top k).1 h))) (Beld.refl _ _ _)
  (fun b hb=>by simp [HB.owned,hη,Value.ownBlock] at hb) (fun _=>⟨[],by rw [hη];exact World.ownsRow_nil w 0 te es,by simp,by simp,by simp⟩)).cast (fe k)
 have hik:i < k:=(m.top i).1 (m.heap _ (Hp.mem_of hH)).1
 have hH2:Hp.get ((k,.row te es [])::H) i=some (.blk tb cs):=by
  rw [Hp.get_cons,if_neg (by omega)];exact hH
 refine⟨_,m2.turn hH2 (Nat.le_refl _) rfl rfl rfl (fun _=>Nat.le_refl _) (fun _ _ _=>rfl) rfl ?_⟩
 obtain⟨vs,h1,h2,h3⟩:=(m2.heap _ (Hp.mem_of hH2)).2
 refine⟨vs,h1,?_,h3⟩
 obtain⟨v,g1,g2⟩:=RelL.get cs vs h2 o .nils hc
 have g2:v = .slice none 0 0:=g2
 have:=RelL.set cs vs h2 o (.row k) v ⟨(m2.top k).2 (Nat.lt_succ_self k),by rw [hη,g2],by rw [g2];rfl⟩
 rwa [set_same g1] at this
theorem ent_cellseal (i o j:Nat) {es:Nat} {te tb:TypeId} {cs:List SV} {xs:List (List D)} {H1:Hp} (hj:Hp.get H j=some (.row te es xs)) (hD:delF H j some=some H1) (hH:Hp.get H1 i=some (.blk tb cs)) (hc:cs[o]? = some (.row j))
  (hS:setF H1 i (.blk tb (cs.set o (.d (.slice es xs)))) some=some H'):Ent Γ k L H k L H':=by
 rw [mg] at hD
 cases hD
 rw [ke] at hS
 cases hS
 intro e a w m
 obtain⟨m2,_⟩:=m.del j
 have hrow:=row_data m hj
 refine⟨_,m2.turn hH (Nat.le_refl _) rfl rfl rfl (fun _=>Nat.le_refl _) (fun _ _ _=>rfl) rfl ?_⟩
 obtain⟨vs,h1,h2,h3⟩:=(m2.heap _ (Hp.mem_of hH)).2
 refine⟨vs,h1,?_,h3⟩
 obtain⟨v,g1,g2⟩:=RelL.get cs vs h2 o (.row j) hc
 have:=RelL.set cs vs h2 o (.d (.slice es xs)) v (by rw [g2.2.1];exact hrow)
 rwa [set_same g1] at this
theorem dw_lenC (i o:Nat) {tb:TypeId} {cs:List SV} {es:Nat} {xs:List (List D)} (hH:Hp.get H i=some (.blk tb cs)) (hc:cs[o]? = some (.d (.slice es xs))) (hk:xs.length≤9223372036854775807→DW Γ c Q k L H):DW Γ c Q k L H:=by
 intro e a w m
 obtain⟨v,_,g2⟩:=HRel.blk_cell (m.heap _ (Hp.mem_of hH)).2 hc
 obtain⟨ao,cap,_,h1,h2,_⟩:=g2.slice_inv
 exact hk (by unfold maxLen at h2;omega) e a w m
theorem bp (i o es:Nat) {tb:TypeId} {cs:List SV} (hH:Hp.get H i=some (.blk tb cs)) (hc:cs[o]? = some .nils) (hS:setF H i (.blk tb (cs.set o (.d (.slice es [])))) some=some H'):Ent Γ k L H k L H':=by
 rw [ke] at hS
 cases hS
 intro e a w m
 refine⟨_,m.turn hH (Nat.le_refl _) rfl rfl rfl (fun _=>Nat.le_refl _) (fun _ _ _=>rfl) rfl ?_⟩
 obtain⟨vs,h1,h2,h3⟩:=(m.heap _ (Hp.mem_of hH)).2
 refine⟨vs,h1,?_,h3⟩
 obtain⟨v,g1,g2⟩:=RelL.get cs vs h2 o .nils hc
 have g2:v = .slice none 0 0:=g2
 have:=RelL.set cs vs h2 o (.d (.slice es [])) v (by rw [g2];exact .nil)
 rwa [set_same g1] at this
theorem ea {t:Nat} (te:TypeId) (es:Nat) (h:L.get t = .nils):Ent Γ k L H (k + 1) ((t,.row k)::L) ((k,.row te es [])::H):=by
 intro e a w m
 have hη:(e.bindRow k (.slice none 0 0)).η k = .slice none 0 0:=if_pos rfl
 have m2:=(m.new (f5 k) (hb:=.row te es []) (e':=e.bindRow k (.slice none 0 0)) (w':=w) (fun i=>or_congr (m.top i) Iff.rfl) (e.bindRow_ext _ _ (fun h=>f5 k ((m.top k).1 h))) (Beld.refl _ _ _)
  (fun b hb=>by simp [HB.owned,hη,Value.ownBlock] at hb) (fun _=>⟨[],by rw [hη];exact World.ownsRow_nil w 0 te es,by simp,by simp,by simp⟩)).cast (fe k)
 refine⟨_,⟨m2.toHeap,m2.defers,m2.len,fun t'=>?_⟩⟩
 rw [Sl.get_cons]
 split
 ·rename_i ht
  subst ht
  have hs:=m.slot t
  rw [h] at hs
  refine⟨.inr rfl,?_⟩
  have hs:a.tmps.getD t undef = .slice none 0 0:=hs
  exact⟨hs.trans hη.symm,by rw [hs];rfl⟩
 ·exact m2.slot t'
theorem dp {i es:Nat} {te:TypeId} {xs:List (List D)} (t:Nat) (hL:L.get t = .row i) (hH:Hp.get H i=some (.row te es xs)) (hD:delF H i some=some H'):Ent Γ k L H k ((t,.d (.slice es xs))::L) H':=by
 rw [mg] at hD
 cases hD
 intro e a w m
 obtain⟨m2,_⟩:=m.del i
 refine⟨e,⟨m2.toHeap,m2.defers,m2.len,fun t'=>?_⟩⟩
 rw [Sl.get_cons]
 split
 ·rename_i ht
  subst ht
  have hs:=m.slot t
  rw [hL] at hs
  rw [hs.2.1]
  exact row_data m hH
 ·exact m2.slot t'
theorem cr (t es:Nat) (hL:L.get t = .nils):Ent Γ k L H k ((t,.d (.slice es []))::L) H:=by
 intro e a w m
 refine⟨e,⟨m.toHeap,m.defers,m.len,fun t'=>?_⟩⟩
 rw [Sl.get_cons]
 split
 ·rename_i ht
  subst ht
  have hs:=m.slot t
  rw [hL] at hs
  rw [hs]
  exact .nil
 ·exact m.slot t'
end
end Go.Proofs.YtapciiffpnociaaGreat
