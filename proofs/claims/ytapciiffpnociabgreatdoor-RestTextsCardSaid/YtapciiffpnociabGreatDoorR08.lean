/- Several texts in one: GxDo TokP TokE TokR TokT. Condition: none. -/
import Derived.Test.YtapciiffpnociabGreatDoorR07
import Derived.Test.YtapciiffpnociabGreatDoorR01
namespace Go.Proofs.YtapciiffpnociabGreatDoor
open Go Go.RowKit
theorem u8_range (c:UInt8):0≤(c.toNat:Int)∧(c.toNat:Int)≤255:=by have:=c.toNat_lt;omega
theorem hv_chr {c:UInt8}:SV.d (.str ⟨#[UInt8.ofNat (c.toNat:Int).toNat]⟩) = .d (.str ⟨#[c]⟩):=by simp
theorem hv_row {α:Type} {l:List α} {f:α→List D} {n:Int} {j:Nat} (hn:n=(j:Int)) (h:j < (l.map f).length):SV.pd (rowAt (l.map f) n.toNat) = .pd (f (l[j]'(by simpa using h))):=by
 have h':j < l.length:=by simpa using h
 subst hn;simp [rowAt,List.getD,h']
theorem hv_sat {s:ByteArray} {n:Int} {j:Nat} (hn:n=(j:Int)) (h:j < s.size):SV.d (.int .u8 (sat s n.toNat)) = .d (.int .u8 ((s[j]'h).toNat:Int)):=by
 subst hn;simp [sat_eq h]
theorem bytesOk_one {n:Int}:BytesOk [[D.int .u8 n]]:=by
 intro x hx
 rw [List.mem_singleton] at hx
 exact⟨n,hx⟩
theorem hv_ext {s:ByteArray} {n m:Int} {i j:Nat} (hn:n=(i:Int)) (hm:m=(j:Int)):SV.d (.str (s.extract n.toNat m.toNat)) = .d (.str (s.extract i j)):=by
 subst hn;subst hm;rfl
mutual
theorem SV.ren_id:∀ (s:SV),s.ren id=s
 | .junk=>rfl
 | .d _=>rfl
 | .nils=>rfl
 | .pd _=>rfl
 | .loc _ _=>rfl
 | .row _=>rfl
 | .mp _=>rfl
 | .md _ _=>rfl
 | .prow _ _ _ _=>rfl
 | .sl _ _ _ _=>rfl
 | .rsl _ _ _ _=>rfl
 | .rg _ _ _=>rfl
 | .fn f caps=>by simp only [SV.ren,SV.renL_id caps]
 | .agg ss=>by simp only [SV.ren,SV.renL_id ss]
 | .tup ss=>by simp only [SV.ren,SV.renL_id ss]
 | .val _=>rfl
theorem SV.renL_id:∀ (ss:List SV),SV.renL id ss=ss
 | []=>rfl
 | s::ss=>by simp only [SV.renL,SV.ren_id s,SV.renL_id ss]
end
def Kept (J:Nat) (R:Nat→SV→Hp→Prop) (_:Nat) (r:SV) (H:Hp):Prop :=
 ∃ k2 H2,KnowsH id H H2∧Hp.low k2 H2=true∧distinct (H2.map (·.1))=true∧Nat.ble J k2=true∧r.low k2=true∧R k2 r H2
theorem anchorOk_id:∀ J,anchorOk id J=true
 | 0=>rfl
 | J + 1=>by simp only [anchorOk,Bool.and_eq_true];exact⟨Nat.beq_refl J,anchorOk_id J⟩
theorem fn_enterF {dr:Bool} {P:Program} {τ:List (Nat × TI)} {τok:TabOk P τ} {f:FuncId} {fn:Func} {c:Code} {args:List SV} {J k:Nat} {H:Hp} {R:Nat→SV→Hp→Prop} (N:Nat) (hf:P.funcs[f]? = some fn) (hb:fn.body=some c)
  (hN:args.length + (fn.ntmps - args.length)=N) (hcall:callable P f=true)
  (h:∀ (O:Nat→Prop) (w0:World) (E0:Nat→Prop) (β0:Nat→Nat × Value),DW ⟨P,τ,τok,O,w0,E0,N,J,β0,none,noPan,true,dr⟩ c (RetQ τ fn.results.toList (Kept J R)) k (enumSl 0 args) H):FnOk dr P τ τok f args J k H R:=by
 have h2:=fn_enter (J:=J) (k:=k) (H:=H) N hf hb hN hcall (R:=Kept J R) h
 refine⟨h2.1,fun O e w vs hH hr=>(h2.2 O e w vs hH hr).mono ?_⟩
 rintro en w' ⟨k',r,H',e',v,⟨k2,H2,hK,hl,hd,hj,hrl,hR⟩,rfl,hH',hrel⟩
 obtain⟨g1,g2⟩:=hH'.ren id k2 H2 hK hl hd hd hj (anchorOk_id J)
 exact⟨k2,r,H2,e'.ren id k2,v,hR,rfl,g1,Rel.keep (Nat.le_refl _) (fun _ _ _=>rfl) (fun b _ hy=>g2 b hy) _ _ (Rel.ren id k2 r v hrl ((SV.ren_id r).symm▸hrel))⟩
section
variable {Γ : Ctx} {k κ : Nat} {L : Sl} {H : Hp} {K : Next'} {ops : List Oper} {rest : List Oper} {q : Bool}
theorem ds_evC {d:Nat} {op:Op} {ty:TypeId} {pos:String} {af:Array Edge} {g:Option (Nat × Bool)} {p:Prop} {s s':SV} (he:evC Γ.τ (opSV L) (Hp.get H) op=some (p,s)) (hp:p) (hv:s=s') (hok:opsOkB op=true)
  (hw:wantedSV ops L g=some true) (hd:Nat.blt d Γ.n=true) (hk:DS q Γ ops rest K k ((d,s')::L) H):DS q Γ ops (⟨some d,op,ty,pos,af,g⟩::rest) K k L H:=by
 subst hv
 exact ds_ev (evC_sound he hp hok) hw hd hk
def setF:Hp→Nat→HB→(Hp→Option Hp)→Option Hp
 | [],_,_,k=>k []
 | (d,s)::H,i,b,k=>match Nat.beq d i with
  | true=>k ((d,b)::H)
  | false=>setF H i b fun H'=>k ((d,s)::H')
theorem setF_eq (i:Nat) (b:HB):∀ (H:Hp) (k:Hp→Option Hp),setF H i b k=k (Hp.set H i b)
 | [],_=>rfl
 | (d,s)::H,k=>by
  simp only [setF,Hp.set]
  cases h:Nat.beq d i with
  | true=>rfl
  | false=>simp only [setF_eq i b H]
def delF:Hp→Nat→(Hp→Option Hp)→Option Hp
 | [],_,k=>k []
 | (d,s)::H,i,k=>match Nat.beq d i with
  | true=>k H
  | false=>delF H i fun H'=>k ((d,s)::H')
theorem delF_eq (i:Nat):∀ (H:Hp) (k:Hp→Option Hp),delF H i k=k (Hp.del H i)
 | [],_=>rfl
 | (d,s)::H,k=>by
  simp only [delF,Hp.del]
  cases h:Nat.beq d i with
  | true=>rfl
  | false=>simp only [delF_eq i H]
theorem ds_newC {d:Nat} {op:Op} {ty:TypeId} {pos:String} {af:Array Edge} {g:Option (Nat × Bool)} {p:Prop} {s:SV} {b:HB} (he:stepD Γ.τ (opSV L) (Hp.get H) k op=some (p,s,.new b)) (hp:p) (hok:opsOkB op=true)
  (hw:wantedSV ops L g=some true) (hd:Nat.blt d Γ.n=true) (hk:DS false Γ ops rest K (k + 1) ((d,s)::L) ((k,b)::H)):DS false Γ ops (⟨some d,op,ty,pos,af,g⟩::rest) K k L H :=
 dl_op hw ((stepD_sound he hp trivial hok hd (lo_not k)).cast (with1_lo k)) hk
theorem ds_tradeC [NoDr Γ] {d j:Nat} {op:Op} {ty:TypeId} {pos:String} {af:Array Edge} {g:Option (Nat × Bool)} {p:Prop} {s:SV} {b:HB} {H':Hp} (he:stepD Γ.τ (opSV L) (Hp.get H) k op=some (p,s,.trade j b)) (hp:p) (hok:opsOkB op=true)
  (hw:wantedSV ops L g=some true) (hd:Nat.blt d Γ.n=true) (hH:delF H j some=some H') (hk:DS false Γ ops rest K (k + 1) ((d,s)::L) ((k,b)::H')):DS false Γ ops (⟨some d,op,ty,pos,af,g⟩::rest) K k L H:=by
 rw [delF_eq] at hH
 cases hH
 exact dl_op hw ((stepD_sound he hp (NoDr.no (Γ:=Γ)) hok hd (lo_not k)).cast (with1_lo k)) hk
theorem store_sound {te ty:TypeId} {x y:Operand} {pos:String} {af:Array Edge} {g:Option (Nat × Bool)} {s:SV} {j:Nat} {b:HB} {D:Nat→Prop} (h:storeC Γ.τ te (opSV L x) (opSV L y) (Hp.get H)=some (True,s,.set j b)) (hok:opOkB y=true) :
  OpOk Γ ⟨none,.store te x y,ty,pos,af,g⟩ D L H D L (Hp.set H j b):=by
 simp only [storeC,forceL_eq] at h
 split at h
 ·rename_i i o hx
  split at h
  ·rename_i tb cs hH
   split at h
   ·rename_i hc
    simp only [Option.some.injEq,Prod.mk.injEq,Up.set.injEq] at h
    obtain⟨_,_,rfl,rfl⟩:=h
    simp only [Bool.and_eq_true] at hc
    exact op_store hx hH rfl hok hc.1 hc.2.1 hc.2.2.1 hc.2.2.2
   ·cases h
  ·cases h
 ·rename_i i j es o hx
  split at h
  ·rename_i tb es' xs hH
   split at h
   ·rename_i x hy
    split at h
    ·rename_i hc
     simp only [Option.some.injEq,Prod.mk.injEq,Up.set.injEq] at h
     obtain⟨hp,_,rfl,rfl⟩:=h
     have hp:=of_eq_true hp
     simp only [Bool.and_eq_true] at hc
     obtain⟨c1,c2,c3,c4,c5⟩:=hc
     have e3:=Nat.eq_of_beq_eq_true c3
     have e4:=Nat.eq_of_beq_eq_true c4
     have e5:=Nat.eq_of_beq_eq_true c5
     have e2:=Nat.eq_of_beq_eq_true c2
     subst e3;subst e5
     rw [e4] at hH
     have hone:xs[j].length=1:=hp.2 _ (List.getElem_mem hp.1)
     have hsp:spliceD xs[j] 0 [x]=[x]:=by
      unfold spliceD
      match hx1:xs[j],hone with
      | [u],_=>rfl
     have:=op_storeP (k:=D) (te:=te) (pos:=pos) (af:=af) (g:=g) (ty:=ty) (new:=[x]) hx hH hp.1 hy hok rfl c1 (by rw [show Γ.cells te=1 from e2];rfl) rfl
     rw [hsp] at this
     exact this
    ·cases h
   ·cases h
  ·cases h
 ·cases h
theorem ds_setC {te ty:TypeId} {x y:Operand} {pos:String} {af:Array Edge} {g:Option (Nat × Bool)} {s:SV} {j:Nat} {b:HB} {H':Hp} (he:storeC Γ.τ te (opSV L x) (opSV L y) (Hp.get H)=some (True,s,.set j b)) (hok:opOkB y=true)
  (hw:wantedSV ops L g=some true) (hH:setF H j b some=some H') (hk:DS false Γ ops rest K k L H'):DS false Γ ops (⟨none,.store te x y,ty,pos,af,g⟩::rest) K k L H:=by
 rw [setF_eq] at hH
 cases hH
 exact dl_op hw (store_sound he hok) hk
theorem ds_bsC {d:Nat} {t len:Nat} {ty:TypeId} {pos:String} {af:Array Edge} {g:Option (Nat × Bool)} {ps:Array (Nat × Operand)} {p:Prop} {s:SV} (he:buildSliceC Γ.τ (opSV L) t len ps.toList=some (p,s,.no)) (hok:opsOkB (.buildSlice t len ps)=true)
  (hw:wantedSV ops L g=some true) (hd:Nat.blt d Γ.n=true) (hk:DS false Γ ops rest K k ((d,s)::L) H):DS false Γ ops (⟨some d,.buildSlice t len ps,ty,pos,af,g⟩::rest) K k L H :=
 dl_op hw (bs_sound he hok hd) hk
mutual
theorem Rel.lower {X e w} (k:Nat):∀ (s:SV) (v:Value),s.low k=true→Rel X e w s v→Rel X ⟨e.β,e.η,lo k⟩ w s v
 | .junk,_,_,_=>trivial
 | .d _,_,_,h=>h
 | .nils,_,_,h=>h
 | .pd _,_,_,h=>h
 | .loc _ _,_,hb,h=>⟨Nat.le_of_ble_eq_true hb,h.2⟩
 | .row _,_,hb,h=>⟨Nat.le_of_ble_eq_true hb,h.2⟩
 | .mp _,_,hb,h=>⟨Nat.le_of_ble_eq_true hb,h.2⟩
 | .md _ _,_,_,h=>h
 | .prow _ _ _ _,_,hb,h=>⟨Nat.le_of_ble_eq_true hb,h.2⟩
 | .sl _ _ _ _,_,hb,h=>⟨Nat.le_of_ble_eq_true hb,h.2⟩
 | .rsl _ _ _ _,_,hb,h=>⟨Nat.le_of_ble_eq_true hb,h.2⟩
 | .rg _ _ _,_,_,h=>h
 | .fn _ caps,_,hb,⟨vs,h1,h2⟩=>⟨vs,h1,RelL.lower k caps vs hb h2⟩
 | .agg ss,_,hb,⟨vs,h1,h2⟩=>⟨vs,h1,RelL.lower k ss vs hb h2⟩
 | .tup ss,_,hb,⟨vs,h1,h2⟩=>⟨vs,h1,RelL.lower k ss vs hb h2⟩
 | .val _,_,_,h=>h
theorem RelL.lower {X e w} (k:Nat):∀ (ss:List SV) (vs:List Value),SV.lowL k ss=true→RelL X e w ss vs→RelL X ⟨e.β,e.η,lo k⟩ w ss vs
 | [],[],_,_=>trivial
 | [],_::_,_,h=>h.elim
 | _::_,[],_,h=>h.elim
 | s::ss,v::vs,hb,h=>by
  simp only [SV.lowL,Bool.and_eq_true] at hb
  exact⟨Rel.lower k s v hb.1 h.1,RelL.lower k ss vs hb.2 h.2⟩
end
theorem Sl.low_get {k:Nat}:∀ (L:Sl),Sl.low k L=true→∀ t,(Sl.get L t).low k=true
 | [],_,_=>rfl
 | (d,s)::L,h,t=>by
  simp only [Sl.low,Bool.and_eq_true] at h
  rw [Sl.get_cons]
  split
  ·exact h.1
  ·exact Sl.low_get L h.2 t
theorem Models.lower {k':Nat→Prop} {e:Env} {a:Act} {w:World} (m:Models Γ k' L H e a w) (k:Nat) (hL:Sl.low k L=true) (hH:Hp.low k H=true) (hj:Nat.ble Γ.J k=true):Models Γ k L H ⟨e.β,e.η,lo k⟩ a w:=by
 have hlow:=Hp.low_spec H hH
 have hol:ownedL ⟨e.β,e.η,lo k⟩ H=ownedL e H:=rfl
 refine⟨⟨fun _=>Iff.rfl,fun p hp=>⟨(hlow p hp).1,?_⟩,m.ids,m.nodup,m.mine,m.os,m.tape,m.output,m.drawn,m.size,m.block,m.obound,m.tabs,fun j hjl=>Nat.lt_of_lt_of_le hjl (Nat.le_of_ble_eq_true hj),m.anchor⟩,m.defers,m.len,fun t=>Rel.lower k _ _ (Sl.low_get L hL t) (m.slot t)⟩
 have h:=(m.heap p hp).2
 have hl:=(hlow p hp).2
 obtain⟨i,b⟩:=p
 cases b with
 | blk ty cs =>
  obtain⟨vs,h1,h2,h3⟩:=h
  exact⟨vs,h1,RelL.lower k cs vs hl h2,h3⟩
 | row ty es xs=>exact h
 | map kd kvs=>exact h
def HB.force (b:HB) (k:HB→Prop):Prop:=match b with
 | .blk ty cs=>forceL cs fun cs'=>k (.blk ty cs')
 | .row ty es xs=>k (.row ty es xs)
 | .map kd kvs=>k (.map kd kvs)
theorem HB.force_eq (b:HB) (k:HB→Prop):b.force k=k b:=by cases b <;> simp [HB.force,forceL_eq]
def forceHp:Hp→(Hp→Prop)→Prop
 | [],k=>k []
 | (i,b)::r,k=>b.force fun b'=>forceHp r fun r'=>k ((i,b')::r')
theorem forceHp_eq:∀ (H:Hp) (k:Hp→Prop),forceHp H k=k H
 | [],_=>rfl
 | (i,b)::r,k=>by simp only [forceHp,HB.force_eq,forceHp_eq r]
def afterCall (q:Bool) (Γ:Ctx) (ops rest:List Oper) (K:Next') (k m d:Nat) (r:SV) (L:Sl) (H:Hp):Prop :=
 forceSV r fun r'=>forceHp H fun H'=>match Sl.low k L && (SV.low k r' && (Hp.low k H' && Nat.ble Γ.J k)) with
  | true=>DS q Γ ops rest K k ((d,r')::L) H'
  | false=>DS q Γ ops rest K m ((d,r')::L) H'
theorem after_call {m d:Nat} {r:SV} (h:afterCall false Γ ops rest K k m d r L H):DS false Γ ops rest K m ((d,r)::L) H:=by
 unfold afterCall at h
 rw [forceSV_eq,forceHp_eq] at h
 split at h
 ·rename_i hc
  simp only [Bool.and_eq_true] at hc
  intro e a w mm
  exact h _ a w (mm.lower k (by simp only [Sl.low,Bool.and_eq_true];exact⟨hc.2.1,hc.1⟩) hc.2.2.1 hc.2.2.2)
 ·exact h
theorem ds_callF {f:FuncId} {xs:List Operand} {ts:Array TypeId} {ty:TypeId} {pos:String} {af:Array Edge} {g:Option (Nat × Bool)} {d:Nat} {args:List SV} {J kc:Nat} {Hc:Hp} {R:Nat→SV→Hp→Prop} (ρ:Nat→Nat)
  (hc:FnOk Γ.dr Γ.P Γ.τ Γ.τok f args J kc Hc R) (hw:wantedSV ops L g=some true) (ha:opsL L xs=SV.renL ρ args) (hok:opsOk xs=true) (hlA:SV.lowL kc args=true) (hKH:KnowsH ρ H Hc) (hl:Hp.low kc Hc=true)
  (hd:distinct (Hc.map fun p=>ρ p.1)=true) (hd':distinct (Hc.map (·.1))=true) (hJ:Nat.ble J kc=true) (hall:allIn J (Hc.map (·.1))=true) (hdn:Nat.blt d Γ.n=true)
  (hRr:∀ k2 r H2,R k2 r H2→r.rowsGe J=true∧Hp.rowsGe J H2=true)
  (hk:∀ k2 r H2,R k2 r H2→afterCall false Γ ops rest K k (k + k2) d (r.ren (sig ρ J k)) L ((H2.map fun p=>(sig ρ J k p.1,p.2.ren (sig ρ J k)))++restOf H (Hc.map fun p=>ρ p.1))) :
  DS false Γ ops (⟨some d,.call { callee:=.value (.func f),args:=xs.toArray,argTypes:=ts },ty,pos,af,g⟩::rest) K k L H :=
 ds_callO ρ hc hw ha hok hlA hKH hl hd hd' hJ hall hdn hRr fun k2 r H2 h=>after_call (hk k2 r H2 h)
def DT (Γ:Ctx) (ops:List Oper) (κ:Nat) (rest:List (Nat × Oper)) (lg:Log) (K:FS→Prop) (L:Sl) (H:Hp):Prop:=DR Γ ops κ rest lg K (ofL L H)
variable {rem : List (Nat × Oper)} {lg : Log} {Kf : FS → Prop}
def lenIs:List Oper→Nat→Nat→Prop
 | [],k,m=>k=m
 | _::l,k,m=>lenIs l (k + 1) m
theorem lenIs_spec:∀ (l:List Oper) (k m:Nat),lenIs l k m→k + l.length=m
 | [],_,_,h=>h
 | _::l,k,m,h=>by have:=lenIs_spec l (k + 1) m h;simp only [List.length_cons];omega
theorem dw_any {id m:Nat} {l:List Oper} {Q:Post} (hm:Γ.P.follows .mixedOrders=true) (hB:regAnyB l=true) (hnd:noDefer l=true) (hl:lenIs l k m) (h:DT Γ l k (enumO 0 l) [] (endK Γ m (Q .normal)) L H):DW Γ (.region id l.toArray true) Q k L H :=
 dw_region_any hm hB hnd (lenIs_spec l k m hl▸h)
theorem dt_nil {m:Nat} {Q:Next'} (hn:distinct (H.map (·.1))=true) (h:Q m L H):DT Γ ops κ [] lg (endK Γ m Q) L H:=by
 refine .nil fun e a w hr=>?_
 obtain⟨L2,H2,m2,hs⟩:=hr
 have h1:∀ t,Sl.get L2 t=Sl.get L t:=fun t=>congrFun (congrArg FS.ℓ hs) t
 have h2:∀ i,Hp.get H2 i=Hp.get H i:=fun i=>congrFun (congrArg FS.η hs) i
 exact⟨m,L,H,e,m2.same h1 h2 (distinct_spec _ hn),h⟩
theorem dt_nil0 {m:Nat} {Q:Next'} (hn:distinct (H.map (·.1))=true) (hj:Nat.ble Γ.J κ=true) (hL:Sl.low κ L=true) (hH:Hp.low κ H=true) (h:Q κ L H):DT Γ ops κ [] lg (endK Γ m Q) L H:=by
 refine .nil fun e a w hr=>?_
 obtain⟨L2,H2,m2,hs⟩:=hr
 have h1:∀ t,Sl.get L2 t=Sl.get L t:=fun t=>congrFun (congrArg FS.ℓ hs) t
 have h2:∀ i,Hp.get H2 i=Hp.get H i:=fun i=>congrFun (congrArg FS.η hs) i
 exact⟨κ,L,H,_,(m2.same h1 h2 (distinct_spec _ hn)).lower κ hL hH hj,h⟩
theorem dt_skip {i:Nat} {op:Op} {ty:TypeId} {pos:String} {af:Array Edge} {g:Option (Nat × Bool)} {dst:Option Nat} (hw:wantedSV ops L g=some false) (hd:dstOk Γ dst=true) (hlog:okLog ops i [] [] lg=true)
  (hk:DT Γ ops κ rem ((i,[],[])::lg) Kf (putL dst (.tup []) L) H):DT Γ ops κ ((i,⟨dst,op,ty,pos,af,g⟩)::rem) lg Kf L H:=by
 refine .cons false _ [] [] (.skip ((wantedF_eq ops L g).trans hw) hd) hlog ⟨_,_,rfl,rfl⟩ (fun v u hv=>by rw [hv.2];rfl) fun v u hv=>?_
 rw [hv.1,hv.2]
 have:(ofL L H).app (κ + i) dst (.tup []) .no=ofL (putL dst (.tup []) L) H:=by rw [← ofL_put];cases dst <;> rfl
 show DR Γ ops κ rem _ Kf ((ofL L H).app (κ + i) dst (.tup []) .no)
 rw [this]
 exact hk
theorem dt_step {i:Nat} {op:Op} {ty:TypeId} {pos:String} {af:Array Edge} {g:Option (Nat × Bool)} {dst:Option Nat} {p:Prop} {v v':SV} {u:Up} (hw:wantedSV ops L g=some true)
  (hs:stepC Γ.τ (opSV L) (Hp.get H) (κ + i) dst op=some (p,v,u)) (hp:p) (hu:u.okD Γ.dr) (hv:v=v') (hok:opsOkB op=true) (hd:dstOk Γ dst=true) (hn:distinct (H.map (·.1))=true)
  (hlog:okLog ops i (rdsN (opSV L) op) (u.names (κ + i)) lg=true) (hk:DT Γ ops κ rem ((i,rdsN (opSV L) op,u.names (κ + i))::lg) Kf (putL dst v' L) (u.appL (κ + i) H)) :
  DT Γ ops κ ((i,⟨dst,op,ty,pos,af,g⟩)::rem) lg Kf L H:=by
 subst hv
 have hs':stepC Γ.τ (ofL L H).op (ofL L H).η (κ + i) dst op=some (p,v,u):=by rw [ofL_op];exact hs
 have hr:rdsN (ofL L H).op op=rdsN (opSV L) op:=by rw [ofL_op]
 refine .cons false _ _ _ (.step p v u ((wantedF_eq ops L g).trans hw) hs' hp hu hok hd) (by rw [hr];exact hlog) ⟨v,u,rfl,rfl⟩ (fun v u hv=>by rw [hv.2]) fun v' u' hv=>?_
 rw [hv.1,hv.2]
 show DR Γ ops κ rem ((i,rdsN (ofL L H).op op,u.names (κ + i))::lg) Kf ((ofL L H).app (κ + i) dst v u)
 rw [hr,← appL_get (distinct_spec _ hn) hs]
 exact hk
theorem dt_skipD {i:Nat} {op:Op} {ty:TypeId} {pos:String} {af:Array Edge} {g:Option (Nat × Bool)} {d:Nat} (hw:wantedSV ops L g=some false) (hd:Nat.blt d Γ.n=true) (hlog:okLog ops i [] [] lg=true)
  (hk:DT Γ ops κ rem ((i,[],[])::lg) Kf ((d,.tup [])::L) H):DT Γ ops κ ((i,⟨some d,op,ty,pos,af,g⟩)::rem) lg Kf L H:=dt_skip (dst:=some d) hw hd hlog hk
theorem dt_ev {i:Nat} {op:Op} {ty:TypeId} {pos:String} {af:Array Edge} {g:Option (Nat × Bool)} {d:Nat} {p:Prop} {v v':SV} (hw:wantedSV ops L g=some true)
  (hs:stepC Γ.τ (opSV L) (Hp.get H) (κ + i) (some d) op=some (p,v,.no)) (hp:p) (hv:v=v') (hok:opsOkB op=true) (hd:Nat.blt d Γ.n=true) (hn:distinct (H.map (·.1))=true)
  (hlog:okLog ops i (rdsN (opSV L) op) [] lg=true) (hk:DT Γ ops κ rem ((i,rdsN (opSV L) op,[])::lg) Kf ((d,v')::L) H) :
  DT Γ ops κ ((i,⟨some d,op,ty,pos,af,g⟩)::rem) lg Kf L H:=dt_step hw hs hp trivial hv hok hd hn hlog hk
theorem dt_new {i z:Nat} {op:Op} {ty:TypeId} {pos:String} {af:Array Edge} {g:Option (Nat × Bool)} {d:Nat} {p:Prop} {v v':SV} {b:HB} (hw:wantedSV ops L g=some true) (hz:κ + i=z)
  (hs:stepC Γ.τ (opSV L) (Hp.get H) z (some d) op=some (p,v,.new b)) (hp:p) (hv:v=v') (hok:opsOkB op=true) (hd:Nat.blt d Γ.n=true) (hn:distinct (H.map (·.1))=true)
  (hlog:okLog ops i (rdsN (opSV L) op) [z] lg=true) (hk:DT Γ ops κ rem ((i,rdsN (opSV L) op,[z])::lg) Kf ((d,v')::L) ((z,b)::H)) :
  DT Γ ops κ ((i,⟨some d,op,ty,pos,af,g⟩)::rem) lg Kf L H:=by subst hz;exact dt_step hw hs hp trivial hv hok hd hn hlog hk
theorem dt_set {i j:Nat} {op:Op} {ty:TypeId} {pos:String} {af:Array Edge} {g:Option (Nat × Bool)} {p:Prop} {v:SV} {b:HB} {H':Hp} (hw:wantedSV ops L g=some true)
  (hs:stepC Γ.τ (opSV L) (Hp.get H) (κ + i) none op=some (p,v,.set j b)) (hp:p) (hok:opsOkB op=true) (hn:distinct (H.map (·.1))=true) (hH:setF H j b some=some H')
  (hlog:okLog ops i (rdsN (opSV L) op) [j] lg=true) (hk:DT Γ ops κ rem ((i,rdsN (opSV L) op,[j])::lg) Kf L H') :
  DT Γ ops κ ((i,⟨none,op,ty,pos,af,g⟩)::rem) lg Kf L H:=by rw [setF_eq] at hH;cases hH;exact dt_step (dst:=none) (v':=v) hw hs hp trivial rfl hok rfl hn hlog hk
theorem dt_trade [NoDr Γ] {i j z:Nat} {op:Op} {ty:TypeId} {pos:String} {af:Array Edge} {g:Option (Nat × Bool)} {d:Nat} {p:Prop} {v v':SV} {b:HB} (hw:wantedSV ops L g=some true) (hz:κ + i=z)
  (hs:stepC Γ.τ (opSV L) (Hp.get H) z (some d) op=some (p,v,.trade j b)) (hp:p) (hv:v=v') (hok:opsOkB op=true) (hd:Nat.blt d Γ.n=true) (hn:distinct (H.map (·.1))=true)
  (hlog:okLog ops i (rdsN (opSV L) op) [j,z] lg=true) {H':Hp} (hH:delF H j some=some H') (hk:DT Γ ops κ rem ((i,rdsN (opSV L) op,[j,z])::lg) Kf ((d,v')::L) ((z,b)::H')) :
  DT Γ ops κ ((i,⟨some d,op,ty,pos,af,g⟩)::rem) lg Kf L H:=by rw [delF_eq] at hH;cases hH;subst hz;exact dt_step hw hs hp (NoDr.no (Γ:=Γ)) hv hok hd hn hlog hk
theorem dt_call {i:Nat} {f:FuncId} {xs:List Operand} {ts:Array TypeId} {ty:TypeId} {pos:String} {af:Array Edge} {g:Option (Nat × Bool)} {d:Nat} {args:List SV} {R:SV→Prop} (hw:wantedSV ops L g=some true)
  (ha:opsL L xs=args) (hc:FnP Γ.dr Γ.P Γ.τ Γ.τok f args R) (hok:opsOk xs=true) (hlow:SV.lowL 0 args=true) (hd:Nat.blt d Γ.n=true) (hlog:okLog ops i [] [] lg=true) (hne:∃ r,R r)
  (hk:∀ r,R r→DT Γ ops κ rem ((i,[],[])::lg) Kf ((d,r)::L) H) :
  DT Γ ops κ ((i,⟨some d,.call { callee:=.value (.func f),args:=xs.toArray,argTypes:=ts },ty,pos,af,g⟩)::rem) lg Kf L H:=by
 have e1:xs.map (ofL L H).op++[]=args:=by rw [ofL_op,List.append_nil,← opsL_map,ha]
 have hok':opsOkB (.call { callee:=.value (.func f),args:=xs.toArray,argTypes:=ts })=true:=by
  unfold opsOkB
  simp only [Op.operands,Call.operands,Array.toList_append,List.all_append,Bool.and_eq_true]
  refine⟨rfl,?_⟩
  have:∀ (xs:List Operand),opsOk xs=true→xs.all opOkB=true:=by
   intro xs
   induction xs with
   | nil=>intro _;rfl
   | cons x xs ih=>intro h;simp only [opsOk,Bool.and_eq_true] at h;simp [h.1,ih h.2]
  exact this xs hok
 refine .cons true _ [] [] (.call d f (.func f) [] xs ts R ((wantedF_eq ops L g).trans hw) rfl rfl rfl (e1▸hc) (e1▸hlow) hok' hd) hlog (hne.imp fun r h=>⟨.no,h,rfl⟩) (fun v u hv=>by rw [hv.2];rfl) fun v u hv=>?_
 rw [hv.2]
 have:(ofL L H).app (κ + i) (some d) v .no=ofL ((d,v)::L) H:=(ofL_put L H (some d) v)
 show DR Γ ops κ rem _ Kf ((ofL L H).app (κ + i) (some d) v .no)
 rw [this]
 exact hk v hv.1
theorem dt_callB (j:Nat) {i:Nat} {f:FuncId} {xs:List Operand} {ts:Array TypeId} {ty':TypeId} {pos:String} {af:Array Edge} {g:Option (Nat × Bool)} {d:Nat} {args:List SV} {ty:TypeId} {cs:List SV} {R:SV→List SV→Prop} (hc:FnBl Γ.dr Γ.P Γ.τ Γ.τok f args ty cs R)
  (hw:wantedSV ops L g=some true) (ha:opsL L xs=SV.renL (fun _=>j) args) (hH:Hp.get H j=some (.blk ty cs)) (hcs:SV.lowL 0 cs=true) (hok:opsOk xs=true) (hlow:SV.lowL 1 args=true) (hd:Nat.blt d Γ.n=true) (hlog:okLog ops i [j] [j] lg=true) (hne:∃ r cs',R r cs')
  (hk:∀ r cs',R r cs'→DT Γ ops κ rem ((i,[j],[j])::lg) Kf ((d,r)::L) (Hp.set H j (.blk ty cs'))) :
  DT Γ ops κ ((i,⟨some d,.call { callee:=.value (.func f),args:=xs.toArray,argTypes:=ts },ty',pos,af,g⟩)::rem) lg Kf L H:=by
 have e1:xs.map (ofL L H).op=SV.renL (fun _=>j) args:=by rw [ofL_op,← opsL_map,ha]
 have hok':opsOkB (.call { callee:=.value (.func f),args:=xs.toArray,argTypes:=ts })=true:=by
  unfold opsOkB
  simp only [Op.operands,Call.operands,Array.toList_append,List.all_append,Bool.and_eq_true]
  refine⟨rfl,?_⟩
  have:∀ (xs:List Operand),opsOk xs=true→xs.all opOkB=true:=by
   intro xs
   induction xs with
   | nil=>intro _;rfl
   | cons x xs ih=>intro h;simp only [opsOk,Bool.and_eq_true] at h;simp [h.1,ih h.2]
  exact this xs hok
 refine .cons true _ [j] [j] (.callB d f xs ts j args ty cs R ((wantedF_eq ops L g).trans hw) rfl rfl hc e1 hlow hH hcs hok' hd) hlog (by obtain⟨r,cs',h⟩:=hne;exact⟨_,_,cs',h,rfl⟩) (fun v u hv=>by obtain⟨cs',_,h⟩:=hv;rw [h];rfl) fun v u hv=>?_
 obtain⟨cs',hR,rfl⟩:=hv
 show DR Γ ops κ rem _ Kf ((ofL L H).app (κ + i) (some d) v (.set j (.blk ty cs')))
 rw [← ofL_set _ _ _ _ _ _ _ _ hH]
 exact hk v cs' hR
theorem dt_callV {i:Nat} {f:FuncId} {x:Operand} {caps:List SV} {xs:List Operand} {ts:Array TypeId} {ty:TypeId} {pos:String} {af:Array Edge} {g:Option (Nat × Bool)} {d:Nat} {args:List SV} {R:SV→Prop} (hx:opSV L x = .fn f caps) (hxo:opOkB x=true) (hw:wantedSV ops L g=some true)
  (ha:opsL L xs++caps=args) (hc:FnP Γ.dr Γ.P Γ.τ Γ.τok f args R) (hok:opsOk xs=true) (hlow:SV.lowL 0 args=true) (hd:Nat.blt d Γ.n=true) (hlog:okLog ops i [] [] lg=true) (hne:∃ r,R r)
  (hk:∀ r,R r→DT Γ ops κ rem ((i,[],[])::lg) Kf ((d,r)::L) H) :
  DT Γ ops κ ((i,⟨some d,.call { callee:=.value x,args:=xs.toArray,argTypes:=ts },ty,pos,af,g⟩)::rem) lg Kf L H:=by
 have e1:xs.map (ofL L H).op++caps=args:=by rw [ofL_op,← opsL_map,ha]
 have hok':opsOkB (.call { callee:=.value x,args:=xs.toArray,argTypes:=ts })=true:=by
  unfold opsOkB
  simp only [Op.operands,Call.operands,Array.toList_append,List.all_append,Bool.and_eq_true]
  refine⟨by simp [hxo],?_⟩
  have:∀ (xs:List Operand),opsOk xs=true→xs.all opOkB=true:=by
   intro xs
   induction xs with
   | nil=>intro _;rfl
   | cons x xs ih=>intro h;simp only [opsOk,Bool.and_eq_true] at h;simp [h.1,ih h.2]
  exact this xs hok
 refine .cons true _ [] [] (.call d f x caps xs ts R ((wantedF_eq ops L g).trans hw) rfl rfl (by rw [ofL_op];exact hx) (e1▸hc) (e1▸hlow) hok' hd) hlog (hne.imp fun r h=>⟨.no,h,rfl⟩) (fun v u hv=>by rw [hv.2];rfl) fun v u hv=>?_
 rw [hv.2]
 have:(ofL L H).app (κ + i) (some d) v .no=ofL ((d,v)::L) H:=(ofL_put L H (some d) v)
 show DR Γ ops κ rem _ Kf ((ofL L H).app (κ + i) (some d) v .no)
 rw [this]
 exact hk v hv.1
theorem dt_callR {i:Nat} {f:FuncId} {xs:List Operand} {ts:Array TypeId} {ty:TypeId} {pos:String} {af:Array Edge} {g:Option (Nat × Bool)} {d:Nat} {args:List SV} {J:Nat} {Hc:Hp} {R:SV→Prop} (ρ:Nat→Nat)
  (hc:FnOk Γ.dr Γ.P Γ.τ Γ.τok f args J J Hc (fun _ r H2=>R r∧H2=Hc)) (hR:∀ r,R r→r.low 0=true∧r.rowsGe J=true) (hne:∃ r,R r) (hw:wantedSV ops L g=some true) (ha:opsL L xs=SV.renL ρ args) (hok:opsOk xs=true) (hlA:SV.lowL J args=true) (hKH:KnowsH ρ H Hc) (hl:Hp.low J Hc=true)
  (hd:distinct (Hc.map fun p=>ρ p.1)=true) (hd':distinct (Hc.map (·.1))=true) (hall:allIn J (Hc.map (·.1))=true) (hbel:allBelow J Hc=true) (hrows:Hp.rowsGe J Hc=true) (hdn:Nat.blt d Γ.n=true) {rd:List Nat} (hrd:Hc.map (fun p=>ρ p.1)=rd) (hlog:okLog ops i rd [] lg=true)
  (hk:∀ r,R r→DT Γ ops κ rem ((i,rd,[])::lg) Kf ((d,r)::L) H) :
  DT Γ ops κ ((i,⟨some d,.call { callee:=.value (.func f),args:=xs.toArray,argTypes:=ts },ty,pos,af,g⟩)::rem) lg Kf L H:=by
 subst hrd
 have e1:xs.map (ofL L H).op++[]=SV.renL ρ args:=by rw [ofL_op,List.append_nil,← opsL_map,ha]
 have hok':opsOkB (.call { callee:=.value (.func f),args:=xs.toArray,argTypes:=ts })=true:=by
  unfold opsOkB
  simp only [Op.operands,Call.operands,Array.toList_append,List.all_append,Bool.and_eq_true]
  refine⟨rfl,?_⟩
  have:∀ (xs:List Operand),opsOk xs=true→xs.all opOkB=true:=by
   intro xs
   induction xs with
   | nil=>intro _;rfl
   | cons x xs ih=>intro h;simp only [opsOk,Bool.and_eq_true] at h;simp [h.1,ih h.2]
  exact this xs hok
 refine .cons true _ _ [] (.callR d f (.func f) [] xs ts ρ args J Hc R ((wantedF_eq ops L g).trans hw) rfl rfl rfl hc e1 hlA ((knowsF_is ρ H Hc).2 hKH) hl hd hd' hall hbel hR hrows hok' hdn) hlog (hne.imp fun r h=>⟨.no,h,rfl⟩) (fun v u hv=>by rw [hv.2];rfl) fun v u hv=>?_
 rw [hv.2]
 have:(ofL L H).app (κ + i) (some d) v .no=ofL ((d,v)::L) H:=(ofL_put L H (some d) v)
 show DR Γ ops κ rem _ Kf ((ofL L H).app (κ + i) (some d) v .no)
 rw [this]
 exact hk v hv.1
theorem ofL_bool {t:Nat} {b:Bool} (hb:L.get t = .d (.bool b)):ofL ((t,.d (.bool b))::L) H=ofL L H:=by
 unfold ofL
 congr 1
 funext t'
 rw [Sl.get_cons]
 split
 ·rename_i h;subst h;exact hb.symm
 ·rfl
theorem dt_split {t:Nat} {b:Bool} (hb:L.get t = .d (.bool b)) (ht:b=true→DT Γ ops κ rem lg Kf ((t,.d (.bool true))::L) H) (hf:b=false→DT Γ ops κ rem lg Kf ((t,.d (.bool false))::L) H):DT Γ ops κ rem lg Kf L H:=by
 unfold DT at *
 cases b with
 | true=>exact ofL_bool (H:=H) hb▸ht rfl
 | false=>exact ofL_bool (H:=H) hb▸hf rfl
theorem dt_known {i:Nat} {op:Op} {ty:TypeId} {pos:String} {af:Array Edge} {g:Option (Nat × Bool)} {dst:Option Nat} {b:Bool} (_:wantedSV ops L g=some b) (h:DT Γ ops κ ((i,⟨dst,op,ty,pos,af,g⟩)::rem) lg Kf L H) :
  DT Γ ops κ ((i,⟨dst,op,ty,pos,af,g⟩)::rem) lg Kf L H:=h
theorem ds_known {op:Op} {ty:TypeId} {pos:String} {af:Array Edge} {g:Option (Nat × Bool)} {dst:Option Nat} {b:Bool} (_:wantedSV ops L g=some b) (h:DS q Γ ops (⟨dst,op,ty,pos,af,g⟩::rest) K k L H) :
  DS q Γ ops (⟨dst,op,ty,pos,af,g⟩::rest) K k L H:=h
theorem dt_guardP {i:Nat} {op:Op} {ty:TypeId} {pos:String} {af:Array Edge} {j:Nat} {want:Bool} {p:Prop} {_:Decidable p} {dst:Option Nat} {oj:Oper} {t:Nat} (_:nthOp ops j=some oj) (_:oj.dst=some t) (hb:L.get t = .d (.bool (decide p)))
  (ht:p→DT Γ ops κ ((i,⟨dst,op,ty,pos,af,some (j,want)⟩)::rem) lg Kf ((t,.d (.bool true))::L) H) (hf:¬ p→DT Γ ops κ ((i,⟨dst,op,ty,pos,af,some (j,want)⟩)::rem) lg Kf ((t,.d (.bool false))::L) H) :
  DT Γ ops κ ((i,⟨dst,op,ty,pos,af,some (j,want)⟩)::rem) lg Kf L H:=dt_split hb (fun h=>ht (of_decide_eq_true h)) (fun h=>hf (of_decide_eq_false h))
theorem ds_guardB {op:Op} {ty:TypeId} {pos:String} {af:Array Edge} {j:Nat} {want b:Bool} {dst:Option Nat} {oj:Oper} {t:Nat} (_:nthOp ops j=some oj) (_:oj.dst=some t) (hb:L.get t = .d (.bool b))
  (ht:b=true→DS q Γ ops (⟨dst,op,ty,pos,af,some (j,want)⟩::rest) K k ((t,.d (.bool true))::L) H) (hf:b=false→DS q Γ ops (⟨dst,op,ty,pos,af,some (j,want)⟩::rest) K k ((t,.d (.bool false))::L) H) :
  DS q Γ ops (⟨dst,op,ty,pos,af,some (j,want)⟩::rest) K k L H:=ds_split hb ht hf
theorem ds_guardP {op:Op} {ty:TypeId} {pos:String} {af:Array Edge} {j:Nat} {want:Bool} {p:Prop} {_:Decidable p} {dst:Option Nat} {oj:Oper} {t:Nat} (_:nthOp ops j=some oj) (_:oj.dst=some t) (hb:L.get t = .d (.bool (decide p)))
  (ht:p→DS q Γ ops (⟨dst,op,ty,pos,af,some (j,want)⟩::rest) K k ((t,.d (.bool true))::L) H) (hf:¬ p→DS q Γ ops (⟨dst,op,ty,pos,af,some (j,want)⟩::rest) K k ((t,.d (.bool false))::L) H) :
  DS q Γ ops (⟨dst,op,ty,pos,af,some (j,want)⟩::rest) K k L H:=ds_split hb (fun h=>ht (of_decide_eq_true h)) (fun h=>hf (of_decide_eq_false h))
end
section
variable {Γ : Ctx} {k κ : Nat} {L : Sl} {H : Hp} {K : Next'} {ops : List Oper} {rest : List Oper} {q : Bool} {rem : List (Nat × Oper)} {lg : Log} {Kf : FS → Prop}
theorem z0 {d:Nat} {op:Op} {ty:TypeId} {pos:String} {af:Array Edge} {g:Option (Nat × Bool)} {p:Prop} {s s':SV} (hk:DS q Γ ops rest K k ((d,s')::L) H) (he:evC Γ.τ (opSV L) (Hp.get H) op=some (p,s):=by exact rfl) (hp:p:=by (first|(with_reducible exact trivial)|(with_reducible exact u8_range _)|(with_reducible exact sat_range _ _)|omega|(with_reducible assumption)|(with_reducible exact bytesOk_one)|(constructor <;> omega)|(simp only [List.length_map];omega)|(unfold maxLen at *;omega)|(simp <;> omega)|(unfold maxLen;simp <;> omega))) (hv:s=s':=by (first|(with_reducible exact hv_chr)|((with_reducible apply hv_prow);(first|exact nat_add_2 _|exact nat_sub_1 _|exact nat_add_1 _|exact nat_lit_0|exact nat_lit_1|exact rfl|exact (Int.toNat_of_nonneg (by omega)).symm))|((with_reducible apply hv_sltake);(first|exact nat_add_2 _|exact nat_sub_1 _|exact nat_add_1 _|exact nat_lit_0|exact nat_lit_1|exact rfl|exact (Int.toNat_of_nonneg (by omega)).symm))|((with_reducible apply hv_sldrop);(first|exact nat_add_2 _|exact nat_sub_1 _|exact nat_add_1 _|exact nat_lit_0|exact nat_lit_1|exact rfl|exact (Int.toNat_of_nonneg (by omega)).symm))|((with_reducible apply hv_ldrow);(apply hv_get;(first|(with_reducible exact trivial)|(with_reducible exact u8_range _)|(with_reducible exact sat_range _ _)|omega|(with_reducible assumption)|(with_reducible exact bytesOk_one)|(constructor <;> omega)|(simp only [List.length_map];omega)|(unfold maxLen at *;omega)|(simp <;> omega)|(unfold maxLen;simp <;> omega)));exact rfl)|((with_reducible apply hv_row);(first|exact nat_add_2 _|exact nat_sub_1 _|exact nat_add_1 _|exact nat_lit_0|exact nat_lit_1|exact rfl|exact (Int.toNat_of_nonneg (by omega)).symm);(first|omega|(rw [List.length_map];omega)))|((with_reducible apply hv_sat);(first|exact nat_add_2 _|exact nat_sub_1 _|exact nat_add_1 _|exact nat_lit_0|exact nat_lit_1|exact rfl|exact (Int.toNat_of_nonneg (by omega)).symm);omega)|((with_reducible apply hv_ext);(first|exact nat_add_2 _|exact nat_sub_1 _|exact nat_add_1 _|exact nat_lit_0|exact nat_lit_1|exact rfl|exact (Int.toNat_of_nonneg (by omega)).symm);(first|exact nat_add_2 _|exact nat_sub_1 _|exact nat_add_1 _|exact nat_lit_0|exact nat_lit_1|exact rfl|exact (Int.toNat_of_nonneg (by omega)).symm))|(with_reducible exact rfl))) (hok:opsOkB op=true:=by exact rfl) (hw:wantedSV ops L g=some true:=by exact rfl) (hd:Nat.blt d Γ.n=true:=by exact rfl):DS q Γ ops (⟨some d,op,ty,pos,af,g⟩::rest) K k L H:=ds_evC he hp hv hok hw hd hk
theorem z1 {d:Nat} {op:Op} {ty:TypeId} {pos:String} {af:Array Edge} {g:Option (Nat × Bool)} {p:Prop} {s:SV} {b:HB} (hk:DS false Γ ops rest K (k + 1) ((d,s)::L) ((k,b)::H)) (he:stepD Γ.τ (opSV L) (Hp.get H) k op=some (p,s,.new b):=by exact rfl) (hp:p:=by (first|(with_reducible exact trivial)|(with_reducible exact u8_range _)|(with_reducible exact sat_range _ _)|omega|(with_reducible assumption)|(with_reducible exact bytesOk_one)|(constructor <;> omega)|(simp only [List.length_map];omega)|(unfold maxLen at *;omega)|(simp <;> omega)|(unfold maxLen;simp <;> omega))) (hok:opsOkB op=true:=by exact rfl) (hw:wantedSV ops L g=some true:=by exact rfl) (hd:Nat.blt d Γ.n=true:=by exact rfl):DS false Γ ops (⟨some d,op,ty,pos,af,g⟩::rest) K k L H:=ds_newC he hp hok hw hd hk
theorem z2 [NoDr Γ] {d j:Nat} {op:Op} {ty:TypeId} {pos:String} {af:Array Edge} {g:Option (Nat × Bool)} {p:Prop} {s:SV} {b:HB} {H':Hp} (hk:DS false Γ ops rest K (k + 1) ((d,s)::L) ((k,b)::H')) (he:stepD Γ.τ (opSV L) (Hp.get H) k op=some (p,s,.trade j b):=by exact rfl) (hp:p:=by (first|(with_reducible exact trivial)|(with_reducible exact u8_range _)|(with_reducible exact sat_range _ _)|omega|(with_reducible assumption)|(with_reducible exact bytesOk_one)|(constructor <;> omega)|(simp only [List.length_map];omega)|(unfold maxLen at *;omega)|(simp <;> omega)|(unfold maxLen;simp <;> omega))) (hok:opsOkB op=true:=by exact rfl) (hw:wantedSV ops L g=some true:=by exact rfl) (hd:Nat.blt d Γ.n=true:=by exact rfl) (hH:delF H j some=some H':=by exact rfl):DS false Γ ops (⟨some d,op,ty,pos,af,g⟩::rest) K k L H:=ds_tradeC he hp hok hw hd hH hk
theorem z3 {te ty:TypeId} {x y:Operand} {pos:String} {af:Array Edge} {g:Option (Nat × Bool)} {s:SV} {j:Nat} {b:HB} {H':Hp} (hk:DS false Γ ops rest K k L H') (he:storeC Γ.τ te (opSV L x) (opSV L y) (Hp.get H)=some (True,s,.set j b):=by exact rfl) (hok:opOkB y=true:=by exact rfl) (hw:wantedSV ops L g=some true:=by exact rfl) (hH:setF H j b some=some H':=by exact rfl):DS false Γ ops (⟨none,.store te x y,ty,pos,af,g⟩::rest) K k L H:=ds_setC he hok hw hH hk
theorem z4 {d:Nat} {t len:Nat} {ty:TypeId} {pos:String} {af:Array Edge} {g:Option (Nat × Bool)} {ps:Array (Nat × Operand)} {p:Prop} {s:SV} (hk:DS false Γ ops rest K k ((d,s)::L) H) (he:buildSliceC Γ.τ (opSV L) t len ps.toList=some (p,s,.no):=by exact rfl) (hok:opsOkB (.buildSlice t len ps)=true:=by exact rfl) (hw:wantedSV ops L g=some true:=by exact rfl) (hd:Nat.blt d Γ.n=true:=by exact rfl):DS false Γ ops (⟨some d,.buildSlice t len ps,ty,pos,af,g⟩::rest) K k L H:=ds_bsC he hok hw hd hk
theorem z5 {i:Nat} {op:Op} {ty:TypeId} {pos:String} {af:Array Edge} {g:Option (Nat × Bool)} {d:Nat} {p:Prop} {v v':SV} (hk:DT Γ ops κ rem ((i,rdsN (opSV L) op,[])::lg) Kf ((d,v')::L) H) (hw:wantedSV ops L g=some true:=by exact rfl) (hs:stepC Γ.τ (opSV L) (Hp.get H) (κ + i) (some d) op=some (p,v,.no):=by exact rfl) (hp:p:=by (first|(with_reducible exact trivial)|(with_reducible exact u8_range _)|(with_reducible exact sat_range _ _)|omega|(with_reducible assumption)|(with_reducible exact bytesOk_one)|(constructor <;> omega)|(simp only [List.length_map];omega)|(unfold maxLen at *;omega)|(simp <;> omega)|(unfold maxLen;simp <;> omega))) (hv:v=v':=by (first|(with_reducible exact hv_chr)|((with_reducible apply hv_prow);(first|exact nat_add_2 _|exact nat_sub_1 _|exact nat_add_1 _|exact nat_lit_0|exact nat_lit_1|exact rfl|exact (Int.toNat_of_nonneg (by omega)).symm))|((with_reducible apply hv_sltake);(first|exact nat_add_2 _|exact nat_sub_1 _|exact nat_add_1 _|exact nat_lit_0|exact nat_lit_1|exact rfl|exact (Int.toNat_of_nonneg (by omega)).symm))|((with_reducible apply hv_sldrop);(first|exact nat_add_2 _|exact nat_sub_1 _|exact nat_add_1 _|exact nat_lit_0|exact nat_lit_1|exact rfl|exact (Int.toNat_of_nonneg (by omega)).symm))|((with_reducible apply hv_ldrow);(apply hv_get;(first|(with_reducible exact trivial)|(with_reducible exact u8_range _)|(with_reducible exact sat_range _ _)|omega|(with_reducible assumption)|(with_reducible exact bytesOk_one)|(constructor <;> omega)|(simp only [List.length_map];omega)|(unfold maxLen at *;omega)|(simp <;> omega)|(unfold maxLen;simp <;> omega)));exact rfl)|((with_reducible apply hv_row);(first|exact nat_add_2 _|exact nat_sub_1 _|exact nat_add_1 _|exact nat_lit_0|exact nat_lit_1|exact rfl|exact (Int.toNat_of_nonneg (by omega)).symm);(first|omega|(rw [List.length_map];omega)))|((with_reducible apply hv_sat);(first|exact nat_add_2 _|exact nat_sub_1 _|exact nat_add_1 _|exact nat_lit_0|exact nat_lit_1|exact rfl|exact (Int.toNat_of_nonneg (by omega)).symm);omega)|((with_reducible apply hv_ext);(first|exact nat_add_2 _|exact nat_sub_1 _|exact nat_add_1 _|exact nat_lit_0|exact nat_lit_1|exact rfl|exact (Int.toNat_of_nonneg (by omega)).symm);(first|exact nat_add_2 _|exact nat_sub_1 _|exact nat_add_1 _|exact nat_lit_0|exact nat_lit_1|exact rfl|exact (Int.toNat_of_nonneg (by omega)).symm))|(with_reducible exact rfl))) (hok:opsOkB op=true:=by exact rfl) (hd:Nat.blt d Γ.n=true:=by exact rfl) (hn:distinct (H.map (·.1))=true:=by exact rfl) (hlog:okLog ops i (rdsN (opSV L) op) [] lg=true:=by exact rfl):DT Γ ops κ ((i,⟨some d,op,ty,pos,af,g⟩)::rem) lg Kf L H:=dt_ev hw hs hp hv hok hd hn hlog hk
theorem z6 {i j:Nat} {op:Op} {ty:TypeId} {pos:String} {af:Array Edge} {g:Option (Nat × Bool)} {p:Prop} {v:SV} {b:HB} {H':Hp} (hk:DT Γ ops κ rem ((i,rdsN (opSV L) op,[j])::lg) Kf L H') (hw:wantedSV ops L g=some true:=by exact rfl) (hs:stepC Γ.τ (opSV L) (Hp.get H) (κ + i) none op=some (p,v,.set j b):=by exact rfl) (hp:p:=by (first|(with_reducible exact trivial)|(with_reducible exact u8_range _)|(with_reducible exact sat_range _ _)|omega|(with_reducible assumption)|(with_reducible exact bytesOk_one)|(constructor <;> omega)|(simp only [List.length_map];omega)|(unfold maxLen at *;omega)|(simp <;> omega)|(unfold maxLen;simp <;> omega))) (hok:opsOkB op=true:=by exact rfl) (hn:distinct (H.map (·.1))=true:=by exact rfl) (hH:setF H j b some=some H':=by exact rfl) (hlog:okLog ops i (rdsN (opSV L) op) [j] lg=true:=by exact rfl):DT Γ ops κ ((i,⟨none,op,ty,pos,af,g⟩)::rem) lg Kf L H:=dt_set hw hs hp hok hn hH hlog hk
theorem z7 {i z:Nat} {op:Op} {ty:TypeId} {pos:String} {af:Array Edge} {g:Option (Nat × Bool)} {d:Nat} {p:Prop} {v v':SV} {b:HB} (hk:DT Γ ops κ rem ((i,rdsN (opSV L) op,[z])::lg) Kf ((d,v')::L) ((z,b)::H)) (hw:wantedSV ops L g=some true:=by exact rfl) (hz:κ + i=z:=by exact rfl) (hs:stepC Γ.τ (opSV L) (Hp.get H) z (some d) op=some (p,v,.new b):=by exact rfl) (hp:p:=by (first|(with_reducible exact trivial)|(with_reducible exact u8_range _)|(with_reducible exact sat_range _ _)|omega|(with_reducible assumption)|(with_reducible exact bytesOk_one)|(constructor <;> omega)|(simp only [List.length_map];omega)|(unfold maxLen at *;omega)|(simp <;> omega)|(unfold maxLen;simp <;> omega))) (hv:v=v':=by exact rfl) (hok:opsOkB op=true:=by exact rfl) (hd:Nat.blt d Γ.n=true:=by exact rfl) (hn:distinct (H.map (·.1))=true:=by exact rfl) (hlog:okLog ops i (rdsN (opSV L) op) [z] lg=true:=by exact rfl):DT Γ ops κ ((i,⟨some d,op,ty,pos,af,g⟩)::rem) lg Kf L H:=dt_new hw hz hs hp hv hok hd hn hlog hk
theorem z9 [NoDr Γ] {i j z:Nat} {op:Op} {ty:TypeId} {pos:String} {af:Array Edge} {g:Option (Nat × Bool)} {d:Nat} {p:Prop} {v v':SV} {b:HB} {H':Hp} (hk:DT Γ ops κ rem ((i,rdsN (opSV L) op,[j,z])::lg) Kf ((d,v')::L) ((z,b)::H')) (hw:wantedSV ops L g=some true:=by exact rfl) (hz:κ + i=z:=by exact rfl) (hs:stepC Γ.τ (opSV L) (Hp.get H) z (some d) op=some (p,v,.trade j b):=by exact rfl) (hp:p:=by (first|(with_reducible exact trivial)|(with_reducible exact u8_range _)|(with_reducible exact sat_range _ _)|omega|(with_reducible assumption)|(with_reducible exact bytesOk_one)|(constructor <;> omega)|(simp only [List.length_map];omega)|(unfold maxLen at *;omega)|(simp <;> omega)|(unfold maxLen;simp <;> omega))) (hv:v=v':=by exact rfl) (hok:opsOkB op=true:=by exact rfl) (hd:Nat.blt d Γ.n=true:=by exact rfl) (hn:distinct (H.map (·.1))=true:=by exact rfl) (hlog:okLog ops i (rdsN (opSV L) op) [j,z] lg=true:=by exact rfl) (hH:delF H j some=some H':=by exact rfl):DT Γ ops κ ((i,⟨some d,op,ty,pos,af,g⟩)::rem) lg Kf L H:=dt_trade hw hz hs hp hv hok hd hn hlog hH hk
theorem z10 {m:Nat} {Q:Next'} (h:Q κ L H) (hn:distinct (H.map (·.1))=true:=by exact rfl) (hj:Nat.ble Γ.J κ=true:=by exact rfl) (hL:Sl.low κ L=true:=by exact rfl) (hH:Hp.low κ H=true:=by exact rfl):DT Γ ops κ [] lg (endK Γ m Q) L H:=dt_nil0 hn hj hL hH h
theorem z11 {m:Nat} {Q:Next'} (h:Q m L H) (hn:distinct (H.map (·.1))=true:=by exact rfl):DT Γ ops κ [] lg (endK Γ m Q) L H:=dt_nil hn h
theorem z12 {op:Op} {ty:TypeId} {pos:String} {af:Array Edge} {g:Option (Nat × Bool)} {d:Nat} (h:DS q Γ ops rest K k ((d,.tup [])::L) H) (hw:wantedSV ops L g=some false:=by exact rfl) (hd:Nat.blt d Γ.n=true:=by exact rfl):DS q Γ ops (⟨some d,op,ty,pos,af,g⟩::rest) K k L H:=ds_skip hw hd h
theorem z14 {i:Nat} {op:Op} {ty:TypeId} {pos:String} {af:Array Edge} {g:Option (Nat × Bool)} {d:Nat} (hk:DT Γ ops κ rem ((i,[],[])::lg) Kf ((d,.tup [])::L) H) (hw:wantedSV ops L g=some false:=by exact rfl) (hd:Nat.blt d Γ.n=true:=by exact rfl) (hlog:okLog ops i [] [] lg=true:=by exact rfl):DT Γ ops κ ((i,⟨some d,op,ty,pos,af,g⟩)::rem) lg Kf L H:=dt_skipD hw hd hlog hk
theorem z16 {id:Nat} {l:List Oper} {Q:Post} (h:DS false Γ l l (Q .normal) k L H) (hn:noDefer l=true:=by exact rfl):DW Γ (.region id l.toArray false) Q k L H:=ds_region hn h
theorem z17 {id i:Nat} {Q:Post} (h:Q .normal k L H) (hb:Nat.beq i id=true:=by exact rfl):inBlockD id Q (.exit i) k L H:=inB_e hb h
theorem z18 {Γ:Ctx} {k:Nat} {L:Sl} {H:Hp} {Q:Post} {c:Operand} {x y:Code} (h:DW Γ x Q k L H) (hc:opSV L c = .d (.bool true):=by exact rfl):DW Γ (.cond c x y) Q k L H:=dw_condT hc h
theorem z19 {Γ:Ctx} {k:Nat} {L:Sl} {H:Hp} {Q:Post} {c:Operand} {x y:Code} (h:DW Γ y Q k L H) (hc:opSV L c = .d (.bool false):=by exact rfl):DW Γ (.cond c x y) Q k L H:=dw_condF hc h
theorem z20 {id m:Nat} {l:List Oper} {Q:Post} (h:DT Γ l k (enumO 0 l) [] (endK Γ m (Q .normal)) L H) (hm:Γ.P.follows .mixedOrders=true:=by kernel_rfl) (hB:regAnyB l=true:=by kernel_rfl) (hnd:noDefer l=true:=by exact rfl) (hl:lenIs l k m:=by exact rfl):DW Γ (.region id l.toArray true) Q k L H:=dw_any hm hB hnd hl h
theorem z21 {f:FuncId} {xs:List Operand} {ts:Array TypeId} {ty:TypeId} {pos:String} {af:Array Edge} {g:Option (Nat × Bool)} {d:Nat} {args:List SV} {r0:SV} (hk:DS false Γ ops rest K k ((d,r0)::L) H) (hw:wantedSV ops L g=some true:=by exact rfl) (ha:opsL L xs=args:=by exact rfl) (hc:FnP Γ.dr Γ.P Γ.τ Γ.τok f args (fun r=>r=r0)) (hok:opsOk xs=true:=by exact rfl) (hlow:SV.lowL 0 args=true:=by (first|exact rfl|assumption)) (hd:Nat.blt d Γ.n=true:=by exact rfl):DS false Γ ops (⟨some d,.call { callee:=.value (.func f),args:=xs.toArray,argTypes:=ts },ty,pos,af,g⟩::rest) K k L H:=ds_call hw ha hc hok hlow hd (by rintro _ rfl;exact hk)
theorem z22 {i:Nat} {f:FuncId} {xs:List Operand} {ts:Array TypeId} {ty:TypeId} {pos:String} {af:Array Edge} {g:Option (Nat × Bool)} {d:Nat} {args:List SV} {r0:SV} (hk:DT Γ ops κ rem ((i,[],[])::lg) Kf ((d,r0)::L) H) (hw:wantedSV ops L g=some true:=by exact rfl) (ha:opsL L xs=args:=by exact rfl) (hc:FnP Γ.dr Γ.P Γ.τ Γ.τok f args (fun r=>r=r0)) (hok:opsOk xs=true:=by exact rfl) (hlow:SV.lowL 0 args=true:=by (first|exact rfl|assumption)) (hd:Nat.blt d Γ.n=true:=by exact rfl) (hlog:okLog ops i [] [] lg=true:=by exact rfl):DT Γ ops κ ((i,⟨some d,.call { callee:=.value (.func f),args:=xs.toArray,argTypes:=ts },ty,pos,af,g⟩)::rem) lg Kf L H:=dt_call hw ha hc hok hlow hd hlog ⟨_,rfl⟩ (by rintro _ rfl;exact hk)
theorem z23 {Γ:Ctx} {k:Nat} {L:Sl} {H:Hp} {Q:Post} {c:Operand} {x y:Code} {p:Prop} {_:Decidable p} (ht:p→DW Γ x Q k L H) (hf:¬ p→DW Γ y Q k L H) (hc:opSV L c = .d (.bool (decide p)):=by exact rfl):DW Γ (.cond c x y) Q k L H:=dw_condP hc ht hf
end
def smallB (c:UInt8):Bool:=decide ((97:Int)≤c.toNat) && decide ((c.toNat:Int)≤122)
def greatB (c:UInt8):Bool:=decide ((65:Int)≤c.toNat) && decide ((c.toNat:Int)≤90)
def digitB (c:UInt8):Bool:=decide ((48:Int)≤c.toNat) && decide ((c.toNat:Int)≤57)
def letterB (c:UInt8):Bool:=smallB c || greatB c
def alnumB (c:UInt8):Bool:=letterB c || digitB c
def takeW (p:UInt8→Bool):List UInt8→Nat
 | []=>0
 | c::l=>if p c then takeW p l + 1 else 0
theorem takeW_le (p:UInt8→Bool):∀ l,takeW p l≤l.length
 | []=>Nat.le_refl _
 | c::l=>by
  unfold takeW
  have:=takeW_le p l
  split <;> simp <;> omega
theorem takeW_step (p:UInt8→Bool) (l:List UInt8) (i:Nat) (h:i < l.length) (hp:p l[i]=true):takeW p (l.drop i)=takeW p (l.drop (i + 1)) + 1:=by
 rw [List.drop_eq_getElem_cons h,takeW,if_pos hp]
theorem takeW_stop (p:UInt8→Bool) (l:List UInt8) (i:Nat) (h:i < l.length) (hp:p l[i]=false):takeW p (l.drop i)=0:=by
 rw [List.drop_eq_getElem_cons h,takeW,if_neg (by rw [hp];exact Bool.false_ne_true)]
theorem takeW_end (p:UInt8→Bool) (l:List UInt8) (i:Nat) (h:l.length≤i):takeW p (l.drop i)=0:=by
 rw [List.drop_of_length_le h];rfl
def signs:List UInt8:=[40,41,44,46,60,61,43,45,42]
def pairB:List UInt8→Bool
 | a::b::_=>(a == 58 && b == 45) || (a == 60 && b == 61) || (a == 33 && b == 61)
 | _=>false
def tokAt:List UInt8→Int × Nat
 | []=>(0,0)
 | c::l=>if letterB c then (if smallB c then 1 else 2,1 + takeW alnumB l)
  else if digitB c then (3,1 + takeW digitB l)
  else if pairB (c::l) then (4,2)
  else if signs.contains c then (4,1)
  else (0,0)
structure Tok where
 kind:Int
 at_:Int
 text:ByteArray
def sameAll {α:Type} (p:α→α→Bool):List α→List α→Bool
 | [],[]=>true
 | x::xs,y::ys=>p x y && sameAll p xs ys
 | _,_=>false
def Tok.same (at_:Bool) (x y:Tok):Bool:=decide (x.kind=y.kind) && decide (x.text=y.text) && (!at_ || decide (x.at_=y.at_))
theorem tokAt_cons (c:UInt8) (l:List UInt8):tokAt (c::l)=(if letterB c then (if smallB c then 1 else 2,1 + takeW alnumB l)
  else if digitB c then (3,1 + takeW digitB l)
  else if pairB (c::l) then (4,2)
  else if signs.contains c then (4,1)
  else (0,0)):=rfl
theorem tokAt_le (l:List UInt8):(tokAt l).2≤l.length:=by
 cases l with
 | nil=>simp [tokAt]
 | cons c l =>
  have h1:=takeW_le alnumB l
  have h2:=takeW_le digitB l
  rw [tokAt_cons]
  by_cases a:letterB c=true
  ·rw [if_pos a];simp only [List.length_cons];omega
  ·rw [if_neg a]
   by_cases b:digitB c=true
   ·rw [if_pos b];simp only [List.length_cons];omega
   ·rw [if_neg b]
    by_cases d:pairB (c::l)=true
    ·rw [if_pos d]
     cases l with
     | nil=>simp [pairB] at d
     | cons b l=>simp
    ·rw [if_neg d]
     by_cases e:signs.contains c=true
     ·rw [if_pos e];simp
     ·rw [if_neg e];simp
theorem tokAt_pos (l:List UInt8) (h:(tokAt l).1≠0):1≤(tokAt l).2:=by
 cases l with
 | nil=>simp [tokAt] at h
 | cons c l =>
  rw [tokAt_cons] at h ⊢
  by_cases a:letterB c=true
  ·rw [if_pos a];simp
  ·rw [if_neg a] at h ⊢
   by_cases b:digitB c=true
   ·rw [if_pos b];simp
   ·rw [if_neg b] at h ⊢
    by_cases d:pairB (c::l)=true
    ·rw [if_pos d];simp
    ·rw [if_neg d] at h ⊢
     by_cases e:signs.contains c=true
     ·rw [if_pos e];simp
     ·rw [if_neg e] at h;simp at h
def tokErr (kind:Int) (n:Nat) (c:UInt8):Int :=
 if kind=0 then 1
 else if ((kind=1∨kind=2)∧12 < n)∨(kind=3∧7 < n) then 2
 else if kind=3∧1 < n∧c=48 then 1
 else 0
def scanGo (s:ByteArray):Nat→Bool→Nat→Except (Int × Int) (List Tok)
 | 0,_,_=>.ok []
 | f + 1,note,i =>
  if h:i < s.size then
   if note || s[i] == 37 then scanGo s f (s[i] != 10) (i + 1)
   else if s[i] == 32 || s[i] == 9 || s[i] == 10 then scanGo s f false (i + 1)
   else
    let q:=tokAt (s.data.toList.drop i)
    if tokErr q.1 q.2 s[i]=0 then (scanGo s f false (i + q.2)).map (Tok.mk q.1 i (s.extract i (i + q.2))::·)
    else .error (i,tokErr q.1 q.2 s[i])
  else .ok []
theorem scanGo_fuel (s:ByteArray):∀ (f g:Nat) (note:Bool) (i:Nat),s.size - i≤f→s.size - i≤g→scanGo s f note i=scanGo s g note i:=by
 intro f
 induction f with
 | zero =>
  intro g note i h1 h2
  cases g with
  | zero=>rfl
  | succ g=>simp only [scanGo];rw [dif_neg (by omega)]
 | succ f ih =>
  intro g note i h1 h2
  cases g with
  | zero=>simp only [scanGo];rw [dif_neg (by omega)]
  | succ g =>
   simp only [scanGo]
   by_cases h:i < s.size
   ·rw [dif_pos h,dif_pos h]
    split
    ·exact ih g _ _ (by omega) (by omega)
    ·split
     ·exact ih g _ _ (by omega) (by omega)
     ·split
      ·rename_i he
       have hk:(tokAt (s.data.toList.drop i)).1≠0:=fun h0=>by simp [tokErr,h0] at he
       have:=tokAt_pos _ hk
       rw [ih g _ _ (by omega) (by omega)]
      ·rfl
   ·rw [dif_neg h,dif_neg h]
def scanAt (s:ByteArray) (note:Bool) (i:Nat):Except (Int × Int) (List Tok):=scanGo s (s.size - i) note i
theorem scanAt_end (s:ByteArray) (note:Bool) (i:Nat) (h:s.size≤i):scanAt s note i = .ok []:=by
 unfold scanAt
 rw [show s.size - i=0 by omega];rfl
theorem scanAt_note (s:ByteArray) (note:Bool) (i:Nat) (h:i < s.size) (hn:(note || s[i] == 37)=true):scanAt s note i=scanAt s (s[i] != 10) (i + 1):=by
 unfold scanAt
 rw [show s.size - i=(s.size - (i + 1)) + 1 by omega,scanGo,dif_pos h,if_pos hn]
theorem scanAt_blank (s:ByteArray) (i:Nat) (h:i < s.size) (hn:(s[i] == 37)=false) (hb:(s[i] == 32 || s[i] == 9 || s[i] == 10)=true):scanAt s false i=scanAt s false (i + 1):=by
 unfold scanAt
 rw [show s.size - i=(s.size - (i + 1)) + 1 by omega,scanGo,dif_pos h,if_neg (by simp [hn]),if_pos hb]
theorem scanAt_err (s:ByteArray) (i:Nat) (h:i < s.size) (hn:(s[i] == 37)=false) (hb:(s[i] == 32 || s[i] == 9 || s[i] == 10)=false) (he:tokErr (tokAt (s.data.toList.drop i)).1 (tokAt (s.data.toList.drop i)).2 s[i]≠0) :
  scanAt s false i = .error (i,tokErr (tokAt (s.data.toList.drop i)).1 (tokAt (s.data.toList.drop i)).2 s[i]):=by
 unfold scanAt
 rw [show s.size - i=(s.size - (i + 1)) + 1 by omega,scanGo,dif_pos h,if_neg (by simp [hn]),if_neg (by simp [hb])]
 exact if_neg he
theorem scanAt_tok (s:ByteArray) (i:Nat) (h:i < s.size) (hn:(s[i] == 37)=false) (hb:(s[i] == 32 || s[i] == 9 || s[i] == 10)=false) (he:tokErr (tokAt (s.data.toList.drop i)).1 (tokAt (s.data.toList.drop i)).2 s[i]=0) :
  scanAt s false i=(scanAt s false (i + (tokAt (s.data.toList.drop i)).2)).map (Tok.mk (tokAt (s.data.toList.drop i)).1 i (s.extract i (i + (tokAt (s.data.toList.drop i)).2))::·):=by
 have hk:(tokAt (s.data.toList.drop i)).1≠0:=fun h0=>by simp [tokErr,h0] at he
 have:=tokAt_pos _ hk
 unfold scanAt
 rw [scanGo_fuel s (s.size - i) ((s.size - (i + 1)) + 1) false i (Nat.le_refl _) (by omega)]
 rw [scanGo,dif_pos h,if_neg (by simp [hn]),if_neg (by simp [hb])]
 show (if _ then _ else _)=_
 rw [if_pos he,scanGo_fuel s (s.size - (i + 1)) (s.size - (i + (tokAt (s.data.toList.drop i)).2)) false _ (by omega) (Nat.le_refl _)]
def scanS (s:ByteArray):List Tok × Int × Int :=
 if 5000 < s.size then ([],0,2) else match scanAt s false 0 with
  | .ok l=>(l,0,0)
  | .error (p,e)=>([],p,e)
attribute [irreducible] smallB greatB digitB letterB alnumB pairB takeW tokAt tokErr scanGo scanAt scanS sameAll Tok.same
def encTok (t:Tok):List D:=[.int .i64 t.kind,.int .i64 t.at_,.str t.text]
def encToks (l:List Tok):D:=.slice 3 (l.map encTok)
abbrev Fn (f:FuncId) (args:List SV) (R:SV→Prop):Prop:=FnP false Tryz.prog tab tab_ok f args R
theorem byteAt (s:ByteArray) (i:Nat) (h:i < s.size):s.data.toList[i]'(by simpa using h)=s[i]'h:=by simp [ByteArray.getElem_eq_getElem_data]
attribute [local irreducible] DW DS DL DQ Ev FnOk FnP thenD inBlockD DT
set_option maxHeartbeats 8000000 in
theorem between_fn (n a b:Int):Fn 28 [.d (.int .i64 n),.d (.int .i64 a),.d (.int .i64 b)] (fun r=>r = .d (.bool (decide (a≤n) && decide (n≤b)))):=by
 refine fnp_enter' _ Tryz.func28 rfl rfl (by kernel_rfl) ?_
 intro O w0 E0 β0
 repeat' (first|refine z0 ?_|refine z12 ?_|apply ds_nil|apply dw_seq2|refine z16 ?_|apply dw_ret|apply thenD_n|((fail_if_success (apply ds_known;exact rfl));apply ds_guardP;exact rfl;exact rfl;exact rfl;all_goals intro hg))
 all_goals exact ret_b rfl (by first|(simp_all;done)|(simp_all;omega))
set_option maxHeartbeats 8000000 in
theorem isSmall_fn (c:UInt8):Fn 61 [.d (.int .u8 (c.toNat:Int))] (fun r=>r = .d (.bool (smallB c))):=by
 refine fnp_enter' _ Tryz.func61 rfl rfl (by kernel_rfl) ?_
 intro O w0 E0 β0
 repeat' (first|refine z0 ?_|apply ds_nil|apply dw_seq2|refine z16 ?_|apply dw_ret|apply thenD_n|refine z21 ?_ (hc:=by apply between_fn)|fail)
 all_goals exact ret_b rfl (by unfold smallB;rfl)
set_option maxHeartbeats 8000000 in
theorem isLetter_fn (c:UInt8):Fn 93 [.d (.int .u8 (c.toNat:Int))] (fun r=>r = .d (.bool (letterB c))):=by
 refine fnp_enter' _ Tryz.func93 rfl rfl (by kernel_rfl) ?_
 intro O w0 E0 β0
 repeat' (first|refine z0 ?_|refine z12 ?_|apply ds_nil|apply dw_seq2|refine z16 ?_|apply dw_ret|apply thenD_n|refine z21 ?_ (hc:=by apply between_fn)|refine z21 ?_ (hc:=by apply isSmall_fn)|((fail_if_success (apply ds_known;exact rfl));apply ds_guardB;exact rfl;exact rfl;exact rfl;all_goals intro hg))
 all_goals exact ret_b rfl (by unfold letterB greatB;rw [hg];rfl)
set_option maxHeartbeats 8000000 in
theorem isDigit_fn (c:UInt8):Fn 94 [.d (.int .u8 (c.toNat:Int))] (fun r=>r = .d (.bool (digitB c))):=by
 refine fnp_enter' _ Tryz.func94 rfl rfl (by kernel_rfl) ?_
 intro O w0 E0 β0
 repeat' (first|refine z0 ?_|apply ds_nil|apply dw_seq2|refine z16 ?_|apply dw_ret|apply thenD_n|refine z21 ?_ (hc:=by apply between_fn)|fail)
 all_goals exact ret_b rfl (by unfold digitB;rfl)
theorem ext2 (s:ByteArray) (i:Nat) (h:i + 1 < s.size):s.extract i (i + 2)=⟨#[s[i],s[i + 1]]⟩:=by
 apply ByteArray.ext
 simp only [ByteArray.data_extract]
 apply Array.toList_inj.1
 rw [Array.toList_extract]
 have hl:s.data.toList.length=s.size:=by simp
 rw [List.extract_eq_take_drop,show i + 2 - i=2 by omega,List.drop_eq_getElem_cons (by omega),List.drop_eq_getElem_cons (by omega),byteAt _ _ (by omega),byteAt _ _ (by omega)]
 rfl
theorem pair_ext (s:ByteArray) (i:Nat) (h:i + 1 < s.size):pairB (s[i]::s.data.toList.drop (i + 1))=(decide (s.extract i (i + 2)=⟨#[58,45]⟩) || decide (s.extract i (i + 2)=⟨#[60,61]⟩) || decide (s.extract i (i + 2)=⟨#[33,61]⟩)):=by
 have hl:s.data.toList.length=s.size:=by simp
 have key:∀ a b c d:UInt8,decide ((⟨#[a,b]⟩:ByteArray)=⟨#[c,d]⟩)=(a == c && b == d):=fun a b c d=>by
  rw [Bool.eq_iff_iff];simp
 rw [ext2 s i h,key,key,key,List.drop_eq_getElem_cons (by omega),byteAt _ _ (by omega),pairB]
theorem signs_step (c:UInt8) (i:Nat) (h:i < (⟨#[40,41,44,46,60,61,43,45,42]⟩:ByteArray).size):(signs.drop i).contains c=(decide ((((⟨#[40,41,44,46,60,61,43,45,42]⟩:ByteArray)[i]'h).toNat:Int)=(c.toNat:Int)) || (signs.drop (i + 1)).contains c):=by
 have h':i < signs.length:=h
 have e:signs[i]=(⟨#[40,41,44,46,60,61,43,45,42]⟩:ByteArray)[i]'h:=byteAt _ i h
 rw [List.drop_eq_getElem_cons h',List.contains_cons,e]
 congr 1
 rw [Bool.eq_iff_iff]
 simp only [beq_iff_eq,decide_eq_true_eq]
 exact⟨fun h=>by rw [h],fun h=>(UInt8.toNat_inj.1 (by omega)).symm⟩
set_option maxHeartbeats 8000000 in
theorem tokenAt_fn (s:ByteArray) (at_:Nat) (hat:at_ < s.size) (hs:s.size≤5000) :
  Fn 59 [.d (.str s),.d (.int .i64 at_)] (fun r=>r = .tup [.d (.int .i64 (tokAt (s.data.toList.drop at_)).1),.d (.int .i64 ((tokAt (s.data.toList.drop at_)).2:Nat))]):=by
 refine fnp_enter' _ Tryz.func59 rfl rfl (by kernel_rfl) ?_
 intro O w0 E0 β0
 repeat' (first|refine z0 ?_|apply ds_nil|apply dw_seq2|refine z16 ?_|apply dw_block|apply thenD_n|refine z21 ?_ (hc:=by apply isLetter_fn)|fail)
 have hl0:s.data.toList.length=s.size:=by simp
 have htok:tokAt (s.data.toList.drop at_)=tokAt (s[at_]::s.data.toList.drop (at_ + 1)):=by
  rw [List.drop_eq_getElem_cons (by omega),byteAt]
 refine dw_cond rfl (fun hl=>?_) (fun hl=>?_)
 ·have hres:tokAt (s.data.toList.drop at_)=(if smallB s[at_] then 1 else 2,1 + takeW alnumB (s.data.toList.drop (at_ + 1))):=by
   rw [htok,tokAt_cons,if_pos hl]
  repeat' (first|apply dw_seq2|apply dw_block)
  refine ds_loop (ι:=Nat) (fun n=>⟨0,[(0,.d (.str s)),(1,.d (.int .i64 at_)),(6,.d (.int .u8 s[at_].toNat)),(7,.d (.int .i64 n))],[]⟩)
   (fun n=>1≤n∧at_ + n≤s.size∧n + takeW alnumB (s.data.toList.drop (at_ + n))=1 + takeW alnumB (s.data.toList.drop (at_ + 1))) (fun n=>s.size - n) 1 ⟨by omega,by omega,rfl⟩
   (ent_ren id ⟨rfl,rfl,rfl,rfl,trivial⟩ trivial rfl rfl rfl rfl rfl rfl) ?_
  rintro n ⟨h1,h2,h3⟩
  have hstep:(h:(at_:Int) + n < s.size)→alnumB (s[at_ + n]'(by omega))=true→n + 1 + takeW alnumB (s.data.toList.drop (at_ + (n + 1)))=1 + takeW alnumB (s.data.toList.drop (at_ + 1)):=fun h hp=>by
   have h4:=takeW_step alnumB s.data.toList (at_ + n) (by omega) (by rw [byteAt _ _ (by omega)];exact hp)
   rw [← Nat.add_assoc at_ n 1];omega
  have hstop:(h:(at_:Int) + n < s.size)→alnumB (s[at_ + n]'(by omega))=false→1 + takeW alnumB (s.data.toList.drop (at_ + 1))=n:=fun h hp=>by
   have h4:=takeW_stop alnumB s.data.toList (at_ + n) (by omega) (by rw [byteAt _ _ (by omega)];exact hp)
   omega
  have hend:¬ (at_:Int) + n < s.size→1 + takeW alnumB (s.data.toList.drop (at_ + 1))=n:=fun h=>by
   have h4:=takeW_end alnumB s.data.toList (at_ + n) (by omega)
   omega
  clear htok
  repeat' (first|refine z0 ?_|refine z12 ?_|apply ds_nil|apply dw_seq2|refine z16 ?_|apply dw_block|apply dw_skip|apply dw_exit|apply dw_ret|refine z18 ?_|refine z19 ?_|apply thenD_n|apply thenD_e|apply thenD_r|apply inB_n|apply inB_r|refine z17 ?_|refine z21 ?_ (hc:=by apply isLetter_fn)|refine z21 ?_ (hc:=by apply isDigit_fn)|refine z21 ?_ (hc:=by apply isSmall_fn)|(apply dw_cond;exact rfl;all_goals intro hg)|((fail_if_success (apply ds_known;exact rfl));apply ds_guardP;exact rfl;exact rfl;exact rfl;all_goals intro hg)|((fail_if_success (apply ds_known;exact rfl));apply ds_guardB;exact rfl;exact rfl;exact rfl;all_goals intro hg))
  all_goals first
   | (refine⟨n + 1,⟨?_,?_,?_⟩,ent_ren id ⟨rfl,rfl,rfl,rfl,trivial⟩ trivial rfl rfl rfl rfl rfl rfl,?_⟩
      ·omega
      ·omega
      ·apply hstep <;> first|assumption|(unfold alnumB;simp [*])
      ·omega)
   | (refine ret_2 rfl ⟨?_,?_⟩
      ·rw [hres,hg];rfl
      ·rw [hres]
       refine congrArg (fun q:Nat=>D.int .i64 (q:Int)) (Eq.symm ?_)
       first
        | (apply hend;assumption)
        | (apply hstop <;> first|assumption|(unfold alnumB;simp [*])))
 ·repeat' (first|refine z0 ?_|apply ds_nil|apply dw_seq2|refine z16 ?_|apply thenD_n|refine z21 ?_ (hc:=by apply isDigit_fn)|fail)
  refine dw_cond rfl (fun hd=>?_) (fun hd=>?_)
  ·have hres:tokAt (s.data.toList.drop at_)=(3,1 + takeW digitB (s.data.toList.drop (at_ + 1))):=by
    rw [htok,tokAt_cons,if_neg (by rw [hl];exact Bool.false_ne_true),if_pos hd]
   repeat' (first|apply dw_seq2|apply dw_block)
   refine ds_loop (ι:=Nat) (fun n=>⟨0,[(0,.d (.str s)),(1,.d (.int .i64 at_)),(6,.d (.int .u8 s[at_].toNat)),(7,.d (.int .i64 n))],[]⟩)
    (fun n=>1≤n∧at_ + n≤s.size∧n + takeW digitB (s.data.toList.drop (at_ + n))=1 + takeW digitB (s.data.toList.drop (at_ + 1))) (fun n=>s.size - n) 1 ⟨by omega,by omega,rfl⟩
    (ent_ren id ⟨rfl,rfl,rfl,rfl,trivial⟩ trivial rfl rfl rfl rfl rfl rfl) ?_
   rintro n ⟨h1,h2,h3⟩
   have hstep:(h:(at_:Int) + n < s.size)→digitB (s[at_ + n]'(by omega))=true→n + 1 + takeW digitB (s.data.toList.drop (at_ + (n + 1)))=1 + takeW digitB (s.data.toList.drop (at_ + 1)):=fun h hp=>by
    have h4:=takeW_step digitB s.data.toList (at_ + n) (by omega) (by rw [byteAt _ _ (by omega)];exact hp)
    rw [← Nat.add_assoc at_ n 1];omega
   have hstop:(h:(at_:Int) + n < s.size)→digitB (s[at_ + n]'(by omega))=false→1 + takeW digitB (s.data.toList.drop (at_ + 1))=n:=fun h hp=>by
    have h4:=takeW_stop digitB s.data.toList (at_ + n) (by omega) (by rw [byteAt _ _ (by omega)];exact hp)
    omega
   have hend:¬ (at_:Int) + n < s.size→1 + takeW digitB (s.data.toList.drop (at_ + 1))=n:=fun h=>by
    have h4:=takeW_end digitB s.data.toList (at_ + n) (by omega)
    omega
   clear htok
   repeat' (first|refine z0 ?_|refine z12 ?_|apply ds_nil|apply dw_seq2|refine z16 ?_|apply dw_block|apply dw_skip|apply dw_exit|apply dw_ret|refine z19 ?_|apply thenD_n|apply thenD_e|apply thenD_r|apply inB_n|apply inB_r|refine z17 ?_|refine z21 ?_ (hc:=by apply isDigit_fn)|(apply dw_cond;exact rfl;all_goals intro hg)|((fail_if_success (apply ds_known;exact rfl));apply ds_guardP;exact rfl;exact rfl;exact rfl;all_goals intro hg))
   all_goals first
    | (refine⟨n + 1,⟨?_,?_,?_⟩,ent_ren id ⟨rfl,rfl,rfl,rfl,trivial⟩ trivial rfl rfl rfl rfl rfl rfl,?_⟩
       ·omega
       ·omega
       ·apply hstep <;> assumption
       ·omega)
    | (refine ret_2 rfl ⟨?_,?_⟩
       ·rw [hres]
       ·rw [hres]
        refine congrArg (fun q:Nat=>D.int .i64 (q:Int)) (Eq.symm ?_)
        first
         | (apply hend;assumption)
         | (apply hstop <;> assumption))
  ·have hres:tokAt (s.data.toList.drop at_)=if pairB (s[at_]::s.data.toList.drop (at_ + 1)) then (4,2) else if signs.contains s[at_] then (4,1) else (0,0):=by
    rw [htok,tokAt_cons,if_neg (by rw [hl];exact Bool.false_ne_true),if_neg (by rw [hd];exact Bool.false_ne_true)]
   repeat' (first|refine z0 ?_|apply ds_nil|apply dw_seq2|refine z16 ?_|apply dw_skip|apply thenD_n|apply inB_n)
   refine dw_condP rfl (fun h2=>?_) (fun h2=>?_)
   ·have hp:=pair_ext s at_ (by omega)
    repeat' (first|refine z0 ?_|refine z12 ?_|apply ds_nil|apply dw_seq2|refine z16 ?_|apply dw_block|apply dw_skip|apply dw_ret|refine z18 ?_|apply thenD_n|apply thenD_r|(refine z23 ?_ ?_ <;> intro hg)|((fail_if_success (apply ds_known;exact rfl));apply ds_guardP;exact rfl;exact rfl;exact rfl;all_goals intro hg))
    all_goals first
     | (refine ret_2 rfl ⟨?_,?_⟩ <;> (rw [hres,hp];simp [*];done))
     | skip
    have hpf:pairB (s[at_]::s.data.toList.drop (at_ + 1))=false:=by rw [hp];simp [*]
    rw [hpf] at hres
    refine ds_loop (ι:=Nat) (fun i=>⟨0,[(6,.d (.int .u8 s[at_].toNat)),(9,.d (.str ⟨#[40,41,44,46,60,61,43,45,42]⟩)),(10,.d (.int .i64 i))],[]⟩)
     (fun i=>i≤9∧signs.contains s[at_]=(signs.drop i).contains s[at_]) (fun i=>9 - i) 0 ⟨by omega,rfl⟩ (ent_ren id ⟨rfl,rfl,rfl,trivial⟩ trivial rfl rfl rfl rfl rfl rfl) ?_
    rintro i ⟨hi,hc⟩
    have hst:=fun h=>signs_step s[at_] i h
    have h9:((⟨#[40,41,44,46,60,61,43,45,42]⟩:ByteArray).size:Int)=9:=rfl
    repeat' (first|refine z0 ?_|apply ds_nil|apply dw_seq2|refine z16 ?_|apply dw_block|apply dw_skip|apply dw_exit|apply dw_ret|apply thenD_n|apply thenD_e|apply thenD_r|apply inB_n|apply inB_r|refine z17 ?_|(refine z23 ?_ ?_ <;> intro hg)|fail)
    all_goals first
     | (refine ret_2 rfl ⟨?_,?_⟩
        ·rw [hres,hc,hst (by rw [← Int.ofNat_lt];assumption),decide_eq_true ‹_›];rfl
        ·rw [hres,hc,hst (by rw [← Int.ofNat_lt];assumption),decide_eq_true ‹_›];rfl)
     | (refine⟨i + 1,⟨?_,?_⟩,ent_ren id ⟨rfl,rfl,rfl,trivial⟩ trivial rfl rfl rfl rfl rfl rfl,?_⟩
        ·omega
        ·rw [hc,hst (by rw [← Int.ofNat_lt];assumption),decide_eq_false ‹_›];rfl
        ·omega)
     | (have hi9:i=9:=by omega
        subst hi9
        refine ret_2 rfl ⟨?_,?_⟩
        ·rw [hres,hc];rfl
        ·rw [hres,hc];rfl)
   ·repeat' (first|refine z0 ?_|apply ds_nil|apply dw_seq2|refine z16 ?_|apply dw_block|apply dw_skip|apply thenD_n)
    have hpf:pairB (s[at_]::s.data.toList.drop (at_ + 1))=false:=by
     rw [List.drop_of_length_le (by omega)];unfold pairB;rfl
    rw [hpf] at hres
    refine ds_loop (ι:=Nat) (fun i=>⟨0,[(6,.d (.int .u8 s[at_].toNat)),(9,.d (.str ⟨#[40,41,44,46,60,61,43,45,42]⟩)),(10,.d (.int .i64 i))],[]⟩)
     (fun i=>i≤9∧signs.contains s[at_]=(signs.drop i).contains s[at_]) (fun i=>9 - i) 0 ⟨by omega,rfl⟩ (ent_ren id ⟨rfl,rfl,rfl,trivial⟩ trivial rfl rfl rfl rfl rfl rfl) ?_
    rintro i ⟨hi,hc⟩
    have hst:=fun h=>signs_step s[at_] i h
    have h9:((⟨#[40,41,44,46,60,61,43,45,42]⟩:ByteArray).size:Int)=9:=rfl
    repeat' (first|refine z0 ?_|apply ds_nil|apply dw_seq2|refine z16 ?_|apply dw_block|apply dw_skip|apply dw_exit|apply dw_ret|apply thenD_n|apply thenD_e|apply thenD_r|apply inB_n|apply inB_r|refine z17 ?_|(refine z23 ?_ ?_ <;> intro hg)|fail)
    all_goals first
     | (refine ret_2 rfl ⟨?_,?_⟩
        ·rw [hres,hc,hst (by rw [← Int.ofNat_lt];assumption),decide_eq_true ‹_›];rfl
        ·rw [hres,hc,hst (by rw [← Int.ofNat_lt];assumption),decide_eq_true ‹_›];rfl)
     | (refine⟨i + 1,⟨?_,?_⟩,ent_ren id ⟨rfl,rfl,rfl,trivial⟩ trivial rfl rfl rfl rfl rfl rfl,?_⟩
        ·omega
        ·rw [hc,hst (by rw [← Int.ofNat_lt];assumption),decide_eq_false ‹_›];rfl
        ·omega)
     | (have hi9:i=9:=by omega
        subst hi9
        refine ret_2 rfl ⟨?_,?_⟩
        ·rw [hres,hc];rfl
        ·rw [hres,hc];rfl)
def isTok (kind:Int) (s:ByteArray):Bool :=
 if h:0 < s.size then
  decide (s.size≤5000) && decide (kind≠0) && decide ((tokAt s.data.toList).1=kind) && decide ((tokAt s.data.toList).2=s.size) && decide (tokErr kind s.size s[0]=0)
 else false
theorem tokErr_eq (kind:Int) (n:Nat) (c:UInt8):tokErr kind n c=if kind=0 then 1 else if ((kind=1∨kind=2)∧12 < n)∨(kind=3∧7 < n) then 2 else if kind=3∧1 < n∧c=48 then 1 else 0:=by
 unfold tokErr;rfl
theorem size_zero (s:ByteArray) (h:s=⟨#[]⟩):s.size=0:=by rw [h];rfl
theorem size_pos (s:ByteArray) (h:¬ s=⟨#[]⟩):0 < s.size:=by
 rcases Nat.eq_zero_or_pos s.size with h0|h0
 ·exact absurd (ByteArray.ext (Array.eq_empty_of_size_eq_zero h0)) h
 ·exact h0
theorem u8i (c d:UInt8):((c.toNat:Int)=(d.toNat:Int))=(c=d):=by
 rw [eq_iff_iff]
 exact⟨fun h=>UInt8.toNat_inj.1 (by omega),fun h=>by rw [h]⟩
theorem u48 (c:UInt8):((c.toNat:Int)=48)=(c=48):=u8i c 48
theorem natc_eq (a b:Nat):((a:Int)=(b:Int))=(a=b):=by rw [eq_iff_iff];omega
theorem natc_lt1 (b:Nat):((1:Int) < (b:Int))=(1 < b):=by rw [eq_iff_iff];omega
theorem natc_lt7 (b:Nat):((7:Int) < (b:Int))=(7 < b):=by rw [eq_iff_iff];omega
theorem natc_lt12 (b:Nat):((12:Int) < (b:Int))=(12 < b):=by rw [eq_iff_iff];omega
set_option maxHeartbeats 8000000 in
theorem isToken_fn (kind:Int) (s:ByteArray):Fn 54 [.d (.int .i64 kind),.d (.str s)] (fun r=>r = .d (.bool (isTok kind s))):=by
 refine fnp_enter' _ Tryz.func54 rfl rfl (by kernel_rfl) ?_
 intro O w0 E0 β0
 repeat' (first|refine z0 ?_|refine z12 ?_|apply ds_nil|apply dw_seq2|refine z16 ?_|apply dw_skip|apply dw_ret|refine z18 ?_|apply thenD_n|apply thenD_r|(refine z23 ?_ ?_ <;> intro hg)|((fail_if_success (apply ds_known;exact rfl));apply ds_guardP;exact rfl;exact rfl;exact rfl;all_goals intro hg))
 all_goals first
  | exact ret_b rfl (by
    unfold isTok
    split
    ·first
      | (simp [*];done)
      | (exfalso
         rw [size_zero s ‹_›] at *
         omega)
      | (have h5:¬ s.size≤5000:=by omega
         simp [h5];done)
    ·rfl)
  | skip
 have h0:=size_pos s ‹_›
 have hT:=tokenAt_fn s 0 h0 (by omega)
 rw [List.drop_zero] at hT
 refine ds_call rfl rfl hT rfl rfl rfl ?_
 rintro _ rfl
 have hsz:s.size≤5000:=by omega
 have hd:isTok kind s=(decide ((tokAt s.data.toList).1=kind) && decide ((tokAt s.data.toList).2=s.size) && decide (tokErr kind s.size s[0]=0)):=by
  unfold isTok;rw [dif_pos h0];simp [*]
 repeat' (first|refine z0 ?_|refine z12 ?_|apply ds_nil|apply dw_seq2|refine z16 ?_|apply dw_ret|apply thenD_n|((fail_if_success (apply ds_known;exact rfl));apply ds_guardP;exact rfl;exact rfl;exact rfl;all_goals intro hg)|((fail_if_success (apply ds_known;exact rfl));apply ds_guardB;exact rfl;exact rfl;exact rfl;all_goals intro hg))
 all_goals first
  | exact ret_b rfl (by
    rw [hd,tokErr_eq]
    try simp only [natc_eq,natc_lt1,natc_lt7,natc_lt12,u48] at *
    first
     | (simp_all;done)
     | (simp_all;omega)
     | (have:¬ 7 < s.size:=by omega
        simp_all;done)
     | (have:¬ 7 < s.size:=by omega
        by_cases h48:s[0]=48 <;> simp_all;done)
     | (have:¬ 7 < s.size:=by omega
        have:¬ 1 < s.size:=by omega
        simp_all;done)
     | (have k3:kind=3:=by omega
        have n7:¬ 7 < s.size:=by omega
        have n1:1 < s.size:=by omega
        rw [decide_eq_true ‹(tokAt s.data.toList).fst=kind›,decide_eq_true ‹(tokAt s.data.toList).snd=s.size›,k3]
        by_cases h48:s[0]=48 <;> simp [h48,n7,n1];done))
end Go.Proofs.YtapciiffpnociabGreatDoor
