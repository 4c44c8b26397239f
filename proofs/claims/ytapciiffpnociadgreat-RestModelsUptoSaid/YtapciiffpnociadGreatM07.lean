/- Several texts in one: GxDo GxCell GxNew. Condition: none. -/
import Derived.Test.YtapciiffpnociadGreatM06
set_option linter.all false
open Array renaming toList_append→C6
open Bool renaming and_eq_true→Ad
open Int renaming toNat_of_nonneg→Az
open List renaming all_append→C9,append_nil→B0,eq_nil_of_length_eq_zero→Bm,length_map→Aa
open Nat renaming beq→Aw,ble→B6,blt→As,eq_of_beq_eq_true→Aj,le_of_ble_eq_true→Ac,le_refl→Af
namespace Go.Proofs.YtapciiffpnociadGreat
section
open Go Go.RowKit
variable [Bnds]
theorem gw (c:UInt8):0<=(c.toNat:Int)/\(c.toNat:Int)<=255:=by have:=c.toNat_lt;omega
theorem hv_chr {c:UInt8}:SV.d (.str ⟨#[UInt8.ofNat (c.toNat:Int).toNat]⟩) = .d (.str ⟨#[c]⟩):=by simp
theorem hv_row {α:Type} {l:List α} {f:α->List D} {n:Int} {j:Nat} (hn:n=(j:Int)) (h:j<(l.map f).length):SV.pd (rj (l.map f) n.toNat) = .pd (f (l[j]'(by simpa using h))):=by
 have h':j<l.length:=by simpa using h
 subst hn;simp [rj,List.getD,h']
theorem za {α:Type} {f:α->List D} {l:List α} {n:Int} {j es:Nat} (hn:n=(j:Int)):SV.d (.slice es (((l.map f).take n.toNat).drop (0:Int).toNat)) = .d (.slice es ((l.take j).map f)):=by subst hn;simp
theorem zb {α:Type} {f:α->List D} {l:List α} {n:Int} {j es:Nat} (hn:n=(j:Int)):SV.d (.slice es (((l.map f).take (((l.map f).length:Nat):Int).toNat).drop n.toNat)) = .d (.slice es ((l.drop j).map f)):=by
 subst hn;have h:(l.map f).take (((l.map f).length:Nat):Int).toNat=l.map f:=List.take_of_length_le (by simp);rw [h,List.map_drop];simp
theorem hv_prow {i es o:Nat} {n:Int} {j:Nat} (hn:n=(j:Int)):SV.prow i n.toNat es o = .prow i j es o:=by subst hn;rfl
theorem hv_ldrow {τ:List (Nat×TI)} {t:TypeId} {o j:Nat} {xs:List (List D)} {ds:List D} {p:Prop} {s:SV} (hg:xs[j]?=some ds) (hs:sp τ t (.pd (ds.drop o)) (λ_=>none)=some (p,s)):loadRow τ t (rj xs j) o=s:=by
 have hr:rj xs j=ds:=by simp [rj,List.getD,hg]
 unfold loadRow;rw [hr,hs]
theorem ig {α:Type} {f:α->List D} {l:List α} {j:Nat} (h:j<(l.map f).length):(l.map f)[j]?=some (f (l[j]'(by simpa using h))):=by
 have h':j<l.length:=by simpa using h
 simp [h']
theorem hv_sat {s:ByteArray} {n:Int} {j:Nat} (hn:n=(j:Int)) (h:j<s.size):SV.d (.int .u8 (sat s n.toNat)) = .d (.int .u8 ((s[j]'h).toNat:Int)):=by
 subst hn;simp [sat_eq h]
theorem hv_ext {s:ByteArray} {n m:Int} {i j:Nat} (hn:n=(i:Int)) (hm:m=(j:Int)):SV.d (.str (s.extract n.toNat m.toNat)) = .d (.str (s.extract i j)):=by
 subst hn;subst hm;rfl
mutual
theorem SV.ren_id:∀ (s:SV),s.ren id=s
 | .junk=>rfl
 | .d _=>rfl
 | .nils=>rfl
 | .pd _=>rfl
 | .loc _ _=>rfl
 | .row _=>rfl
 | .mp _=>rfl
 | .md _ _=>rfl
 | .prow _ _ _ _=>rfl
 | .sl _ _ _ _=>rfl
 | .rsl _ _ _ _=>rfl
 | .rg _ _ _=>rfl
 | .fn f caps=>by simp only [SV.ren,SV.renL_id caps]
 | .agg ss=>by simp only [SV.ren,SV.renL_id ss]
 | .tup ss=>by simp only [SV.ren,SV.renL_id ss]
 | .val _=>rfl
theorem SV.renL_id:∀ (ss:List SV),SV.renL id ss=ss
 | []=>rfl
 | s::ss=>by simp only [SV.renL,SV.ren_id s,SV.renL_id ss]
end
def Kept (J:Nat) (R:Nat->SV->Hp->Prop) (_:Nat) (r:SV) (H:Hp):Prop :=
 ∃ k2 H2,KnowsH id H H2/\Hp.low k2 H2=true/\a7 (H2.map (·.1))=true/\B6 J k2=true/\r.low k2=true/\R k2 r H2
theorem anchorOk_id:∀ J,ld id J=true
 | 0=>rfl
 | J+1=>by simp only [ld,Ad];exact⟨Nat.beq_refl J,anchorOk_id J⟩
theorem fn_enterF {dr:Bool} {P:Program} {τ:List (Nat×TI)} {τok:dc P τ} {f:FuncId} {fn:Func} {c:Code} {args:List SV} {J k:Nat} {H:Hp} {R:Nat->SV->Hp->Prop} (N:Nat) (hf:P.funcs[f]?=some fn) (hb:fn.body=some c)
  (hN:args.length+(fn.ntmps-args.length)=N) (hcall:d9 P f=true)
  (h:∀ (O:Nat->Prop) (w0:World) (E0:Nat->Prop) (β0:Nat->Nat×Value),DW ⟨P,τ,τok,O,w0,E0,N,J,β0,none,cy,true,dr⟩ c (RetQ τ fn.results.toList (Kept J R)) k (nl 0 args) H):FnOk dr P τ τok f args J k H R:=by
 have h2:=fn_enter (J:=J) (k:=k) (H:=H) N hf hb hN hcall (R:=Kept J R) h;refine⟨h2.1,λO e w vs hH hr=>(h2.2 O e w vs hH hr).mono ?_⟩
 rintro en w' ⟨k',r,H',e',v,⟨k2,H2,hK,hl,hd,hj,hrl,hR⟩,rfl,hH',hrel⟩;obtain⟨g1,g2⟩:=hH'.ren id k2 H2 hK hl hd hd hj (anchorOk_id J);exact⟨k2,r,H2,e'.ren id k2,v,hR,rfl,g1,Rel.keep (Af _) (λ_ _ _=>rfl) (λb _ hy=>g2 b hy) _ _ (Rel.ren id k2 r v hrl ((SV.ren_id r).symm▸hrel))⟩
section
variable {Γ : Ctx} {k κ : Nat} {L : Sl} {H : Hp} {K : ca} {ops : List Oper} {rest : List Oper} {q : Bool}
theorem ds_evC {d:Nat} {op:Op} {ty:TypeId} {pos:String} {af:Array Edge} {g:Option (Nat×Bool)} {p:Prop} {s s':SV} (he:evC Γ.τ (ai L) (Hp.get H) op=some (p,s)) (hp:p) (hv:s=s') (hok:bt op=true)
  (hw:aq ops L g=some true) (hd:As d Γ.n=true) (hk:DS q Γ ops rest K k ((d,s')::L) H):DS q Γ ops (⟨some d,op,ty,pos,af,g⟩::rest) K k L H:=by
 subst hv;exact jo (evC_sound he hp hok) hw hd hk
def setF:Hp->Nat->HB->(Hp->Option Hp)->Option Hp
 | [],_,_,k=>k []
 | (d,s)::H,i,b,k=>match Aw d i with
  | true=>k ((d,b)::H)
  | false=>setF H i b λH'=>k ((d,s)::H')
theorem oo (i:Nat) (b:HB):∀ (H:Hp) (k:Hp->Option Hp),setF H i b k=k (Hp.set H i b)
 | [],_=>rfl
 | (d,s)::H,k=>by
  simp only [setF,Hp.set]
  cases h:Aw d i with
  | true=>rfl
  | false=>simp only [oo i b H]
def delF:Hp->Nat->(Hp->Option Hp)->Option Hp
 | [],_,k=>k []
 | (d,s)::H,i,k=>match Aw d i with
  | true=>k H
  | false=>delF H i λH'=>k ((d,s)::H')
theorem pt (i:Nat):∀ (H:Hp) (k:Hp->Option Hp),delF H i k=k (Hp.del H i)
 | [],_=>rfl
 | (d,s)::H,k=>by
  simp only [delF,Hp.del]
  cases h:Aw d i with
  | true=>rfl
  | false=>simp only [pt i H]
theorem ds_newC {d:Nat} {op:Op} {ty:TypeId} {pos:String} {af:Array Edge} {g:Option (Nat×Bool)} {p:Prop} {s:SV} {b:HB} (he:mc Γ.τ (ai L) (Hp.get H) k op=some (p,s,.new b)) (hp:p) (hok:bt op=true)
  (hw:aq ops L g=some true) (hd:As d Γ.n=true) (hk:DS false Γ ops rest K (k+1) ((d,s)::L) ((k,b)::H)):DS false Γ ops (⟨some d,op,ty,pos,af,g⟩::rest) K k L H :=
 dl_op hw ((vz he hp trivial hok hd (jf k)).cast (gv k)) hk
theorem ds_tradeC [NoDr Γ] {d j:Nat} {op:Op} {ty:TypeId} {pos:String} {af:Array Edge} {g:Option (Nat×Bool)} {p:Prop} {s:SV} {b:HB} {H':Hp} (he:mc Γ.τ (ai L) (Hp.get H) k op=some (p,s,.trade j b)) (hp:p) (hok:bt op=true)
  (hw:aq ops L g=some true) (hd:As d Γ.n=true) (hH:delF H j some=some H') (hk:DS false Γ ops rest K (k+1) ((d,s)::L) ((k,b)::H')):DS false Γ ops (⟨some d,op,ty,pos,af,g⟩::rest) K k L H:=by
 rw [pt] at hH;cases hH;exact dl_op hw ((vz he hp (NoDr.no (Γ:=Γ)) hok hd (jf k)).cast (gv k)) hk
theorem store_sound {te ty:TypeId} {x y:Operand} {pos:String} {af:Array Edge} {g:Option (Nat×Bool)} {s:SV} {j:Nat} {b:HB} {D:Nat->Prop} (h:qf Γ.τ te (ai L x) (ai L y) (Hp.get H)=some (True,s,.set j b)) (hok:de y=true) :
  OpOk Γ ⟨none,.store te x y,ty,pos,af,g⟩ D L H D L (Hp.set H j b):=by
 simp only [qf,fj] at h;split at h
 ·rename_i i o hx;split at h
  ·rename_i tb cs hH;split at h
   ·rename_i hc;simp only [Option.some.injEq,Prod.mk.injEq,Up.set.injEq] at h;obtain⟨_,_,rfl,rfl⟩:=h;simp only [Ad] at hc;exact op_store hx hH rfl hok hc.1 hc.2.1 hc.2.2.1 hc.2.2.2
   ·cases h
  ·cases h
 ·rename_i i j es o hx;split at h
  ·rename_i tb es' xs hH;split at h
   ·rename_i x hy;split at h
    ·rename_i hc;simp only [Option.some.injEq,Prod.mk.injEq,Up.set.injEq] at h;obtain⟨hp,_,rfl,rfl⟩:=h;have hp:=of_eq_true hp;simp only [Ad] at hc;obtain⟨c1,c2,c3,c4,c5⟩:=hc;have e3:=Aj c3;have e4:=Aj c4;have e5:=Aj c5;have e2:=Aj c2;subst e3;subst e5;rw [e4] at hH;have hone:xs[j].length=1:=hp.2 _ (List.getElem_mem hp.1);have hsp:gx xs[j] 0 [x]=[x]:=by
      unfold gx;match hx1:xs[j],hone with
      | [u],_=>rfl
     have:=op_storeP (k:=D) (te:=te) (pos:=pos) (af:=af) (g:=g) (ty:=ty) (new:=[x]) hx hH hp.1 hy hok rfl c1 (by rw [show Γ.cells te=1 from e2];rfl) rfl
     rw [hsp] at this;exact this
    ·cases h
   ·cases h
  ·cases h
 ·cases h
theorem ds_setC {te ty:TypeId} {x y:Operand} {pos:String} {af:Array Edge} {g:Option (Nat×Bool)} {s:SV} {j:Nat} {b:HB} {H':Hp} (he:qf Γ.τ te (ai L x) (ai L y) (Hp.get H)=some (True,s,.set j b)) (hok:de y=true)
  (hw:aq ops L g=some true) (hH:setF H j b some=some H') (hk:DS false Γ ops rest K k L H'):DS false Γ ops (⟨none,.store te x y,ty,pos,af,g⟩::rest) K k L H:=by
 rw [oo] at hH;cases hH;exact dl_op hw (store_sound he hok) hk
theorem ds_bsC {d:Nat} {t len:Nat} {ty:TypeId} {pos:String} {af:Array Edge} {g:Option (Nat×Bool)} {ps:Array (Nat×Operand)} {p:Prop} {s:SV} (he:du Γ.τ (ai L) t len ps.toList=some (p,s,.no)) (hok:bt (.buildSlice t len ps)=true)
  (hw:aq ops L g=some true) (hd:As d Γ.n=true) (hk:DS false Γ ops rest K k ((d,s)::L) H):DS false Γ ops (⟨some d,.buildSlice t len ps,ty,pos,af,g⟩::rest) K k L H :=
 dl_op hw (bs_sound he hok hd) hk
mutual
theorem Rel.lower {X e w} (k:Nat):∀ (s:SV) (v:Value),s.low k=true->Rel X e w s v->Rel X ⟨e.β,e.η,lo k⟩ w s v
 | .junk,_,_,_=>trivial
 | .d _,_,_,h=>h
 | .nils,_,_,h=>h
 | .pd _,_,_,h=>h
 | .loc _ _,_,hb,h=>⟨Ac hb,h.2⟩
 | .row _,_,hb,h=>⟨Ac hb,h.2⟩
 | .mp _,_,hb,h=>⟨Ac hb,h.2⟩
 | .md _ _,_,_,h=>h
 | .prow _ _ _ _,_,hb,h=>⟨Ac hb,h.2⟩
 | .sl _ _ _ _,_,hb,h=>⟨Ac hb,h.2⟩
 | .rsl _ _ _ _,_,hb,h=>⟨Ac hb,h.2⟩
 | .rg _ _ _,_,_,h=>h
 | .fn _ caps,_,hb,⟨vs,h1,h2⟩=>⟨vs,h1,RelL.lower k caps vs hb h2⟩
 | .agg ss,_,hb,⟨vs,h1,h2⟩=>⟨vs,h1,RelL.lower k ss vs hb h2⟩
 | .tup ss,_,hb,⟨vs,h1,h2⟩=>⟨vs,h1,RelL.lower k ss vs hb h2⟩
 | .val _,_,_,h=>h
theorem RelL.lower {X e w} (k:Nat):∀ (ss:List SV) (vs:List Value),SV.lowL k ss=true->RelL X e w ss vs->RelL X ⟨e.β,e.η,lo k⟩ w ss vs
 | [],[],_,_=>trivial
 | [],_::_,_,h=>h.elim
 | _::_,[],_,h=>h.elim
 | s::ss,v::vs,hb,h=>by
  simp only [SV.lowL,Ad] at hb
  exact⟨Rel.lower k s v hb.1 h.1,RelL.lower k ss vs hb.2 h.2⟩
end
theorem Sl.low_get {k:Nat}:∀ (L:Sl),Sl.low k L=true->∀ t,(Sl.get L t).low k=true
 | [],_,_=>rfl
 | (d,s)::L,h,t=>by
  simp only [Sl.low,Ad] at h
  rw [Sl.get_cons]
  split
  ·exact h.1
  ·exact Sl.low_get L h.2 t
theorem Models.lower {k':Nat->Prop} {e:Env} {a:Act} {w:World} (m:Models Γ k' L H e a w) (k:Nat) (hL:Sl.low k L=true) (hH:Hp.low k H=true) (hj:B6 Γ.J k=true):Models Γ k L H ⟨e.β,e.η,lo k⟩ a w:=by
 have hlow:=Hp.low_spec H hH;have hol:ae ⟨e.β,e.η,lo k⟩ H=ae e H:=rfl;refine⟨⟨λ_=>Iff.rfl,λp hp=>⟨(hlow p hp).1,?_⟩,m.ids,m.nodup,m.mine,m.os,m.tape,m.output,m.drawn,m.size,m.block,m.obound,m.tabs,λj hjl=>Nat.lt_of_lt_of_le hjl (Ac hj),m.anchor⟩,m.defers,m.len,λt=>Rel.lower k _ _ (Sl.low_get L hL t) (m.slot t)⟩
 have h:=(m.heap p hp).2;have hl:=(hlow p hp).2;obtain⟨i,b⟩:=p;cases b with
 | blk ty cs =>
  obtain⟨vs,h1,h2,h3⟩:=h;exact⟨vs,h1,RelL.lower k cs vs hl h2,h3⟩
 | row ty es xs=>exact h
 | map kd kvs=>exact h
def HB.force (b:HB) (k:HB->Prop):Prop:=match b with
 | .blk ty cs=>qx cs λcs'=>k (.blk ty cs')
 | .row ty es xs=>k (.row ty es xs)
 | .map kd kvs=>k (.map kd kvs)
theorem HB.force_eq (b:HB) (k:HB->Prop):b.force k=k b:=by cases b<;>simp [HB.force,fj]
def forceHp:Hp->(Hp->Prop)->Prop
 | [],k=>k []
 | (i,b)::r,k=>b.force λb'=>forceHp r λr'=>k ((i,b')::r')
theorem forceHp_eq:∀ (H:Hp) (k:Hp->Prop),forceHp H k=k H
 | [],_=>rfl
 | (i,b)::r,k=>by simp only [forceHp,HB.force_eq,forceHp_eq r]
def zo (q:Bool) (Γ:Ctx) (ops rest:List Oper) (K:ca) (k m d:Nat) (r:SV) (L:Sl) (H:Hp):Prop :=
 pq r λr'=>forceHp H λH'=>match Sl.low k L && (SV.low k r' && (Hp.low k H' && B6 Γ.J k)) with
  | true=>DS q Γ ops rest K k ((d,r')::L) H'
  | false=>DS q Γ ops rest K m ((d,r')::L) H'
theorem after_call {m d:Nat} {r:SV} (h:zo false Γ ops rest K k m d r L H):DS false Γ ops rest K m ((d,r)::L) H:=by
 unfold zo at h;rw [ka,forceHp_eq] at h;split at h
 ·rename_i hc;simp only [Ad] at hc;intro e a w mm;exact h _ a w (mm.lower k (by simp only [Sl.low,Ad];exact⟨hc.2.1,hc.1⟩) hc.2.2.1 hc.2.2.2)
 ·exact h
theorem bk {f:FuncId} {xs:List Operand} {ts:Array TypeId} {ty:TypeId} {pos:String} {af:Array Edge} {g:Option (Nat×Bool)} {d:Nat} {args:List SV} {J kc:Nat} {Hc:Hp} {R:Nat->SV->Hp->Prop} (ρ:Nat->Nat)
  (hc:FnOk Γ.dr Γ.P Γ.τ Γ.τok f args J kc Hc R) (hw:aq ops L g=some true) (ha:mz L xs=SV.renL ρ args) (hok:dy xs=true) (hlA:SV.lowL kc args=true) (hKH:KnowsH ρ H Hc) (hl:Hp.low kc Hc=true)
  (hd:a7 (Hc.map λp=>ρ p.1)=true) (hd':a7 (Hc.map (·.1))=true) (hJ:B6 J kc=true) (hall:yg J (Hc.map (·.1))=true) (hdn:As d Γ.n=true)
  (hRr:∀ k2 r H2,R k2 r H2->r.rowsGe J=true/\Hp.rowsGe J H2=true)
  (hk:∀ k2 r H2,R k2 r H2->zo false Γ ops rest K k (k+k2) d (r.ren (sig ρ J k)) L ((H2.map λp=>(sig ρ J k p.1,p.2.ren (sig ρ J k)))++ph H (Hc.map λp=>ρ p.1))) :
  DS false Γ ops (⟨some d,.call { callee:=.value (.func f),args:=xs.toArray,argTypes:=ts },ty,pos,af,g⟩::rest) K k L H :=
 ds_callO ρ hc hw ha hok hlA hKH hl hd hd' hJ hall hdn hRr λk2 r H2 h=>after_call (hk k2 r H2 h)
theorem qa {f:FuncId} {x:Operand} {caps:List SV} {xs:List Operand} {ts:Array TypeId} {ty:TypeId} {pos:String} {af:Array Edge} {g:Option (Nat×Bool)} {d:Nat} {args:List SV} {J kc:Nat} {Hc:Hp} {R:Nat->SV->Hp->Prop} (ρ:Nat->Nat)
  (hc:FnOk Γ.dr Γ.P Γ.τ Γ.τok f args J kc Hc R) (hx:ai L x = .fn f caps) (hxo:de x=true) (hw:aq ops L g=some true) (ha:mz L xs++caps=SV.renL ρ args) (hok:dy xs=true) (hlA:SV.lowL kc args=true) (hKH:KnowsH ρ H Hc) (hl:Hp.low kc Hc=true)
  (hd:a7 (Hc.map λp=>ρ p.1)=true) (hd':a7 (Hc.map (·.1))=true) (hJ:B6 J kc=true) (hall:yg J (Hc.map (·.1))=true) (hdn:As d Γ.n=true)
  (hRr:∀ k2 r H2,R k2 r H2->r.rowsGe J=true/\Hp.rowsGe J H2=true)
  (hk:∀ k2 r H2,R k2 r H2->zo false Γ ops rest K k (k+k2) d (r.ren (sig ρ J k)) L ((H2.map λp=>(sig ρ J k p.1,p.2.ren (sig ρ J k)))++ph H (Hc.map λp=>ρ p.1))) :
  DS false Γ ops (⟨some d,.call { callee:=.value x,args:=xs.toArray,argTypes:=ts },ty,pos,af,g⟩::rest) K k L H :=
 ds_callVO ρ hc hx hxo hw ha hok hlA hKH hl hd hd' hJ hall hdn hRr λk2 r H2 h=>after_call (hk k2 r H2 h)
theorem jw {k':Nat} {L':Sl} {H':Hp} (he:Ent Γ k L H k' L' H') (h:DS false Γ ops rest K k' L' H'):DS false Γ ops rest K k L H:=λe a w m =>
 let ⟨e',m'⟩:=he e a w m
 h e' a w m'
def DT (Γ:Ctx) (ops:List Oper) (κ:Nat) (rest:List (Nat×Oper)) (lg:Log) (K:FS->Prop) (L:Sl) (H:Hp):Prop:=DR Γ ops κ rest lg K (ofL L H)
variable {rem : List (Nat×Oper)} {lg : Log} {Kf : FS -> Prop}
def lenIs:List Oper->Nat->Nat->Prop
 | [],k,m=>k=m
 | _::l,k,m=>lenIs l (k+1) m
theorem n8:∀ (l:List Oper) (k m:Nat),lenIs l k m->k+l.length=m
 | [],_,_,h=>h
 | _::l,k,m,h=>by have:=n8 l (k+1) m h;simp only [List.length_cons];omega
theorem dw_any {id m:Nat} {l:List Oper} {Q:d6} (hm:Γ.P.follows .mixedOrders=true) (hB:jx l=true) (hnd:dd l=true) (hl:lenIs l k m) (h:DT Γ l k (bu 0 l) [] (xz Γ m (Q .normal)) L H):DW Γ (.region id l.toArray true) Q k L H :=
 dw_region_any hm hB hnd (n8 l k m hl▸h)
theorem dt_nil {m:Nat} {Q:ca} (hn:a7 (H.map (·.1))=true) (h:Q m L H):DT Γ ops κ [] lg (xz Γ m Q) L H:=by
 refine .nil λe a w hr=>?_
 obtain⟨L2,H2,m2,hs⟩:=hr;have h1:∀ t,Sl.get L2 t=Sl.get L t:=λt=>congrFun (congrArg FS.ℓ hs) t
 have h2:∀ i,Hp.get H2 i=Hp.get H i:=λi=>congrFun (congrArg FS.η hs) i
 exact⟨m,L,H,e,m2.same h1 h2 (eh _ hn),h⟩
theorem dt_nil0 {m:Nat} {Q:ca} (hn:a7 (H.map (·.1))=true) (hj:B6 Γ.J κ=true) (hL:Sl.low κ L=true) (hH:Hp.low κ H=true) (h:Q κ L H):DT Γ ops κ [] lg (xz Γ m Q) L H:=by
 refine .nil λe a w hr=>?_
 obtain⟨L2,H2,m2,hs⟩:=hr;have h1:∀ t,Sl.get L2 t=Sl.get L t:=λt=>congrFun (congrArg FS.ℓ hs) t
 have h2:∀ i,Hp.get H2 i=Hp.get H i:=λi=>congrFun (congrArg FS.η hs) i
 exact⟨κ,L,H,_,(m2.same h1 h2 (eh _ hn)).lower κ hL hH hj,h⟩
theorem dt_skip {i:Nat} {op:Op} {ty:TypeId} {pos:String} {af:Array Edge} {g:Option (Nat×Bool)} {dst:Option Nat} (hw:aq ops L g=some false) (hd:dstOk Γ dst=true) (hlog:fz ops i [] [] lg=true)
  (hk:DT Γ ops κ rem ((i,[],[])::lg) Kf (putL dst (.tup []) L) H):DT Γ ops κ ((i,⟨dst,op,ty,pos,af,g⟩)::rem) lg Kf L H:=by
 refine .cons false _ [] [] (.skip ((j3 ops L g).trans hw) hd) hlog ⟨_,_,rfl,rfl⟩ (λv u hv=>by rw [hv.2];rfl) λv u hv=>?_
 rw [hv.1,hv.2];have:(ofL L H).app (κ+i) dst (.tup []) .no=ofL (putL dst (.tup []) L) H:=by rw [<- li];cases dst<;>rfl
 show DR Γ ops κ rem _ Kf ((ofL L H).app (κ+i) dst (.tup []) .no);rw [this];exact hk
theorem dt_step {i:Nat} {op:Op} {ty:TypeId} {pos:String} {af:Array Edge} {g:Option (Nat×Bool)} {dst:Option Nat} {p:Prop} {v v':SV} {u:Up} (hw:aq ops L g=some true)
  (hs:ir Γ.τ (ai L) (Hp.get H) (κ+i) dst op=some (p,v,u)) (hp:p) (hu:u.okD Γ.dr) (hv:v=v') (hok:bt op=true) (hd:dstOk Γ dst=true) (hn:a7 (H.map (·.1))=true)
  (hlog:fz ops i (kz (ai L) op) (u.names (κ+i)) lg=true) (hk:DT Γ ops κ rem ((i,kz (ai L) op,u.names (κ+i))::lg) Kf (putL dst v' L) (u.appL (κ+i) H)) :
  DT Γ ops κ ((i,⟨dst,op,ty,pos,af,g⟩)::rem) lg Kf L H:=by
 subst hv;have hs':ir Γ.τ (ofL L H).op (ofL L H).η (κ+i) dst op=some (p,v,u):=by rw [j6];exact hs
 have hr:kz (ofL L H).op op=kz (ai L) op:=by rw [j6]
 refine .cons false _ _ _ (.step p v u ((j3 ops L g).trans hw) hs' hp hu hok hd) (by rw [hr];exact hlog) ⟨v,u,rfl,rfl⟩ (λv u hv=>by rw [hv.2]) λv' u' hv=>?_
 rw [hv.1,hv.2];show DR Γ ops κ rem ((i,kz (ofL L H).op op,u.names (κ+i))::lg) Kf ((ofL L H).app (κ+i) dst v u);rw [hr,<- appL_get (eh _ hn) hs];exact hk
theorem dt_skipD {i:Nat} {op:Op} {ty:TypeId} {pos:String} {af:Array Edge} {g:Option (Nat×Bool)} {d:Nat} (hw:aq ops L g=some false) (hd:As d Γ.n=true) (hlog:fz ops i [] [] lg=true)
  (hk:DT Γ ops κ rem ((i,[],[])::lg) Kf ((d,.tup [])::L) H):DT Γ ops κ ((i,⟨some d,op,ty,pos,af,g⟩)::rem) lg Kf L H:=dt_skip (dst:=some d) hw hd hlog hk
theorem c6 {i:Nat} {op:Op} {ty:TypeId} {pos:String} {af:Array Edge} {g:Option (Nat×Bool)} {d:Nat} {p:Prop} {v v':SV} (hw:aq ops L g=some true)
  (hs:ir Γ.τ (ai L) (Hp.get H) (κ+i) (some d) op=some (p,v,.no)) (hp:p) (hv:v=v') (hok:bt op=true) (hd:As d Γ.n=true) (hn:a7 (H.map (·.1))=true)
  (hlog:fz ops i (kz (ai L) op) [] lg=true) (hk:DT Γ ops κ rem ((i,kz (ai L) op,[])::lg) Kf ((d,v')::L) H) :
  DT Γ ops κ ((i,⟨some d,op,ty,pos,af,g⟩)::rem) lg Kf L H:=dt_step hw hs hp trivial hv hok hd hn hlog hk
theorem dt_new {i z:Nat} {op:Op} {ty:TypeId} {pos:String} {af:Array Edge} {g:Option (Nat×Bool)} {d:Nat} {p:Prop} {v v':SV} {b:HB} (hw:aq ops L g=some true) (hz:κ+i=z)
  (hs:ir Γ.τ (ai L) (Hp.get H) z (some d) op=some (p,v,.new b)) (hp:p) (hv:v=v') (hok:bt op=true) (hd:As d Γ.n=true) (hn:a7 (H.map (·.1))=true)
  (hlog:fz ops i (kz (ai L) op) [z] lg=true) (hk:DT Γ ops κ rem ((i,kz (ai L) op,[z])::lg) Kf ((d,v')::L) ((z,b)::H)) :
  DT Γ ops κ ((i,⟨some d,op,ty,pos,af,g⟩)::rem) lg Kf L H:=by subst hz;exact dt_step hw hs hp trivial hv hok hd hn hlog hk
theorem dt_set {i j:Nat} {op:Op} {ty:TypeId} {pos:String} {af:Array Edge} {g:Option (Nat×Bool)} {p:Prop} {v:SV} {b:HB} {H':Hp} (hw:aq ops L g=some true)
  (hs:ir Γ.τ (ai L) (Hp.get H) (κ+i) none op=some (p,v,.set j b)) (hp:p) (hok:bt op=true) (hn:a7 (H.map (·.1))=true) (hH:setF H j b some=some H')
  (hlog:fz ops i (kz (ai L) op) [j] lg=true) (hk:DT Γ ops κ rem ((i,kz (ai L) op,[j])::lg) Kf L H') :
  DT Γ ops κ ((i,⟨none,op,ty,pos,af,g⟩)::rem) lg Kf L H:=by rw [oo] at hH;cases hH;exact dt_step (dst:=none) (v':=v) hw hs hp trivial rfl hok rfl hn hlog hk
theorem dt_del {i j:Nat} {op:Op} {ty:TypeId} {pos:String} {af:Array Edge} {g:Option (Nat×Bool)} {d:Nat} {p:Prop} {v v':SV} (hw:aq ops L g=some true)
  (hs:ir Γ.τ (ai L) (Hp.get H) (κ+i) (some d) op=some (p,v,.del j)) (hp:p) (hv:v=v') (hok:bt op=true) (hd:As d Γ.n=true) (hn:a7 (H.map (·.1))=true)
  (hlog:fz ops i (kz (ai L) op) [j] lg=true) {H':Hp} (hH:delF H j some=some H') (hk:DT Γ ops κ rem ((i,kz (ai L) op,[j])::lg) Kf ((d,v')::L) H') :
  DT Γ ops κ ((i,⟨some d,op,ty,pos,af,g⟩)::rem) lg Kf L H:=by rw [pt] at hH;cases hH;exact dt_step hw hs hp trivial hv hok hd hn hlog hk
theorem dt_trade [NoDr Γ] {i j z:Nat} {op:Op} {ty:TypeId} {pos:String} {af:Array Edge} {g:Option (Nat×Bool)} {d:Nat} {p:Prop} {v v':SV} {b:HB} (hw:aq ops L g=some true) (hz:κ+i=z)
  (hs:ir Γ.τ (ai L) (Hp.get H) z (some d) op=some (p,v,.trade j b)) (hp:p) (hv:v=v') (hok:bt op=true) (hd:As d Γ.n=true) (hn:a7 (H.map (·.1))=true)
  (hlog:fz ops i (kz (ai L) op) [j,z] lg=true) {H':Hp} (hH:delF H j some=some H') (hk:DT Γ ops κ rem ((i,kz (ai L) op,[j,z])::lg) Kf ((d,v')::L) ((z,b)::H')) :
  DT Γ ops κ ((i,⟨some d,op,ty,pos,af,g⟩)::rem) lg Kf L H:=by rw [pt] at hH;cases hH;subst hz;exact dt_step hw hs hp (NoDr.no (Γ:=Γ)) hv hok hd hn hlog hk
theorem dt_call {i:Nat} {f:FuncId} {xs:List Operand} {ts:Array TypeId} {ty:TypeId} {pos:String} {af:Array Edge} {g:Option (Nat×Bool)} {d:Nat} {args:List SV} {R:SV->Prop} (hw:aq ops L g=some true)
  (ha:mz L xs=args) (hc:FnP Γ.dr Γ.P Γ.τ Γ.τok f args R) (hok:dy xs=true) (hlow:SV.lowL 0 args=true) (hd:As d Γ.n=true) (hlog:fz ops i [] [] lg=true) (hne:∃ r,R r)
  (hk:∀ r,R r->DT Γ ops κ rem ((i,[],[])::lg) Kf ((d,r)::L) H) :
  DT Γ ops κ ((i,⟨some d,.call { callee:=.value (.func f),args:=xs.toArray,argTypes:=ts },ty,pos,af,g⟩)::rem) lg Kf L H:=by
 have e1:xs.map (ofL L H).op++[]=args:=by rw [j6,B0,<- j5,ha]
 have hok':bt (.call { callee:=.value (.func f),args:=xs.toArray,argTypes:=ts })=true:=by
  unfold bt;simp only [Op.operands,Call.operands,C6,C9,Ad];refine⟨rfl,?_⟩
  have:∀ (xs:List Operand),dy xs=true->xs.all de=true:=by
   intro xs;induction xs with
   | nil=>intro _;rfl
   | cons x xs ih=>intro h;simp only [dy,Ad] at h;simp [h.1,ih h.2]
  exact this xs hok
 refine .cons true _ [] [] (.call d f (.func f) [] xs ts R ((j3 ops L g).trans hw) rfl rfl rfl (e1▸hc) (e1▸hlow) hok' hd) hlog (hne.imp λr h=>⟨.no,h,rfl⟩) (λv u hv=>by rw [hv.2];rfl) λv u hv=>?_
 rw [hv.2];have:(ofL L H).app (κ+i) (some d) v .no=ofL ((d,v)::L) H:=(li L H (some d) v)
 show DR Γ ops κ rem _ Kf ((ofL L H).app (κ+i) (some d) v .no);rw [this];exact hk v hv.1
theorem dt_callW {i:Nat} {f:FuncId} {xs:List Operand} {ts:Array TypeId} {ty:TypeId} {pos:String} {af:Array Edge} {g:Option (Nat×Bool)} {d:Nat} {args:List SV} {te:TypeId} {es:Nat} {R:List (List D)->Prop} (hw:aq ops L g=some true)
  (ha:mz L xs=args) (hc:FnRow Γ.dr Γ.P Γ.τ Γ.τok f args te es R) (hok:dy xs=true) (hlow:SV.lowL 0 args=true) (hd:As d Γ.n=true) (hlog:fz ops i [] [κ+i] lg=true) (hne:∃ ys,R ys)
  (hk:∀ ys,R ys->DT Γ ops κ rem ((i,[],[κ+i])::lg) Kf ((d,.row (κ+i))::L) ((κ+i,.row te es ys)::H)) :
  DT Γ ops κ ((i,⟨some d,.call { callee:=.value (.func f),args:=xs.toArray,argTypes:=ts },ty,pos,af,g⟩)::rem) lg Kf L H:=by
 have e1:xs.map (ofL L H).op++[]=args:=by rw [j6,B0,<- j5,ha]
 have hok':bt (.call { callee:=.value (.func f),args:=xs.toArray,argTypes:=ts })=true:=by
  unfold bt;simp only [Op.operands,Call.operands,C6,C9,Ad];refine⟨rfl,?_⟩
  have:∀ (xs:List Operand),dy xs=true->xs.all de=true:=by
   intro xs;induction xs with
   | nil=>intro _;rfl
   | cons x xs ih=>intro h;simp only [dy,Ad] at h;simp [h.1,ih h.2]
  exact this xs hok
 refine .cons true _ [] [κ+i] (.callW d f (.func f) [] xs ts te es R ((j3 ops L g).trans hw) rfl rfl rfl (e1▸hc) (e1▸hlow) hok' hd) hlog (by obtain⟨ys,h⟩:=hne;exact⟨_,_,ys,h,rfl,rfl⟩) (λv u hv=>by obtain⟨ys,_,_,h⟩:=hv;rw [h];rfl) λv u hv=>?_
 obtain⟨ys,hR,rfl,rfl⟩:=hv;show DR Γ ops κ rem _ Kf ((ofL L H).app (κ+i) (some d) (.row (κ+i)) (.new (.row te es ys)));rw [<- ofL_new];exact hk ys hR
theorem pb {i:Nat} {f:FuncId} {x:Operand} {caps:List SV} {xs:List Operand} {ts:Array TypeId} {ty:TypeId} {pos:String} {af:Array Edge} {g:Option (Nat×Bool)} {d:Nat} {args:List SV} {R:SV->Prop} (hx:ai L x = .fn f caps) (hxo:de x=true) (hw:aq ops L g=some true)
  (ha:mz L xs++caps=args) (hc:FnP Γ.dr Γ.P Γ.τ Γ.τok f args R) (hok:dy xs=true) (hlow:SV.lowL 0 args=true) (hd:As d Γ.n=true) (hlog:fz ops i [] [] lg=true) (hne:∃ r,R r)
  (hk:∀ r,R r->DT Γ ops κ rem ((i,[],[])::lg) Kf ((d,r)::L) H) :
  DT Γ ops κ ((i,⟨some d,.call { callee:=.value x,args:=xs.toArray,argTypes:=ts },ty,pos,af,g⟩)::rem) lg Kf L H:=by
 have e1:xs.map (ofL L H).op++caps=args:=by rw [j6,<- j5,ha]
 have hok':bt (.call { callee:=.value x,args:=xs.toArray,argTypes:=ts })=true:=by
  unfold bt;simp only [Op.operands,Call.operands,C6,C9,Ad];refine⟨by simp [hxo],?_⟩
  have:∀ (xs:List Operand),dy xs=true->xs.all de=true:=by
   intro xs;induction xs with
   | nil=>intro _;rfl
   | cons x xs ih=>intro h;simp only [dy,Ad] at h;simp [h.1,ih h.2]
  exact this xs hok
 refine .cons true _ [] [] (.call d f x caps xs ts R ((j3 ops L g).trans hw) rfl rfl (by rw [j6];exact hx) (e1▸hc) (e1▸hlow) hok' hd) hlog (hne.imp λr h=>⟨.no,h,rfl⟩) (λv u hv=>by rw [hv.2];rfl) λv u hv=>?_
 rw [hv.2];have:(ofL L H).app (κ+i) (some d) v .no=ofL ((d,v)::L) H:=(li L H (some d) v)
 show DR Γ ops κ rem _ Kf ((ofL L H).app (κ+i) (some d) v .no);rw [this];exact hk v hv.1
theorem x7 {i:Nat} {f:FuncId} {xs:List Operand} {ts:Array TypeId} {ty:TypeId} {pos:String} {af:Array Edge} {g:Option (Nat×Bool)} {d:Nat} {args:List SV} {J:Nat} {Hc:Hp} {R:SV->Prop} (ρ:Nat->Nat)
  (hc:FnOk Γ.dr Γ.P Γ.τ Γ.τok f args J J Hc (λ_ r H2=>R r/\H2=Hc)) (hR:∀ r,R r->r.low 0=true/\r.rowsGe J=true) (hne:∃ r,R r) (hw:aq ops L g=some true) (ha:mz L xs=SV.renL ρ args) (hok:dy xs=true) (hlA:SV.lowL J args=true) (hKH:KnowsH ρ H Hc) (hl:Hp.low J Hc=true)
  (hd:a7 (Hc.map λp=>ρ p.1)=true) (hd':a7 (Hc.map (·.1))=true) (hall:yg J (Hc.map (·.1))=true) (hbel:yh J Hc=true) (hrows:Hp.rowsGe J Hc=true) (hdn:As d Γ.n=true) {rd:List Nat} (hrd:Hc.map (λp=>ρ p.1)=rd) (hlog:fz ops i rd [] lg=true)
  (hk:∀ r,R r->DT Γ ops κ rem ((i,rd,[])::lg) Kf ((d,r)::L) H) :
  DT Γ ops κ ((i,⟨some d,.call { callee:=.value (.func f),args:=xs.toArray,argTypes:=ts },ty,pos,af,g⟩)::rem) lg Kf L H:=by
 subst hrd;have e1:xs.map (ofL L H).op++[]=SV.renL ρ args:=by rw [j6,B0,<- j5,ha]
 have hok':bt (.call { callee:=.value (.func f),args:=xs.toArray,argTypes:=ts })=true:=by
  unfold bt;simp only [Op.operands,Call.operands,C6,C9,Ad];refine⟨rfl,?_⟩
  have:∀ (xs:List Operand),dy xs=true->xs.all de=true:=by
   intro xs;induction xs with
   | nil=>intro _;rfl
   | cons x xs ih=>intro h;simp only [dy,Ad] at h;simp [h.1,ih h.2]
  exact this xs hok
 refine .cons true _ _ [] (.callR d f (.func f) [] xs ts ρ args J Hc R ((j3 ops L g).trans hw) rfl rfl rfl hc e1 hlA ((knowsF_is ρ H Hc).2 hKH) hl hd hd' hall hbel hR hrows hok' hdn) hlog (hne.imp λr h=>⟨.no,h,rfl⟩) (λv u hv=>by rw [hv.2];rfl) λv u hv=>?_
 rw [hv.2];have:(ofL L H).app (κ+i) (some d) v .no=ofL ((d,v)::L) H:=(li L H (some d) v)
 show DR Γ ops κ rem _ Kf ((ofL L H).app (κ+i) (some d) v .no);rw [this];exact hk v hv.1
theorem dt_bs0 {i z:Nat} {t te:TypeId} {es:Nat} {ty:TypeId} {pos:String} {af:Array Edge} {g:Option (Nat×Bool)} {d:Nat} (hw:aq ops L g=some true) (hz:κ+i=z)
  (ht:(aj Γ.τ t).sh = .slice te) (hkn:(aj Γ.τ te).sh.known=true) (hes:(aj Γ.τ te).cells=es) (hpos:As 0 es=true) (hzo:ek (aj Γ.τ te).zero=true) (hzl:Aw (aj Γ.τ te).zero.length (aj Γ.τ te).cells=true) (hd:As d Γ.n=true)
  (hlog:fz ops i [] [z] lg=true) (hk:DT Γ ops κ rem ((i,[],[z])::lg) Kf ((d,.row z)::L) ((z,.row te es [])::H)) :
  DT Γ ops κ ((i,⟨some d,.buildSlice t 0 #[],ty,pos,af,g⟩)::rem) lg Kf L H:=by
 subst hz;refine .cons true _ _ _ (.bs0 d t te es ((j3 ops L g).trans hw) rfl rfl ht hkn hes hpos hzo hzl hd) hlog ⟨_,_,rfl,rfl⟩ (λv u hv=>by rw [hv.2];rfl) λv u hv=>?_
 obtain⟨rfl,rfl⟩:=hv;have:=ofL_new L H d (.row (κ+i)) (κ+i) (.row te es [])
 show DR Γ ops κ rem _ Kf ((ofL L H).app (κ+i) (some d) (.row (κ+i)) (.new (.row te es [])));rw [<- this];exact hk
theorem ofL_bool {t:Nat} {b:Bool} (hb:L.get t = .d (.bool b)):ofL ((t,.d (.bool b))::L) H=ofL L H:=by
 unfold ofL;congr 1;funext t';rw [Sl.get_cons];split
 ·rename_i h;subst h;exact hb.symm
 ·rfl
theorem dt_split {t:Nat} {b:Bool} (hb:L.get t = .d (.bool b)) (ht:b=true->DT Γ ops κ rem lg Kf ((t,.d (.bool true))::L) H) (hf:b=false->DT Γ ops κ rem lg Kf ((t,.d (.bool false))::L) H):DT Γ ops κ rem lg Kf L H:=by
 unfold DT at *;cases b with
 | true=>exact ofL_bool (H:=H) hb▸ht rfl
 | false=>exact ofL_bool (H:=H) hb▸hf rfl
theorem dt_known {i:Nat} {op:Op} {ty:TypeId} {pos:String} {af:Array Edge} {g:Option (Nat×Bool)} {dst:Option Nat} {b:Bool} (_:aq ops L g=some b) (h:DT Γ ops κ ((i,⟨dst,op,ty,pos,af,g⟩)::rem) lg Kf L H) :
  DT Γ ops κ ((i,⟨dst,op,ty,pos,af,g⟩)::rem) lg Kf L H:=h
theorem ds_known {op:Op} {ty:TypeId} {pos:String} {af:Array Edge} {g:Option (Nat×Bool)} {dst:Option Nat} {b:Bool} (_:aq ops L g=some b) (h:DS q Γ ops (⟨dst,op,ty,pos,af,g⟩::rest) K k L H) :
  DS q Γ ops (⟨dst,op,ty,pos,af,g⟩::rest) K k L H:=h
theorem dt_guard {i:Nat} {op:Op} {ty:TypeId} {pos:String} {af:Array Edge} {j:Nat} {want b:Bool} {dst:Option Nat} {oj:Oper} {t:Nat} (_:mi ops j=some oj) (_:oj.dst=some t) (hb:L.get t = .d (.bool b))
  (ht:b=true->DT Γ ops κ ((i,⟨dst,op,ty,pos,af,some (j,want)⟩)::rem) lg Kf ((t,.d (.bool true))::L) H) (hf:b=false->DT Γ ops κ ((i,⟨dst,op,ty,pos,af,some (j,want)⟩)::rem) lg Kf ((t,.d (.bool false))::L) H) :
  DT Γ ops κ ((i,⟨dst,op,ty,pos,af,some (j,want)⟩)::rem) lg Kf L H:=dt_split hb ht hf
theorem dt_guardP {i:Nat} {op:Op} {ty:TypeId} {pos:String} {af:Array Edge} {j:Nat} {want:Bool} {p:Prop} {_:Decidable p} {dst:Option Nat} {oj:Oper} {t:Nat} (_:mi ops j=some oj) (_:oj.dst=some t) (hb:L.get t = .d (.bool (decide p)))
  (ht:p->DT Γ ops κ ((i,⟨dst,op,ty,pos,af,some (j,want)⟩)::rem) lg Kf ((t,.d (.bool true))::L) H) (hf:¬ p->DT Γ ops κ ((i,⟨dst,op,ty,pos,af,some (j,want)⟩)::rem) lg Kf ((t,.d (.bool false))::L) H) :
  DT Γ ops κ ((i,⟨dst,op,ty,pos,af,some (j,want)⟩)::rem) lg Kf L H:=dt_split hb (λh=>ht (of_decide_eq_true h)) (λh=>hf (of_decide_eq_false h))
theorem ds_guardB {op:Op} {ty:TypeId} {pos:String} {af:Array Edge} {j:Nat} {want b:Bool} {dst:Option Nat} {oj:Oper} {t:Nat} (_:mi ops j=some oj) (_:oj.dst=some t) (hb:L.get t = .d (.bool b))
  (ht:b=true->DS q Γ ops (⟨dst,op,ty,pos,af,some (j,want)⟩::rest) K k ((t,.d (.bool true))::L) H) (hf:b=false->DS q Γ ops (⟨dst,op,ty,pos,af,some (j,want)⟩::rest) K k ((t,.d (.bool false))::L) H) :
  DS q Γ ops (⟨dst,op,ty,pos,af,some (j,want)⟩::rest) K k L H:=ds_split hb ht hf
theorem ds_guardP {op:Op} {ty:TypeId} {pos:String} {af:Array Edge} {j:Nat} {want:Bool} {p:Prop} {_:Decidable p} {dst:Option Nat} {oj:Oper} {t:Nat} (_:mi ops j=some oj) (_:oj.dst=some t) (hb:L.get t = .d (.bool (decide p)))
  (ht:p->DS q Γ ops (⟨dst,op,ty,pos,af,some (j,want)⟩::rest) K k ((t,.d (.bool true))::L) H) (hf:¬ p->DS q Γ ops (⟨dst,op,ty,pos,af,some (j,want)⟩::rest) K k ((t,.d (.bool false))::L) H) :
  DS q Γ ops (⟨dst,op,ty,pos,af,some (j,want)⟩::rest) K k L H:=ds_split hb (λh=>ht (of_decide_eq_true h)) (λh=>hf (of_decide_eq_false h))
end
section
variable {Γ : Ctx} {k κ : Nat} {L : Sl} {H : Hp} {K : ca} {ops : List Oper} {rest : List Oper} {q : Bool} {rem : List (Nat×Oper)} {lg : Log} {Kf : FS -> Prop}
theorem y0 {d:Nat} {op:Op} {ty:TypeId} {pos:String} {af:Array Edge} {g:Option (Nat×Bool)} {p:Prop} {s s':SV} (he:evC Γ.τ (ai L) (Hp.get H) op=some (p,s):=by exact rfl) (hp:p:=by (first|(with_reducible exact trivial)|(with_reducible exact gw _)|(with_reducible exact sat_range _ _)|omega|(with_reducible assumption)|(with_reducible exact bytesOk_one)|(constructor<;>omega)|(simp only [List.length_map];omega)|(unfold maxLen at *;omega)|(simp<;>omega)|(unfold maxLen;simp<;>omega))) (hv:s=s':=by (first|(with_reducible exact hv_chr)|((with_reducible apply hv_prow);(first|exact bg _|exact bq _|exact bw _|exact bx|exact nat_lit_1|exact rfl|exact (Int.toNat_of_nonneg (by omega)).symm))|((with_reducible apply za);(first|exact bg _|exact bq _|exact bw _|exact bx|exact nat_lit_1|exact rfl|exact (Int.toNat_of_nonneg (by omega)).symm))|((with_reducible apply zb);(first|exact bg _|exact bq _|exact bw _|exact bx|exact nat_lit_1|exact rfl|exact (Int.toNat_of_nonneg (by omega)).symm))|((with_reducible apply hv_ldrow);(apply ig;(first|(with_reducible exact trivial)|(with_reducible exact gw _)|(with_reducible exact sat_range _ _)|omega|(with_reducible assumption)|(with_reducible exact bytesOk_one)|(constructor<;>omega)|(simp only [List.length_map];omega)|(unfold maxLen at *;omega)|(simp<;>omega)|(unfold maxLen;simp<;>omega)));exact rfl)|((with_reducible apply hv_row);(first|exact bg _|exact bq _|exact bw _|exact bx|exact nat_lit_1|exact rfl|exact (Int.toNat_of_nonneg (by omega)).symm);(first|omega|(rw [List.length_map];omega)))|((with_reducible apply hv_sat);(first|exact bg _|exact bq _|exact bw _|exact bx|exact nat_lit_1|exact rfl|exact (Int.toNat_of_nonneg (by omega)).symm);omega)|((with_reducible apply hv_ext);(first|exact bg _|exact bq _|exact bw _|exact bx|exact nat_lit_1|exact rfl|exact (Int.toNat_of_nonneg (by omega)).symm);(first|exact bg _|exact bq _|exact bw _|exact bx|exact nat_lit_1|exact rfl|exact (Int.toNat_of_nonneg (by omega)).symm))|(with_reducible exact rfl))) (hok:bt op=true:=by exact rfl) (hw:aq ops L g=some true:=by exact rfl) (hd:Nat.blt d Γ.n=true:=by exact rfl):(DS q Γ ops rest K k ((d,s')::L) H)->(DS q Γ ops (⟨some d,op,ty,pos,af,g⟩::rest) K k L H):=λhk=>ds_evC he hp hv hok hw hd hk
theorem z0 {d:Nat} {op:Op} {ty:TypeId} {pos:String} {af:Array Edge} {g:Option (Nat×Bool)} {p:Prop} {s s':SV} (hk:DS q Γ ops rest K k ((d,s')::L) H) (he:evC Γ.τ (ai L) (Hp.get H) op=some (p,s):=by exact rfl) (hp:p:=by (first|(with_reducible exact trivial)|(with_reducible exact gw _)|(with_reducible exact sat_range _ _)|omega|(with_reducible assumption)|(with_reducible exact bytesOk_one)|(constructor<;>omega)|(simp only [List.length_map];omega)|(unfold maxLen at *;omega)|(simp<;>omega)|(unfold maxLen;simp<;>omega))) (hv:s=s':=by (first|(with_reducible exact hv_chr)|((with_reducible apply hv_prow);(first|exact bg _|exact bq _|exact bw _|exact bx|exact nat_lit_1|exact rfl|exact (Int.toNat_of_nonneg (by omega)).symm))|((with_reducible apply za);(first|exact bg _|exact bq _|exact bw _|exact bx|exact nat_lit_1|exact rfl|exact (Int.toNat_of_nonneg (by omega)).symm))|((with_reducible apply zb);(first|exact bg _|exact bq _|exact bw _|exact bx|exact nat_lit_1|exact rfl|exact (Int.toNat_of_nonneg (by omega)).symm))|((with_reducible apply hv_ldrow);(apply ig;(first|(with_reducible exact trivial)|(with_reducible exact gw _)|(with_reducible exact sat_range _ _)|omega|(with_reducible assumption)|(with_reducible exact bytesOk_one)|(constructor<;>omega)|(simp only [List.length_map];omega)|(unfold maxLen at *;omega)|(simp<;>omega)|(unfold maxLen;simp<;>omega)));exact rfl)|((with_reducible apply hv_row);(first|exact bg _|exact bq _|exact bw _|exact bx|exact nat_lit_1|exact rfl|exact (Int.toNat_of_nonneg (by omega)).symm);(first|omega|(rw [List.length_map];omega)))|((with_reducible apply hv_sat);(first|exact bg _|exact bq _|exact bw _|exact bx|exact nat_lit_1|exact rfl|exact (Int.toNat_of_nonneg (by omega)).symm);omega)|((with_reducible apply hv_ext);(first|exact bg _|exact bq _|exact bw _|exact bx|exact nat_lit_1|exact rfl|exact (Int.toNat_of_nonneg (by omega)).symm);(first|exact bg _|exact bq _|exact bw _|exact bx|exact nat_lit_1|exact rfl|exact (Int.toNat_of_nonneg (by omega)).symm))|(with_reducible exact rfl))) (hok:bt op=true:=by exact rfl) (hw:aq ops L g=some true:=by exact rfl) (hd:Nat.blt d Γ.n=true:=by exact rfl):DS q Γ ops (⟨some d,op,ty,pos,af,g⟩::rest) K k L H:=ds_evC he hp hv hok hw hd hk
theorem y1 {d:Nat} {op:Op} {ty:TypeId} {pos:String} {af:Array Edge} {g:Option (Nat×Bool)} {p:Prop} {s:SV} {b:HB} (he:mc Γ.τ (ai L) (Hp.get H) k op=some (p,s,.new b):=by exact rfl) (hp:p:=by (first|(with_reducible exact trivial)|(with_reducible exact gw _)|(with_reducible exact sat_range _ _)|omega|(with_reducible assumption)|(with_reducible exact bytesOk_one)|(constructor<;>omega)|(simp only [List.length_map];omega)|(unfold maxLen at *;omega)|(simp<;>omega)|(unfold maxLen;simp<;>omega))) (hok:bt op=true:=by exact rfl) (hw:aq ops L g=some true:=by exact rfl) (hd:Nat.blt d Γ.n=true:=by exact rfl):(DS false Γ ops rest K (k+1) ((d,s)::L) ((k,b)::H))->(DS false Γ ops (⟨some d,op,ty,pos,af,g⟩::rest) K k L H):=λhk=>ds_newC he hp hok hw hd hk
theorem y2 [NoDr Γ] {d j:Nat} {op:Op} {ty:TypeId} {pos:String} {af:Array Edge} {g:Option (Nat×Bool)} {p:Prop} {s:SV} {b:HB} {H':Hp} (he:mc Γ.τ (ai L) (Hp.get H) k op=some (p,s,.trade j b):=by exact rfl) (hp:p:=by (first|(with_reducible exact trivial)|(with_reducible exact gw _)|(with_reducible exact sat_range _ _)|omega|(with_reducible assumption)|(with_reducible exact bytesOk_one)|(constructor<;>omega)|(simp only [List.length_map];omega)|(unfold maxLen at *;omega)|(simp<;>omega)|(unfold maxLen;simp<;>omega))) (hok:bt op=true:=by exact rfl) (hw:aq ops L g=some true:=by exact rfl) (hd:Nat.blt d Γ.n=true:=by exact rfl) (hH:delF H j some=some H':=by exact rfl):(DS false Γ ops rest K (k+1) ((d,s)::L) ((k,b)::H'))->(DS false Γ ops (⟨some d,op,ty,pos,af,g⟩::rest) K k L H):=λhk=>ds_tradeC he hp hok hw hd hH hk
theorem y3 {te ty:TypeId} {x y:Operand} {pos:String} {af:Array Edge} {g:Option (Nat×Bool)} {s:SV} {j:Nat} {b:HB} {H':Hp} (he:qf Γ.τ te (ai L x) (ai L y) (Hp.get H)=some (True,s,.set j b):=by exact rfl) (hok:de y=true:=by exact rfl) (hw:aq ops L g=some true:=by exact rfl) (hH:setF H j b some=some H':=by exact rfl):(DS false Γ ops rest K k L H')->(DS false Γ ops (⟨none,.store te x y,ty,pos,af,g⟩::rest) K k L H):=λhk=>ds_setC he hok hw hH hk
theorem y4 {d:Nat} {t len:Nat} {ty:TypeId} {pos:String} {af:Array Edge} {g:Option (Nat×Bool)} {ps:Array (Nat×Operand)} {p:Prop} {s:SV} (he:du Γ.τ (ai L) t len ps.toList=some (p,s,.no):=by exact rfl) (hok:bt (.buildSlice t len ps)=true:=by exact rfl) (hw:aq ops L g=some true:=by exact rfl) (hd:Nat.blt d Γ.n=true:=by exact rfl):(DS false Γ ops rest K k ((d,s)::L) H)->(DS false Γ ops (⟨some d,.buildSlice t len ps,ty,pos,af,g⟩::rest) K k L H):=λhk=>ds_bsC he hok hw hd hk
theorem y5 {i:Nat} {op:Op} {ty:TypeId} {pos:String} {af:Array Edge} {g:Option (Nat×Bool)} {d:Nat} {p:Prop} {v v':SV} (hw:aq ops L g=some true:=by exact rfl) (hs:ir Γ.τ (ai L) (Hp.get H) (κ+i) (some d) op=some (p,v,.no):=by exact rfl) (hp:p:=by (first|(with_reducible exact trivial)|(with_reducible exact gw _)|(with_reducible exact sat_range _ _)|omega|(with_reducible assumption)|(with_reducible exact bytesOk_one)|(constructor<;>omega)|(simp only [List.length_map];omega)|(unfold maxLen at *;omega)|(simp<;>omega)|(unfold maxLen;simp<;>omega))) (hv:v=v':=by (first|(with_reducible exact hv_chr)|((with_reducible apply hv_prow);(first|exact bg _|exact bq _|exact bw _|exact bx|exact nat_lit_1|exact rfl|exact (Int.toNat_of_nonneg (by omega)).symm))|((with_reducible apply za);(first|exact bg _|exact bq _|exact bw _|exact bx|exact nat_lit_1|exact rfl|exact (Int.toNat_of_nonneg (by omega)).symm))|((with_reducible apply zb);(first|exact bg _|exact bq _|exact bw _|exact bx|exact nat_lit_1|exact rfl|exact (Int.toNat_of_nonneg (by omega)).symm))|((with_reducible apply hv_ldrow);(apply ig;(first|(with_reducible exact trivial)|(with_reducible exact gw _)|(with_reducible exact sat_range _ _)|omega|(with_reducible assumption)|(with_reducible exact bytesOk_one)|(constructor<;>omega)|(simp only [List.length_map];omega)|(unfold maxLen at *;omega)|(simp<;>omega)|(unfold maxLen;simp<;>omega)));exact rfl)|((with_reducible apply hv_row);(first|exact bg _|exact bq _|exact bw _|exact bx|exact nat_lit_1|exact rfl|exact (Int.toNat_of_nonneg (by omega)).symm);(first|omega|(rw [List.length_map];omega)))|((with_reducible apply hv_sat);(first|exact bg _|exact bq _|exact bw _|exact bx|exact nat_lit_1|exact rfl|exact (Int.toNat_of_nonneg (by omega)).symm);omega)|((with_reducible apply hv_ext);(first|exact bg _|exact bq _|exact bw _|exact bx|exact nat_lit_1|exact rfl|exact (Int.toNat_of_nonneg (by omega)).symm);(first|exact bg _|exact bq _|exact bw _|exact bx|exact nat_lit_1|exact rfl|exact (Int.toNat_of_nonneg (by omega)).symm))|(with_reducible exact rfl))) (hok:bt op=true:=by exact rfl) (hd:Nat.blt d Γ.n=true:=by exact rfl) (hn:a7 (H.map (·.1))=true:=by exact rfl) (hlog:fz ops i (kz (ai L) op) [] lg=true:=by exact rfl):(DT Γ ops κ rem ((i,kz (ai L) op,[])::lg) Kf ((d,v')::L) H)->(DT Γ ops κ ((i,⟨some d,op,ty,pos,af,g⟩)::rem) lg Kf L H):=λhk=>c6 hw hs hp hv hok hd hn hlog hk
theorem z5 {i:Nat} {op:Op} {ty:TypeId} {pos:String} {af:Array Edge} {g:Option (Nat×Bool)} {d:Nat} {p:Prop} {v v':SV} (hk:DT Γ ops κ rem ((i,kz (ai L) op,[])::lg) Kf ((d,v')::L) H) (hw:aq ops L g=some true:=by exact rfl) (hs:ir Γ.τ (ai L) (Hp.get H) (κ+i) (some d) op=some (p,v,.no):=by exact rfl) (hp:p:=by (first|(with_reducible exact trivial)|(with_reducible exact gw _)|(with_reducible exact sat_range _ _)|omega|(with_reducible assumption)|(with_reducible exact bytesOk_one)|(constructor<;>omega)|(simp only [List.length_map];omega)|(unfold maxLen at *;omega)|(simp<;>omega)|(unfold maxLen;simp<;>omega))) (hv:v=v':=by (first|(with_reducible exact hv_chr)|((with_reducible apply hv_prow);(first|exact bg _|exact bq _|exact bw _|exact bx|exact nat_lit_1|exact rfl|exact (Int.toNat_of_nonneg (by omega)).symm))|((with_reducible apply za);(first|exact bg _|exact bq _|exact bw _|exact bx|exact nat_lit_1|exact rfl|exact (Int.toNat_of_nonneg (by omega)).symm))|((with_reducible apply zb);(first|exact bg _|exact bq _|exact bw _|exact bx|exact nat_lit_1|exact rfl|exact (Int.toNat_of_nonneg (by omega)).symm))|((with_reducible apply hv_ldrow);(apply ig;(first|(with_reducible exact trivial)|(with_reducible exact gw _)|(with_reducible exact sat_range _ _)|omega|(with_reducible assumption)|(with_reducible exact bytesOk_one)|(constructor<;>omega)|(simp only [List.length_map];omega)|(unfold maxLen at *;omega)|(simp<;>omega)|(unfold maxLen;simp<;>omega)));exact rfl)|((with_reducible apply hv_row);(first|exact bg _|exact bq _|exact bw _|exact bx|exact nat_lit_1|exact rfl|exact (Int.toNat_of_nonneg (by omega)).symm);(first|omega|(rw [List.length_map];omega)))|((with_reducible apply hv_sat);(first|exact bg _|exact bq _|exact bw _|exact bx|exact nat_lit_1|exact rfl|exact (Int.toNat_of_nonneg (by omega)).symm);omega)|((with_reducible apply hv_ext);(first|exact bg _|exact bq _|exact bw _|exact bx|exact nat_lit_1|exact rfl|exact (Int.toNat_of_nonneg (by omega)).symm);(first|exact bg _|exact bq _|exact bw _|exact bx|exact nat_lit_1|exact rfl|exact (Int.toNat_of_nonneg (by omega)).symm))|(with_reducible exact rfl))) (hok:bt op=true:=by exact rfl) (hd:Nat.blt d Γ.n=true:=by exact rfl) (hn:a7 (H.map (·.1))=true:=by exact rfl) (hlog:fz ops i (kz (ai L) op) [] lg=true:=by exact rfl):DT Γ ops κ ((i,⟨some d,op,ty,pos,af,g⟩)::rem) lg Kf L H:=c6 hw hs hp hv hok hd hn hlog hk
theorem y6 {i j:Nat} {op:Op} {ty:TypeId} {pos:String} {af:Array Edge} {g:Option (Nat×Bool)} {p:Prop} {v:SV} {b:HB} {H':Hp} (hw:aq ops L g=some true:=by exact rfl) (hs:ir Γ.τ (ai L) (Hp.get H) (κ+i) none op=some (p,v,.set j b):=by exact rfl) (hp:p:=by (first|(with_reducible exact trivial)|(with_reducible exact gw _)|(with_reducible exact sat_range _ _)|omega|(with_reducible assumption)|(with_reducible exact bytesOk_one)|(constructor<;>omega)|(simp only [List.length_map];omega)|(unfold maxLen at *;omega)|(simp<;>omega)|(unfold maxLen;simp<;>omega))) (hok:bt op=true:=by exact rfl) (hn:a7 (H.map (·.1))=true:=by exact rfl) (hH:setF H j b some=some H':=by exact rfl) (hlog:fz ops i (kz (ai L) op) [j] lg=true:=by exact rfl):(DT Γ ops κ rem ((i,kz (ai L) op,[j])::lg) Kf L H')->(DT Γ ops κ ((i,⟨none,op,ty,pos,af,g⟩)::rem) lg Kf L H):=λhk=>dt_set hw hs hp hok hn hH hlog hk
theorem y7 {i z:Nat} {op:Op} {ty:TypeId} {pos:String} {af:Array Edge} {g:Option (Nat×Bool)} {d:Nat} {p:Prop} {v v':SV} {b:HB} (hw:aq ops L g=some true:=by exact rfl) (hz:κ+i=z:=by exact rfl) (hs:ir Γ.τ (ai L) (Hp.get H) z (some d) op=some (p,v,.new b):=by exact rfl) (hp:p:=by (first|(with_reducible exact trivial)|(with_reducible exact gw _)|(with_reducible exact sat_range _ _)|omega|(with_reducible assumption)|(with_reducible exact bytesOk_one)|(constructor<;>omega)|(simp only [List.length_map];omega)|(unfold maxLen at *;omega)|(simp<;>omega)|(unfold maxLen;simp<;>omega))) (hv:v=v':=by exact rfl) (hok:bt op=true:=by exact rfl) (hd:Nat.blt d Γ.n=true:=by exact rfl) (hn:a7 (H.map (·.1))=true:=by exact rfl) (hlog:fz ops i (kz (ai L) op) [z] lg=true:=by exact rfl):(DT Γ ops κ rem ((i,kz (ai L) op,[z])::lg) Kf ((d,v')::L) ((z,b)::H))->(DT Γ ops κ ((i,⟨some d,op,ty,pos,af,g⟩)::rem) lg Kf L H):=λhk=>dt_new hw hz hs hp hv hok hd hn hlog hk
theorem y8 {i j:Nat} {op:Op} {ty:TypeId} {pos:String} {af:Array Edge} {g:Option (Nat×Bool)} {d:Nat} {p:Prop} {v v':SV} {H':Hp} (hw:aq ops L g=some true:=by exact rfl) (hs:ir Γ.τ (ai L) (Hp.get H) (κ+i) (some d) op=some (p,v,.del j):=by exact rfl) (hp:p:=by (first|(with_reducible exact trivial)|(with_reducible exact gw _)|(with_reducible exact sat_range _ _)|omega|(with_reducible assumption)|(with_reducible exact bytesOk_one)|(constructor<;>omega)|(simp only [List.length_map];omega)|(unfold maxLen at *;omega)|(simp<;>omega)|(unfold maxLen;simp<;>omega))) (hv:v=v':=by exact rfl) (hok:bt op=true:=by exact rfl) (hd:Nat.blt d Γ.n=true:=by exact rfl) (hn:a7 (H.map (·.1))=true:=by exact rfl) (hlog:fz ops i (kz (ai L) op) [j] lg=true:=by exact rfl) (hH:delF H j some=some H':=by exact rfl):(DT Γ ops κ rem ((i,kz (ai L) op,[j])::lg) Kf ((d,v')::L) H')->(DT Γ ops κ ((i,⟨some d,op,ty,pos,af,g⟩)::rem) lg Kf L H):=λhk=>dt_del hw hs hp hv hok hd hn hlog hH hk
theorem y9 [NoDr Γ] {i j z:Nat} {op:Op} {ty:TypeId} {pos:String} {af:Array Edge} {g:Option (Nat×Bool)} {d:Nat} {p:Prop} {v v':SV} {b:HB} {H':Hp} (hw:aq ops L g=some true:=by exact rfl) (hz:κ+i=z:=by exact rfl) (hs:ir Γ.τ (ai L) (Hp.get H) z (some d) op=some (p,v,.trade j b):=by exact rfl) (hp:p:=by (first|(with_reducible exact trivial)|(with_reducible exact gw _)|(with_reducible exact sat_range _ _)|omega|(with_reducible assumption)|(with_reducible exact bytesOk_one)|(constructor<;>omega)|(simp only [List.length_map];omega)|(unfold maxLen at *;omega)|(simp<;>omega)|(unfold maxLen;simp<;>omega))) (hv:v=v':=by exact rfl) (hok:bt op=true:=by exact rfl) (hd:Nat.blt d Γ.n=true:=by exact rfl) (hn:a7 (H.map (·.1))=true:=by exact rfl) (hlog:fz ops i (kz (ai L) op) [j,z] lg=true:=by exact rfl) (hH:delF H j some=some H':=by exact rfl):(DT Γ ops κ rem ((i,kz (ai L) op,[j,z])::lg) Kf ((d,v')::L) ((z,b)::H'))->(DT Γ ops κ ((i,⟨some d,op,ty,pos,af,g⟩)::rem) lg Kf L H):=λhk=>dt_trade hw hz hs hp hv hok hd hn hlog hH hk
theorem y10 {m:Nat} {Q:ca} (hn:a7 (H.map (·.1))=true:=by exact rfl) (hj:Nat.ble Γ.J κ=true:=by exact rfl) (hL:Sl.low κ L=true:=by exact rfl) (hH:Hp.low κ H=true:=by exact rfl):(Q κ L H)->(DT Γ ops κ [] lg (xz Γ m Q) L H):=λh=>dt_nil0 hn hj hL hH h
theorem y11 {m:Nat} {Q:ca} (hn:a7 (H.map (·.1))=true:=by exact rfl):(Q m L H)->(DT Γ ops κ [] lg (xz Γ m Q) L H):=λh=>dt_nil hn h
theorem z11 {m:Nat} {Q:ca} (h:Q m L H) (hn:a7 (H.map (·.1))=true:=by exact rfl):DT Γ ops κ [] lg (xz Γ m Q) L H:=dt_nil hn h
theorem y12 {op:Op} {ty:TypeId} {pos:String} {af:Array Edge} {g:Option (Nat×Bool)} {d:Nat} (hw:aq ops L g=some false:=by exact rfl) (hd:Nat.blt d Γ.n=true:=by exact rfl):(DS q Γ ops rest K k ((d,.tup [])::L) H)->(DS q Γ ops (⟨some d,op,ty,pos,af,g⟩::rest) K k L H):=λh=>ds_skip hw hd h
theorem z12 {op:Op} {ty:TypeId} {pos:String} {af:Array Edge} {g:Option (Nat×Bool)} {d:Nat} (h:DS q Γ ops rest K k ((d,.tup [])::L) H) (hw:aq ops L g=some false:=by exact rfl) (hd:Nat.blt d Γ.n=true:=by exact rfl):DS q Γ ops (⟨some d,op,ty,pos,af,g⟩::rest) K k L H:=ds_skip hw hd h
theorem y14 {i:Nat} {op:Op} {ty:TypeId} {pos:String} {af:Array Edge} {g:Option (Nat×Bool)} {d:Nat} (hw:aq ops L g=some false:=by exact rfl) (hd:Nat.blt d Γ.n=true:=by exact rfl) (hlog:fz ops i [] [] lg=true:=by exact rfl):(DT Γ ops κ rem ((i,[],[])::lg) Kf ((d,.tup [])::L) H)->(DT Γ ops κ ((i,⟨some d,op,ty,pos,af,g⟩)::rem) lg Kf L H):=λhk=>dt_skipD hw hd hlog hk
theorem y16 {id:Nat} {l:List Oper} {Q:d6} (hn:dd l=true:=by exact rfl):(DS false Γ l l (Q .normal) k L H)->(DW Γ (.region id l.toArray false) Q k L H):=λh=>s8 hn h
theorem y17 {id i:Nat} {Q:d6} (hb:Nat.beq i id=true:=by exact rfl):(Q .normal k L H)->(bh id Q (.exit i) k L H):=λh=>inB_e hb h
theorem y18 {Γ:Ctx} {k:Nat} {L:Sl} {H:Hp} {Q:d6} {c:Operand} {x y:Code} (hc:ai L c = .d (.bool true):=by exact rfl):(DW Γ x Q k L H)->(DW Γ (.cond c x y) Q k L H):=λh=>dw_condT hc h
theorem y19 {Γ:Ctx} {k:Nat} {L:Sl} {H:Hp} {Q:d6} {c:Operand} {x y:Code} (hc:ai L c = .d (.bool false):=by exact rfl):(DW Γ y Q k L H)->(DW Γ (.cond c x y) Q k L H):=λh=>dw_condF hc h
theorem y20 {id m:Nat} {l:List Oper} {Q:d6} (hm:Γ.P.follows .mixedOrders=true:=by kernel_rfl) (hB:jx l=true:=by kernel_rfl) (hnd:dd l=true:=by exact rfl) (hl:lenIs l k m:=by exact rfl):(DT Γ l k (bu 0 l) [] (xz Γ m (Q .normal)) L H)->(DW Γ (.region id l.toArray true) Q k L H):=λh=>dw_any hm hB hnd hl h
theorem z21 {f:FuncId} {xs:List Operand} {ts:Array TypeId} {ty:TypeId} {pos:String} {af:Array Edge} {g:Option (Nat×Bool)} {d:Nat} {args:List SV} {r0:SV} (hk:DS false Γ ops rest K k ((d,r0)::L) H) (hw:aq ops L g=some true:=by exact rfl) (ha:mz L xs=args:=by exact rfl) (hc:FnP Γ.dr Γ.P Γ.τ Γ.τok f args (λr=>r=r0)) (hok:dy xs=true:=by exact rfl) (hlow:SV.lowL 0 args=true:=by (first|exact rfl|assumption)) (hd:Nat.blt d Γ.n=true:=by exact rfl):DS false Γ ops (⟨some d,.call { callee:=.value (.func f),args:=xs.toArray,argTypes:=ts },ty,pos,af,g⟩::rest) K k L H:=ow hw ha hc hok hlow hd (by rintro _ rfl;exact hk)
theorem z22 {i:Nat} {f:FuncId} {xs:List Operand} {ts:Array TypeId} {ty:TypeId} {pos:String} {af:Array Edge} {g:Option (Nat×Bool)} {d:Nat} {args:List SV} {r0:SV} (hk:DT Γ ops κ rem ((i,[],[])::lg) Kf ((d,r0)::L) H) (hw:aq ops L g=some true:=by exact rfl) (ha:mz L xs=args:=by exact rfl) (hc:FnP Γ.dr Γ.P Γ.τ Γ.τok f args (λr=>r=r0)) (hok:dy xs=true:=by exact rfl) (hlow:SV.lowL 0 args=true:=by (first|exact rfl|assumption)) (hd:Nat.blt d Γ.n=true:=by exact rfl) (hlog:fz ops i [] [] lg=true:=by exact rfl):DT Γ ops κ ((i,⟨some d,.call { callee:=.value (.func f),args:=xs.toArray,argTypes:=ts },ty,pos,af,g⟩)::rem) lg Kf L H:=dt_call hw ha hc hok hlow hd hlog ⟨_,rfl⟩ (by rintro _ rfl;exact hk)
theorem z23 {Γ:Ctx} {k:Nat} {L:Sl} {H:Hp} {Q:d6} {c:Operand} {x y:Code} {p:Prop} {_:Decidable p} (ht:p->DW Γ x Q k L H) (hf:¬ p->DW Γ y Q k L H) (hc:ai L c = .d (.bool (decide p)):=by exact rfl):DW Γ (.cond c x y) Q k L H:=bi hc ht hf
theorem zs {G A:Prop} (h:A) (s:A->G:=by (first|exact y0|exact y12|exact jj|exact y5|exact y14|exact y6|exact y7|exact y8|exact y9|exact y10|exact y11|exact dw_seq2|exact y16|exact y20|exact dw_block|exact dw_skip|exact dw_exit|exact y18|exact y19|exact i6|exact yl|exact thenD_r|exact inB_n|exact inB_r|exact y17|exact y1|exact y3|exact y4|exact y2|fail)):G:=s h
theorem zr {G A:Prop} (h:A) (s:A->G:=by (first|exact y0|exact dv|exact y12|exact jj|exact y5|exact y14|exact y6|exact y7|exact y8|exact y9|exact y10|exact y11|exact dw_seq2|exact y16|exact y20|exact dw_block|exact dw_skip|exact dw_exit|exact y18|exact y19|exact i6|exact yl|exact thenD_r|exact inB_n|exact inB_r|exact y17|exact y1|exact y3|exact y4|exact y2|fail)):G:=s h
theorem y23 {Γ:Ctx} {k:Nat} {L:Sl} {H:Hp} {c:Operand} {x y:Code} {Q:d6} {p:Prop} {_:Decidable p} (hc:ai L c = .d (.bool (decide p)):=by exact rfl):(p->DW Γ x Q k L H)->(¬ p->DW Γ y Q k L H)->DW Γ (.cond c x y) Q k L H:=λu v=>bi hc u v
theorem y24 {Γ:Ctx} {k:Nat} {L:Sl} {H:Hp} {c:Operand} {x y:Code} {Q:d6} {b:Bool} (hc:ai L c = .d (.bool b):=by exact rfl):(b=true->DW Γ x Q k L H)->(b=false->DW Γ y Q k L H)->DW Γ (.cond c x y) Q k L H:=λu v=>ff hc u v
theorem y25  {op:Op} {ty:TypeId} {pos:String} {af:Array Edge} {j:Nat} {want:Bool} {p:Prop} {_:Decidable p} {dst:Option Nat} {oj:Oper} {t:Nat} (h1:mi ops j=some oj:=by exact rfl) (h2:oj.dst=some t:=by exact rfl) (hb:L.get t = .d (.bool (decide p)):=by exact rfl):(p->DS q Γ ops (⟨dst,op,ty,pos,af,some (j,want)⟩::rest) K k ((t,.d (.bool true))::L) H)->(¬ p->DS q Γ ops (⟨dst,op,ty,pos,af,some (j,want)⟩::rest) K k ((t,.d (.bool false))::L) H)->DS q Γ ops (⟨dst,op,ty,pos,af,some (j,want)⟩::rest) K k L H:=λu v=>ds_guardP h1 h2 hb u v
theorem y26  {op:Op} {ty:TypeId} {pos:String} {af:Array Edge} {j:Nat} {want b:Bool} {dst:Option Nat} {oj:Oper} {t:Nat} (h1:mi ops j=some oj:=by exact rfl) (h2:oj.dst=some t:=by exact rfl) (hb:L.get t = .d (.bool (b)):=by exact rfl):(b=true->DS q Γ ops (⟨dst,op,ty,pos,af,some (j,want)⟩::rest) K k ((t,.d (.bool true))::L) H)->(b=false->DS q Γ ops (⟨dst,op,ty,pos,af,some (j,want)⟩::rest) K k ((t,.d (.bool false))::L) H)->DS q Γ ops (⟨dst,op,ty,pos,af,some (j,want)⟩::rest) K k L H:=λu v=>ds_guardB h1 h2 hb u v
theorem y27 {i:Nat} {op:Op} {ty:TypeId} {pos:String} {af:Array Edge} {j:Nat} {want:Bool} {p:Prop} {_:Decidable p} {dst:Option Nat} {oj:Oper} {t:Nat} (h1:mi ops j=some oj:=by exact rfl) (h2:oj.dst=some t:=by exact rfl) (hb:L.get t = .d (.bool (decide p)):=by exact rfl):(p->DT Γ ops κ ((i,⟨dst,op,ty,pos,af,some (j,want)⟩)::rem) lg Kf ((t,.d (.bool true))::L) H)->(¬ p->DT Γ ops κ ((i,⟨dst,op,ty,pos,af,some (j,want)⟩)::rem) lg Kf ((t,.d (.bool false))::L) H)->DT Γ ops κ ((i,⟨dst,op,ty,pos,af,some (j,want)⟩)::rem) lg Kf L H:=λu v=>dt_guardP h1 h2 hb u v
theorem y28 {i:Nat} {op:Op} {ty:TypeId} {pos:String} {af:Array Edge} {j:Nat} {want b:Bool} {dst:Option Nat} {oj:Oper} {t:Nat} (h1:mi ops j=some oj:=by exact rfl) (h2:oj.dst=some t:=by exact rfl) (hb:L.get t = .d (.bool (b)):=by exact rfl):(b=true->DT Γ ops κ ((i,⟨dst,op,ty,pos,af,some (j,want)⟩)::rem) lg Kf ((t,.d (.bool true))::L) H)->(b=false->DT Γ ops κ ((i,⟨dst,op,ty,pos,af,some (j,want)⟩)::rem) lg Kf ((t,.d (.bool false))::L) H)->DT Γ ops κ ((i,⟨dst,op,ty,pos,af,some (j,want)⟩)::rem) lg Kf L H:=λu v=>dt_guard h1 h2 hb u v
theorem zm {G A B:Prop} (h:A) (u:B) (s:A->B->G:=by (first|exact y23|exact y24|((fail_if_success (refine λ_ _=>?_;apply ds_known;exact rfl));exact y25)|((fail_if_success (refine λ_ _=>?_;apply ds_known;exact rfl));exact y26)|((fail_if_success (refine λ_ _=>?_;apply dt_known;exact rfl));exact y27)|((fail_if_success (refine λ_ _=>?_;apply dt_known;exact rfl));exact y28)|fail)):G:=s h u
end
end
section
open Go Go.RowKit
variable [Bnds]
def KeptR (J:Nat) (R:Nat->SV->Hp->Prop) (_:Nat) (r:SV) (H:Hp):Prop :=
 ∃ (ρ:Nat->Nat) (k2:Nat) (r2:SV) (H2:Hp),r=r2.ren ρ/\KnowsH ρ H H2/\Hp.low k2 H2=true/\a7 (H2.map λp=>ρ p.1)=true/\a7 (H2.map (·.1))=true/\B6 J k2=true/\ld ρ J=true/\r2.low k2=true/\R k2 r2 H2
theorem kp {J:Nat} {R:Nat->SV->Hp->Prop} {k:Nat} {r:SV} {H:Hp} (ρ:Nat->Nat) (k2:Nat) (r2:SV) (H2:Hp) (hR:R k2 r2 H2) (h1:r=r2.ren ρ:=by exact rfl) (h2:KnowsH ρ H H2:=by (repeat' (first | exact trivial | refine ⟨rfl, ?_⟩))) (h3:Hp.low k2 H2=true:=by exact rfl) (h4:a7 (H2.map λp=>ρ p.1)=true:=by exact rfl) (h5:a7 (H2.map (·.1))=true:=by exact rfl) (h6:Nat.ble J k2=true:=by exact rfl) (h7:ld ρ J=true:=by exact rfl) (h8:r2.low k2=true:=by exact rfl):KeptR J R k r H:=⟨ρ,k2,r2,H2,h1,h2,h3,h4,h5,h6,h7,h8,hR⟩
theorem fn_enterR {dr:Bool} {P:Program} {τ:List (Nat×TI)} {τok:dc P τ} {f:FuncId} {fn:Func} {c:Code} {args:List SV} {J k:Nat} {H:Hp} {R:Nat->SV->Hp->Prop} (N:Nat) (hf:P.funcs[f]?=some fn) (hb:fn.body=some c)
  (hN:args.length+(fn.ntmps-args.length)=N) (hcall:d9 P f=true)
  (h:∀ (O:Nat->Prop) (w0:World) (E0:Nat->Prop) (β0:Nat->Nat×Value),DW ⟨P,τ,τok,O,w0,E0,N,J,β0,none,cy,true,dr⟩ c (RetQ τ fn.results.toList (KeptR J R)) k (nl 0 args) H):FnOk dr P τ τok f args J k H R:=by
 have h2:=fn_enter (J:=J) (k:=k) (H:=H) N hf hb hN hcall (R:=KeptR J R) h;refine⟨h2.1,λO e w vs hH hr=>(h2.2 O e w vs hH hr).mono ?_⟩
 rintro en w' ⟨k',r,H',e',v,⟨ρ,k2,r2,H2,rfl,hK,hl,hd,hd',hj,ha,hrl,hR⟩,rfl,hH',hrel⟩;obtain⟨g1,g2⟩:=hH'.ren ρ k2 H2 hK hl hd hd' hj ha;exact⟨k2,r2,H2,e'.ren ρ k2,v,hR,rfl,g1,Rel.keep (Af _) (λ_ _ _=>rfl) (λb _ hy=>g2 b hy) _ _ (Rel.ren ρ k2 r2 v hrl hrel)⟩
theorem frE {dr:Bool} {P:Program} {τ:List (Nat×TI)} {τok:dc P τ} {f:FuncId} {fn:Func} {c:Code} {args:List SV} {J k:Nat} {H:Hp} {R:Nat->SV->Hp->Prop} {N:Nat} (hf:P.funcs[f]?=some fn) (h:∀ (O:Nat->Prop) (w0:World) (E0:Nat->Prop) (β0:Nat->Nat×Value),DW ⟨P,τ,τok,O,w0,E0,N,J,β0,none,cy,true,dr⟩ c (RetQ τ fn.results.toList (KeptR J R)) k (nl 0 args) H) (hb:fn.body=some c:=by exact rfl) (hN:args.length+(fn.ntmps-args.length)=N:=by exact rfl) (hcall:d9 P f=true:=by kernel_rfl):FnOk dr P τ τok f args J k H R:=fn_enterR N hf hb hN hcall h
theorem r9 {α:Type} {l:List α} {i:Nat} {v:α} (h:l[i]?=some v):l.set i v=l:=by
 apply List.ext_getElem?;intro j;rw [List.getElem?_set];split
 ·rename_i hij;subst hij;obtain⟨h1,h2⟩:=List.getElem?_eq_some_iff.1 h;rw [if_pos h1,h]
 ·rfl
section
variable {Γ : Ctx} {k : Nat} {L : Sl} {H H' : Hp} {Q : d6} {c : Code}
theorem ib (i o:Nat) (te:TypeId) (es:Nat) {tb:TypeId} {cs:List SV} (hH:Hp.get H i=some (.blk tb cs)) (hc:cs[o]?=some .nils) (hS:setF ((k,.row te es [])::H) i (.blk tb (cs.set o (.row k))) some=some H'):Ent Γ k L H (k+1) L H':=by
 rw [oo] at hS;cases hS;intro e a w m;have hη:(e.bindRow k (.slice none 0 0)).η k = .slice none 0 0:=if_pos rfl;have m2:=(m.new (jf k) (hb:=.row te es []) (e':=e.bindRow k (.slice none 0 0)) (w':=w) (λi=>or_congr (m.top i) Iff.rfl) (e.bindRow_ext _ _ (λh=>jf k ((m.top k).1 h))) (Beld.refl _ _ _)
  (λb hb=>by simp [HB.owned,hη,Value.ownBlock] at hb) (λ_=>⟨[],by rw [hη];exact World.ownsRow_nil w 0 te es,by simp,by simp,by simp⟩)).cast (gv k)
 have hik:i<k:=(m.top i).1 (m.heap _ (Hp.mem_of hH)).1;have hH2:Hp.get ((k,.row te es [])::H) i=some (.blk tb cs):=by
  rw [Hp.get_cons,if_neg (by omega)];exact hH
 refine⟨_,m2.turn hH2 (Af _) rfl rfl rfl (λ_=>Af _) (λ_ _ _=>rfl) rfl ?_⟩
 obtain⟨vs,h1,h2,h3⟩:=(m2.heap _ (Hp.mem_of hH2)).2;refine⟨vs,h1,?_,h3⟩
 obtain⟨v,g1,g2⟩:=RelL.get cs vs h2 o .nils hc;have g2:v = .slice none 0 0:=g2;have:=RelL.set cs vs h2 o (.row k) v ⟨(m2.top k).2 (Nat.lt_succ_self k),by rw [hη,g2],by rw [g2];rfl⟩
 rwa [r9 g1] at this
theorem ent_cellseal (i o j:Nat) {es:Nat} {te tb:TypeId} {cs:List SV} {xs:List (List D)} {H1:Hp} (hj:Hp.get H j=some (.row te es xs)) (hD:delF H j some=some H1) (hH:Hp.get H1 i=some (.blk tb cs)) (hc:cs[o]?=some (.row j))
  (hS:setF H1 i (.blk tb (cs.set o (.d (.slice es xs)))) some=some H'):Ent Γ k L H k L H':=by
 rw [pt] at hD;cases hD;rw [oo] at hS;cases hS;intro e a w m;obtain⟨m2,_⟩:=m.del j;have hrow:=qk m hj;refine⟨_,m2.turn hH (Af _) rfl rfl rfl (λ_=>Af _) (λ_ _ _=>rfl) rfl ?_⟩
 obtain⟨vs,h1,h2,h3⟩:=(m2.heap _ (Hp.mem_of hH)).2;refine⟨vs,h1,?_,h3⟩
 obtain⟨v,g1,g2⟩:=RelL.get cs vs h2 o (.row j) hc;have:=RelL.set cs vs h2 o (.d (.slice es xs)) v (by rw [g2.2.1];exact hrow)
 rwa [r9 g1] at this
theorem dw_lenC (i o:Nat) {tb:TypeId} {cs:List SV} {es:Nat} {xs:List (List D)} (hH:Hp.get H i=some (.blk tb cs)) (hc:cs[o]?=some (.d (.slice es xs))) (hk:xs.length<=9223372036854775807->DW Γ c Q k L H):DW Γ c Q k L H:=by
 intro e a w m;obtain⟨v,_,g2⟩:=HRel.blk_cell (m.heap _ (Hp.mem_of hH)).2 hc;obtain⟨ao,cap,_,h1,h2,_⟩:=g2.slice_inv;exact hk (by unfold maxLen at h2;omega) e a w m
theorem ent_cellnil (i o es:Nat) {tb:TypeId} {cs:List SV} (hH:Hp.get H i=some (.blk tb cs)) (hc:cs[o]?=some .nils) (hS:setF H i (.blk tb (cs.set o (.d (.slice es [])))) some=some H'):Ent Γ k L H k L H':=by
 rw [oo] at hS;cases hS;intro e a w m;refine⟨_,m.turn hH (Af _) rfl rfl rfl (λ_=>Af _) (λ_ _ _=>rfl) rfl ?_⟩
 obtain⟨vs,h1,h2,h3⟩:=(m.heap _ (Hp.mem_of hH)).2;refine⟨vs,h1,?_,h3⟩
 obtain⟨v,g1,g2⟩:=RelL.get cs vs h2 o .nils hc;have g2:v = .slice none 0 0:=g2;have:=RelL.set cs vs h2 o (.d (.slice es [])) v (by rw [g2];exact .nil)
 rwa [r9 g1] at this
theorem dm {t:Nat} (te:TypeId) (es:Nat) (h:L.get t = .nils):Ent Γ k L H (k+1) ((t,.row k)::L) ((k,.row te es [])::H):=by
 intro e a w m;have hη:(e.bindRow k (.slice none 0 0)).η k = .slice none 0 0:=if_pos rfl;have m2:=(m.new (jf k) (hb:=.row te es []) (e':=e.bindRow k (.slice none 0 0)) (w':=w) (λi=>or_congr (m.top i) Iff.rfl) (e.bindRow_ext _ _ (λh=>jf k ((m.top k).1 h))) (Beld.refl _ _ _)
  (λb hb=>by simp [HB.owned,hη,Value.ownBlock] at hb) (λ_=>⟨[],by rw [hη];exact World.ownsRow_nil w 0 te es,by simp,by simp,by simp⟩)).cast (gv k)
 refine⟨_,⟨m2.toHeap,m2.defers,m2.len,λt'=>?_⟩⟩
 rw [Sl.get_cons];split
 ·rename_i ht;subst ht;have hs:=m.slot t;rw [h] at hs;refine⟨.inr rfl,?_⟩
  have hs:a.tmps.getD t undef = .slice none 0 0:=hs;exact⟨hs.trans hη.symm,by rw [hs];rfl⟩
 ·exact m2.slot t'
theorem cr {i es:Nat} {te:TypeId} {xs:List (List D)} (t:Nat) (hL:L.get t = .row i) (hH:Hp.get H i=some (.row te es xs)) (hD:delF H i some=some H'):Ent Γ k L H k ((t,.d (.slice es xs))::L) H':=by
 rw [pt] at hD;cases hD;intro e a w m;obtain⟨m2,_⟩:=m.del i;refine⟨e,⟨m2.toHeap,m2.defers,m2.len,λt'=>?_⟩⟩
 rw [Sl.get_cons];split
 ·rename_i ht;subst ht;have hs:=m.slot t;rw [hL] at hs;rw [hs.2.1];exact qk m hH
 ·exact m2.slot t'
theorem dz (t es:Nat) (hL:L.get t = .nils):Ent Γ k L H k ((t,.d (.slice es []))::L) H:=by
 intro e a w m;refine⟨e,⟨m.toHeap,m.defers,m.len,λt'=>?_⟩⟩
 rw [Sl.get_cons];split
 ·rename_i ht;subst ht;have hs:=m.slot t;rw [hL] at hs;rw [hs];exact .nil
 ·exact m.slot t'
end
end
section
open Go Go.RowKit
variable [Bnds]
def D.flat:D->Bool
 | .int _ _=>true
 | .bool _=>true
 | .str _=>true
 | _=>false
def OwnsL:List D->List D->Prop
 | [],[]=>True
 | d'::r',d::r=>(d' = .own Bnds.B d∨(d'=d/\d.flat=true))/\OwnsL r' r
 | _,_=>False
theorem OwnsL.len:∀ {a b:List D},OwnsL a b->a.length=b.length
 | [],[],_=>rfl
 | [],_::_,h=>h.elim
 | _::_,[],h=>h.elim
 | _::a,_::b,h=>by simp [OwnsL.len h.2]
theorem OwnsL.get:∀ {a b:List D},OwnsL a b->∀ j (h1:j<a.length) (h2:j<b.length),a[j] = .own Bnds.B b[j]∨(a[j]=b[j]/\(b[j]).flat=true)
 | [],[],_,_,h,_=>nomatch h
 | [],_::_,h,_,_,_=>h.elim
 | _::_,[],h,_,_,_=>h.elim
 | _::a,_::b,h,0,_,_=>h.1
 | _::a,_::b,h,j+1,h1,h2=>by simpa using OwnsL.get h.2 j (by simpa using h1) (by simpa using h2)
theorem RepC.unown {X:Nat->Prop} {w:World} {v:Value} {B:Nat} {x:D} (h:RepC X w v (.own B x)):RepC (lim X B 1) w v x:=by cases h with|own h=>exact h
theorem RepC.ofFlat {X Y:Nat->Prop} {w:World} {v:Value} {x:D} (hf:x.flat=true) (h:RepC X w v x):RepC Y w v x:=by
 cases x with
 | int=>cases h with|int h=>exact .int h
 | bool=>cases h;exact .bool
 | str=>cases h with|str h=>exact .str h
 | _=>cases hf
theorem RepC.ofOwns {X:Nat->Prop} {w:World} {v:Value} {d' d:D} (ho:d' = .own Bnds.B d∨(d'=d/\d.flat=true)) (h:RepC X w v d'):RepC (lim X Bnds.B 1) w v d:=by
 rcases ho with rfl|⟨rfl,hf⟩
 ·exact h.unown
 ·exact h.ofFlat hf
def OwnsLL (a b:List (List D)):Prop:=a.length=b.length/\∀ i (h1:i<a.length) (h2:i<b.length),OwnsL a[i] b[i]
theorem e6 {α:Type} {f' f:α->List D} (h:∀ x,OwnsL (f' x) (f x)) (l:List α):OwnsLL (l.map f') (l.map f):=⟨by simp,λi h1 h2=>by simpa using h _⟩
theorem RepC.owned {X:Nat->Prop} {w:World} {v:Value} {es:Nat} {xs' xs:List (List D)} (ho:OwnsLL xs' xs) (hv:∀ b,v.ownBlock=some b->Bnds.B<=b) (h:RepC X w v (.slice es xs')):RepC X w v (.own Bnds.B (.slice es xs)):=by
 obtain⟨hl,ho⟩:=ho;cases h with
 | nil =>
  have:xs=[]:=Bm hl.symm
  subst this;exact .own .nil
 | zero =>
  have:xs=[]:=Bm hl.symm
  subst this;exact .own .zero
 | slice c hn hc hm hX hb he hcell hrep hz =>
  rename_i b off n cap;have hB:Bnds.B<=b:=hv b rfl;have hle:∀ i (h:i<xs.length),(xs[i]'h).length=(xs'[i]'(hl▸h)).length:=λi h=>((ho i (hl▸h) h).len).symm
  refine .own (.slice c (hn.trans hl) hc hm (λhx=>hx.elim hX λh=>Nat.not_lt.2 hB h) hb (λi h=>(hle i h).trans (he i (hl▸h))) (λi h j hj=>hcell i (hl▸h) j (hle i h▸hj)) (λi h j hj=>?_) (λhF i h j hj=>hz hF i (hl▸h) j (hle i h▸hj)));exact RepC.ofOwns ((ho i (hl▸h) h).get j (hle i h▸hj) hj) (hrep i (hl▸h) j (hle i h▸hj))
section
variable {Γ : Ctx} {k : Nat} {L : Sl} {H H' : Hp}
theorem ko {i es:Nat} {te:TypeId} {xs' xs:List (List D)} (t:Nat) (ho:OwnsLL xs' xs) (hL:L.get t = .row i) (hH:Hp.get H i=some (.row te es xs')) (hD:delF H i some=some H'):Ent Γ k L H k ((t,.d (.own Bnds.B (.slice es xs)))::L) H':=by
 intro e a w m;have hv:Rel (Γ.X e H) e w (.row i) (a.tmps.getD t undef):=by have:=m.slot t;rw [hL] at this;exact this
 have habove:∀ b,(e.η i).ownBlock=some b->Bnds.B<=b:=λb hb=>m.above b (List.mem_filterMap.2 ⟨_,Hp.mem_of hH,hb⟩)
 obtain⟨e',m2⟩:=cr t hL hH hD e a w m;refine⟨e',⟨m2.toHeap,m2.defers,m2.len,λt'=>?_⟩⟩
 have h2:=m2.slot t';rw [Sl.get_cons] at h2 ⊢;split
 ·rename_i ht;subst ht;rw [if_pos rfl] at h2;exact RepC.owned ho (λb hb=>habove b (by rw [<- hv.2.1];exact hb)) h2
 ·rename_i ht;rw [if_neg ht] at h2;exact h2
theorem cz (t es:Nat) (hL:L.get t = .nils):Ent Γ k L H k ((t,.d (.own Bnds.B (.slice es [])))::L) H:=by
 intro e a w m;refine⟨e,⟨m.toHeap,m.defers,m.len,λt'=>?_⟩⟩
 rw [Sl.get_cons];split
 ·rename_i ht;subst ht;have:=m.slot t
  rw [hL] at this;have hv:a.tmps.getD t undef = .slice none 0 0:=this;rw [hv];exact RepC.own .nil
 ·exact m.slot t'
end
mutual
theorem SV.weak_low {k:Nat}:∀ {s:SV},s.low k=true->s.weak.low k=true
 | .rg _ 0 _,_=>rfl
 | .rg _ 1 _,_=>rfl
 | .rg _ (_+2) _,_=>rfl
 | .d (.own _ _),_=>rfl
 | .d (.int _ _),_=>rfl
 | .d (.bool _),_=>rfl
 | .d (.str _),_=>rfl
 | .d (.slice _ _),_=>rfl
 | .d (.ptr _),_=>rfl
 | .agg ss,h=>SV.weakL_low (ss:=ss) h
 | .tup ss,h=>SV.weakL_low (ss:=ss) h
 | .junk,h=>h
 | .nils,h=>h
 | .pd _,h=>h
 | .loc _ _,h=>h
 | .row _,h=>h
 | .mp _,h=>h
 | .md _ _,h=>h
 | .prow _ _ _ _,h=>h
 | .sl _ _ _ _,h=>h
 | .rsl _ _ _ _,h=>h
 | .fn _ _,h=>h
 | .val _,h=>h
theorem SV.weakL_low {k:Nat}:∀ {ss:List SV},SV.lowL k ss=true->SV.lowL k (SV.weakL ss)=true
 | [],_=>rfl
 | s::ss,h=>by
  simp only [SV.lowL,Ad] at h
  simp only [SV.weakL,SV.lowL,Ad]
  exact⟨SV.weak_low h.1,SV.weakL_low h.2⟩
end
theorem FnP.ofWeak {dr:Bool} {P:Program} {τ:List (Nat×TI)} {τok:dc P τ} {f:FuncId} {args:List SV} {R:SV->Prop} (ss:List SV) (hc:FnP dr P τ τok f args R) (ha:SV.weakL ss=args):FnP dr P τ τok f ss R :=
 ⟨hc.1,λO e w vs hH hr=>hc.2 O e w vs hH (ha▸RelL.weak _ _ hr)⟩
theorem FnP.own1 {dr:Bool} {P:Program} {τ:List (Nat×TI)} {τok:dc P τ} {f:FuncId} {x:D} {r:List SV} {R:SV->Prop} (h:FnP dr P τ τok f (.d x::r) R) (hr:SV.weakL r=r):FnP dr P τ τok f (.d (.own Bnds.B x)::r) R :=
 FnP.ofWeak _ h (by simp only [SV.weakL,SV.weak,hr])
theorem FnP.own2 {dr:Bool} {P:Program} {τ:List (Nat×TI)} {τok:dc P τ} {f:FuncId} {a:SV} {x:D} {r:List SV} {R:SV->Prop} (h:FnP dr P τ τok f (a::.d x::r) R) (ha:a.weak=a) (hr:SV.weakL r=r):FnP dr P τ τok f (a::.d (.own Bnds.B x)::r) R :=
 FnP.ofWeak _ h (by simp only [SV.weakL,SV.weak,hr,ha])
theorem FnP.wk {dr:Bool} {P:Program} {τ:List (Nat×TI)} {τok:dc P τ} {f:FuncId} {args:List SV} {R:SV->Prop} (h:FnP dr P τ τok f args R):FnP dr P τ τok f args (λr=>∃ r0,R r0/\r=r0.weak) :=
 ⟨h.1,λO e w vs hH hr=>(h.2 O e w vs hH hr).mono λ_ _ ⟨k',r,H',e',v,⟨a,b,c⟩,d,g,i⟩=>⟨k',r.weak,H',e',v,⟨a,SV.weak_low b,r,c,rfl⟩,d,g,Rel.weak _ _ i⟩⟩
theorem FnP.unown {dr:Bool} {P:Program} {τ:List (Nat×TI)} {τok:dc P τ} {f:FuncId} {args:List SV} {s:SV} (h:FnP dr P τ τok f args (λr=>r=s)):FnP dr P τ τok f args (λr=>r=s.weak) :=
 ⟨h.1,λO e w vs hH hr=>(h.2 O e w vs hH hr).mono λ_ _ ⟨k',r,H',e',v,⟨a,b,c⟩,d,g,i⟩=>⟨k',s.weak,H',e',v,⟨a,SV.weak_low (c▸b),rfl⟩,d,g,Rel.weak _ _ (c▸i)⟩⟩
end
end Go.Proofs.YtapciiffpnociadGreat
