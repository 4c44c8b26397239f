/- Several texts in one: GxDo TokP TokE. Condition: none. -/
import Derived.Test.YtapciiffpnociadGreatT07
import Derived.Test.YtapciiffpnociadGreatT01
import Derived.Test.YtapciiffpnociadGreatT02
open Array renaming toList_append→Cd
open Bool renaming and_eq_true→Ae
open Int renaming toNat_of_nonneg→Az
open List renaming all_append→Dj,append_nil→Bt,drop_eq_getElem_cons→Am,length_cons→Bj,length_map→Aa
open Nat renaming beq→Aw,ble→C0,blt→Av,eq_of_beq_eq_true→Ao,le_of_ble_eq_true→Ab,le_refl→Ah
namespace Go.Proofs.YtapciiffpnociadGreat
open Go Go.RowKit
theorem ic (c:UInt8):0<=(c.toNat:Int)/\(c.toNat:Int)<=255:=by have:=c.toNat_lt;omega
theorem hv_chr {c:UInt8}:SV.d (.str ⟨#[UInt8.ofNat (c.toNat:Int).toNat]⟩) = .d (.str ⟨#[c]⟩):=by simp
theorem hv_row {α:Type} {l:List α} {f:α->List D} {n:Int} {j:Nat} (hn:n=(j:Int)) (h:j<(l.map f).length):SV.pd (wu (l.map f) n.toNat) = .pd (f (l[j]'(by simpa using h))):=by
 have h':j<l.length:=by simpa using h
 subst hn;simp [wu,List.getD,h']
theorem yw {α:Type} {f:α->List D} {l:List α} {n:Int} {j es:Nat} (hn:n=(j:Int)):SV.d (.slice es (((l.map f).take n.toNat).drop (0:Int).toNat)) = .d (.slice es ((l.take j).map f)):=by subst hn;simp
theorem yx {α:Type} {f:α->List D} {l:List α} {n:Int} {j es:Nat} (hn:n=(j:Int)):SV.d (.slice es (((l.map f).take (((l.map f).length:Nat):Int).toNat).drop n.toNat)) = .d (.slice es ((l.drop j).map f)):=by
 subst hn;have h:(l.map f).take (((l.map f).length:Nat):Int).toNat=l.map f:=List.take_of_length_le (by simp);rw [h,List.map_drop];simp
theorem hv_prow {i es o:Nat} {n:Int} {j:Nat} (hn:n=(j:Int)):SV.prow i n.toNat es o = .prow i j es o:=by subst hn;rfl
theorem hv_ldrow {τ:List (Nat×TI)} {t:TypeId} {o j:Nat} {xs:List (List D)} {ds:List D} {p:Prop} {s:SV} (hg:xs[j]?=some ds) (hs:sy τ t (.pd (ds.drop o)) (λ_=>none)=some (p,s)):loadRow τ t (wu xs j) o=s:=by
 have hr:wu xs j=ds:=by simp [wu,List.getD,hg]
 unfold loadRow;rw [hr,hs]
theorem iq {α:Type} {f:α->List D} {l:List α} {j:Nat} (h:j<(l.map f).length):(l.map f)[j]?=some (f (l[j]'(by simpa using h))):=by
 have h':j<l.length:=by simpa using h
 simp [h']
theorem hv_sat {s:ByteArray} {n:Int} {j:Nat} (hn:n=(j:Int)) (h:j<s.size):SV.d (.int .u8 (sat s n.toNat)) = .d (.int .u8 ((s[j]'h).toNat:Int)):=by
 subst hn;simp [sat_eq h]
theorem hv_ext {s:ByteArray} {n m:Int} {i j:Nat} (hn:n=(i:Int)) (hm:m=(j:Int)):SV.d (.str (s.extract n.toNat m.toNat)) = .d (.str (s.extract i j)):=by
 subst hn;subst hm;rfl
mutual
theorem SV.ren_id:∀ (s:SV),s.ren id=s
 | .junk=>rfl
 | .d _=>rfl
 | .nils=>rfl
 | .pd _=>rfl
 | .loc _ _=>rfl
 | .row _=>rfl
 | .mp _=>rfl
 | .md _ _=>rfl
 | .prow _ _ _ _=>rfl
 | .sl _ _ _ _=>rfl
 | .rsl _ _ _ _=>rfl
 | .fn f caps=>by simp only [SV.ren,SV.renL_id caps]
 | .agg ss=>by simp only [SV.ren,SV.renL_id ss]
 | .tup ss=>by simp only [SV.ren,SV.renL_id ss]
 | .val _=>rfl
theorem SV.renL_id:∀ (ss:List SV),SV.renL id ss=ss
 | []=>rfl
 | s::ss=>by simp only [SV.renL,SV.ren_id s,SV.renL_id ss]
end
def Kept (J:Nat) (R:Nat->SV->Hp->Prop) (_:Nat) (r:SV) (H:Hp):Prop :=
 ∃ k2 H2,KnowsH id H H2/\Hp.low k2 H2=true/\aw (H2.map (·.1))=true/\C0 J k2=true/\r.low k2=true/\R k2 r H2
theorem anchorOk_id:∀ J,l5 id J=true
 | 0=>rfl
 | J+1=>by simp only [l5,Ae];exact⟨Nat.beq_refl J,anchorOk_id J⟩
theorem fn_enterF {dr:Bool} {P:Program} {τ:List (Nat×TI)} {τok:dz P τ} {f:FuncId} {fn:Func} {c:Code} {args:List SV} {J k:Nat} {H:Hp} {R:Nat->SV->Hp->Prop} (N:Nat) (hf:P.funcs[f]?=some fn) (hb:fn.body=some c)
  (hN:args.length+(fn.ntmps-args.length)=N) (hcall:fj P f=true)
  (h:∀ (O:Nat->Prop) (w0:World) (E0:Nat->Prop) (β0:Nat->Nat×Value),DW ⟨P,τ,τok,O,w0,E0,N,J,β0,none,dl,true,dr⟩ c (RetQ τ fn.results.toList (Kept J R)) k (o7 0 args) H):FnOk dr P τ τok f args J k H R:=by
 have h2:=fn_enter (J:=J) (k:=k) (H:=H) N hf hb hN hcall (R:=Kept J R) h;refine⟨h2.1,λO e w vs hH hr=>(h2.2 O e w vs hH hr).mono ?_⟩
 rintro en w' ⟨k',r,H',e',v,⟨k2,H2,hK,hl,hd,hj,hrl,hR⟩,rfl,hH',hrel⟩;obtain⟨g1,g2⟩:=hH'.ren id k2 H2 hK hl hd hd hj (anchorOk_id J);exact⟨k2,r,H2,e'.ren id k2,v,hR,rfl,g1,Rel.keep (Ah _) (λ_ _ _=>rfl) (λb _ hy=>g2 b hy) _ _ (Rel.ren id k2 r v hrl ((SV.ren_id r).symm▸hrel))⟩
section
variable {Γ : Ctx} {k κ : Nat} {L : Sl} {H : Hp} {K : cy} {ops : List Oper} {rest : List Oper} {q : Bool}
theorem ds_evC {d:Nat} {op:Op} {ty:TypeId} {pos:String} {af:Array Edge} {g:Option (Nat×Bool)} {p:Prop} {s s':SV} (he:evC Γ.τ (ap L) (Hp.get H) op=some (p,s)) (hp:p) (hv:s=s') (hok:bz op=true)
  (hw:au ops L g=some true) (hd:Av d Γ.n=true) (hk:DS q Γ ops rest K k ((d,s')::L) H):DS q Γ ops (⟨some d,op,ty,pos,af,g⟩::rest) K k L H:=by
 subst hv;exact je (evC_sound he hp hok) hw hd hk
def zk:Hp->Nat->HB->(Hp->Option Hp)->Option Hp
 | [],_,_,k=>k []
 | (d,s)::H,i,b,k=>match Aw d i with
  | true=>k ((d,b)::H)
  | false=>zk H i b λH'=>k ((d,s)::H')
theorem l6 (i:Nat) (b:HB):∀ (H:Hp) (k:Hp->Option Hp),zk H i b k=k (Hp.set H i b)
 | [],_=>rfl
 | (d,s)::H,k=>by
  simp only [zk,Hp.set]
  cases h:Aw d i with
  | true=>rfl
  | false=>simp only [l6 i b H]
def zn:Hp->Nat->(Hp->Option Hp)->Option Hp
 | [],_,k=>k []
 | (d,s)::H,i,k=>match Aw d i with
  | true=>k H
  | false=>zn H i λH'=>k ((d,s)::H')
theorem ni (i:Nat):∀ (H:Hp) (k:Hp->Option Hp),zn H i k=k (Hp.del H i)
 | [],_=>rfl
 | (d,s)::H,k=>by
  simp only [zn,Hp.del]
  cases h:Aw d i with
  | true=>rfl
  | false=>simp only [ni i H]
theorem ds_newC {d:Nat} {op:Op} {ty:TypeId} {pos:String} {af:Array Edge} {g:Option (Nat×Bool)} {p:Prop} {s:SV} {b:HB} (he:mj Γ.τ (ap L) (Hp.get H) k op=some (p,s,.new b)) (hp:p) (hok:bz op=true)
  (hw:au ops L g=some true) (hd:Av d Γ.n=true) (hk:DS false Γ ops rest K (k+1) ((d,s)::L) ((k,b)::H)):DS false Γ ops (⟨some d,op,ty,pos,af,g⟩::rest) K k L H :=
 z6 hw ((vt he hp trivial hok hd (gn k)).cast (ff k)) hk
theorem ds_tradeC [NoDr Γ] {d j:Nat} {op:Op} {ty:TypeId} {pos:String} {af:Array Edge} {g:Option (Nat×Bool)} {p:Prop} {s:SV} {b:HB} {H':Hp} (he:mj Γ.τ (ap L) (Hp.get H) k op=some (p,s,.trade j b)) (hp:p) (hok:bz op=true)
  (hw:au ops L g=some true) (hd:Av d Γ.n=true) (hH:zn H j some=some H') (hk:DS false Γ ops rest K (k+1) ((d,s)::L) ((k,b)::H')):DS false Γ ops (⟨some d,op,ty,pos,af,g⟩::rest) K k L H:=by
 rw [ni] at hH;cases hH;exact z6 hw ((vt he hp (NoDr.no (Γ:=Γ)) hok hd (gn k)).cast (ff k)) hk
theorem store_sound {te ty:TypeId} {x y:Operand} {pos:String} {af:Array Edge} {g:Option (Nat×Bool)} {s:SV} {j:Nat} {b:HB} {D:Nat->Prop} (h:qf Γ.τ te (ap L x) (ap L y) (Hp.get H)=some (True,s,.set j b)) (hok:dh y=true) :
  OpOk Γ ⟨none,.store te x y,ty,pos,af,g⟩ D L H D L (Hp.set H j b):=by
 simp only [qf,gg] at h;split at h
 ·rename_i i o hx;split at h
  ·rename_i tb cs hH;split at h
   ·rename_i hc;simp only [Option.some.injEq,Prod.mk.injEq,Up.set.injEq] at h;obtain⟨_,_,rfl,rfl⟩:=h;simp only [Ae] at hc;exact op_store hx hH rfl hok hc.1 hc.2.1 hc.2.2.1 hc.2.2.2
   ·cases h
  ·cases h
 ·rename_i i j es o hx;split at h
  ·rename_i tb es' xs hH;split at h
   ·rename_i x hy;split at h
    ·rename_i hc;simp only [Option.some.injEq,Prod.mk.injEq,Up.set.injEq] at h;obtain⟨hp,_,rfl,rfl⟩:=h;have hp:=of_eq_true hp;simp only [Ae] at hc;obtain⟨c1,c2,c3,c4,c5⟩:=hc;have e3:=Ao c3;have e4:=Ao c4;have e5:=Ao c5;have e2:=Ao c2;subst e3;subst e5;rw [e4] at hH;have hone:xs[j].length=1:=hp.2 _ (List.getElem_mem hp.1);have hsp:ig xs[j] 0 [x]=[x]:=by
      unfold ig;match hx1:xs[j],hone with
      | [u],_=>rfl
     have:=op_storeP (k:=D) (te:=te) (pos:=pos) (af:=af) (g:=g) (ty:=ty) (new:=[x]) hx hH hp.1 hy hok rfl c1 (by rw [show Γ.cells te=1 from e2];rfl) rfl
     rw [hsp] at this;exact this
    ·cases h
   ·cases h
  ·cases h
 ·cases h
theorem ds_setC {te ty:TypeId} {x y:Operand} {pos:String} {af:Array Edge} {g:Option (Nat×Bool)} {s:SV} {j:Nat} {b:HB} {H':Hp} (he:qf Γ.τ te (ap L x) (ap L y) (Hp.get H)=some (True,s,.set j b)) (hok:dh y=true)
  (hw:au ops L g=some true) (hH:zk H j b some=some H') (hk:DS false Γ ops rest K k L H'):DS false Γ ops (⟨none,.store te x y,ty,pos,af,g⟩::rest) K k L H:=by
 rw [l6] at hH;cases hH;exact z6 hw (store_sound he hok) hk
theorem ds_bsC {d:Nat} {t len:Nat} {ty:TypeId} {pos:String} {af:Array Edge} {g:Option (Nat×Bool)} {ps:Array (Nat×Operand)} {p:Prop} {s:SV} (he:d9 Γ.τ (ap L) t len ps.toList=some (p,s,.no)) (hok:bz (.buildSlice t len ps)=true)
  (hw:au ops L g=some true) (hd:Av d Γ.n=true) (hk:DS false Γ ops rest K k ((d,s)::L) H):DS false Γ ops (⟨some d,.buildSlice t len ps,ty,pos,af,g⟩::rest) K k L H :=
 z6 hw (bs_sound he hok hd) hk
mutual
theorem Rel.lower {X e w} (k:Nat):∀ (s:SV) (v:Value),s.low k=true->Rel X e w s v->Rel X ⟨e.β,e.η,lo k⟩ w s v
 | .junk,_,_,_=>trivial
 | .d _,_,_,h=>h
 | .nils,_,_,h=>h
 | .pd _,_,_,h=>h
 | .loc _ _,_,hb,h=>⟨Ab hb,h.2⟩
 | .row _,_,hb,h=>⟨Ab hb,h.2⟩
 | .mp _,_,hb,h=>⟨Ab hb,h.2⟩
 | .md _ _,_,_,h=>h
 | .prow _ _ _ _,_,hb,h=>⟨Ab hb,h.2⟩
 | .sl _ _ _ _,_,hb,h=>⟨Ab hb,h.2⟩
 | .rsl _ _ _ _,_,hb,h=>⟨Ab hb,h.2⟩
 | .fn _ caps,_,hb,⟨vs,h1,h2⟩=>⟨vs,h1,RelL.lower k caps vs hb h2⟩
 | .agg ss,_,hb,⟨vs,h1,h2⟩=>⟨vs,h1,RelL.lower k ss vs hb h2⟩
 | .tup ss,_,hb,⟨vs,h1,h2⟩=>⟨vs,h1,RelL.lower k ss vs hb h2⟩
 | .val _,_,_,h=>h
theorem RelL.lower {X e w} (k:Nat):∀ (ss:List SV) (vs:List Value),SV.lowL k ss=true->RelL X e w ss vs->RelL X ⟨e.β,e.η,lo k⟩ w ss vs
 | [],[],_,_=>trivial
 | [],_::_,_,h=>h.elim
 | _::_,[],_,h=>h.elim
 | s::ss,v::vs,hb,h=>by
  simp only [SV.lowL,Ae] at hb
  exact⟨Rel.lower k s v hb.1 h.1,RelL.lower k ss vs hb.2 h.2⟩
end
theorem Sl.low_get {k:Nat}:∀ (L:Sl),Sl.low k L=true->∀ t,(Sl.get L t).low k=true
 | [],_,_=>rfl
 | (d,s)::L,h,t=>by
  simp only [Sl.low,Ae] at h
  rw [Sl.get_cons]
  split
  ·exact h.1
  ·exact Sl.low_get L h.2 t
theorem Models.lower {k':Nat->Prop} {e:Env} {a:Act} {w:World} (m:Models Γ k' L H e a w) (k:Nat) (hL:Sl.low k L=true) (hH:Hp.low k H=true) (hj:C0 Γ.J k=true):Models Γ k L H ⟨e.β,e.η,lo k⟩ a w:=by
 have hlow:=Hp.low_spec H hH;have hol:ah ⟨e.β,e.η,lo k⟩ H=ah e H:=rfl;refine⟨⟨λ_=>Iff.rfl,λp hp=>⟨(hlow p hp).1,?_⟩,m.ids,m.nodup,m.mine,m.os,m.tape,m.output,m.drawn,m.size,m.block,m.obound,λj hjl=>Nat.lt_of_lt_of_le hjl (Ab hj),m.anchor⟩,m.defers,m.len,λt=>Rel.lower k _ _ (Sl.low_get L hL t) (m.slot t)⟩
 have h:=(m.heap p hp).2;have hl:=(hlow p hp).2;obtain⟨i,b⟩:=p;cases b with
 | blk ty cs =>
  obtain⟨vs,h1,h2,h3⟩:=h;exact⟨vs,h1,RelL.lower k cs vs hl h2,h3⟩
 | row ty es xs=>exact h
 | map kd kvs=>exact h
def HB.force (b:HB) (k:HB->Prop):Prop:=match b with
 | .blk ty cs=>qw cs λcs'=>k (.blk ty cs')
 | .row ty es xs=>k (.row ty es xs)
 | .map kd kvs=>k (.map kd kvs)
theorem HB.force_eq (b:HB) (k:HB->Prop):b.force k=k b:=by cases b<;>simp [HB.force,gg]
def forceHp:Hp->(Hp->Prop)->Prop
 | [],k=>k []
 | (i,b)::r,k=>b.force λb'=>forceHp r λr'=>k ((i,b')::r')
theorem forceHp_eq:∀ (H:Hp) (k:Hp->Prop),forceHp H k=k H
 | [],_=>rfl
 | (i,b)::r,k=>by simp only [forceHp,HB.force_eq,forceHp_eq r]
def zi (q:Bool) (Γ:Ctx) (ops rest:List Oper) (K:cy) (k m d:Nat) (r:SV) (L:Sl) (H:Hp):Prop :=
 pp r λr'=>forceHp H λH'=>match Sl.low k L && (SV.low k r' && (Hp.low k H' && C0 Γ.J k)) with
  | true=>DS q Γ ops rest K k ((d,r')::L) H'
  | false=>DS q Γ ops rest K m ((d,r')::L) H'
theorem after_call {m d:Nat} {r:SV} (h:zi false Γ ops rest K k m d r L H):DS false Γ ops rest K m ((d,r)::L) H:=by
 unfold zi at h;rw [ke,forceHp_eq] at h;split at h
 ·rename_i hc;simp only [Ae] at hc;intro e a w mm;exact h _ a w (mm.lower k (by simp only [Sl.low,Ae];exact⟨hc.2.1,hc.1⟩) hc.2.2.1 hc.2.2.2)
 ·exact h
theorem bg {f:FuncId} {xs:List Operand} {ts:Array TypeId} {ty:TypeId} {pos:String} {af:Array Edge} {g:Option (Nat×Bool)} {d:Nat} {args:List SV} {J kc:Nat} {Hc:Hp} {R:Nat->SV->Hp->Prop} (ρ:Nat->Nat)
  (hc:FnOk Γ.dr Γ.P Γ.τ Γ.τok f args J kc Hc R) (hw:au ops L g=some true) (ha:nb L xs=SV.renL ρ args) (hok:eb xs=true) (hlA:SV.lowL kc args=true) (hKH:KnowsH ρ H Hc) (hl:Hp.low kc Hc=true)
  (hd:aw (Hc.map λp=>ρ p.1)=true) (hd':aw (Hc.map (·.1))=true) (hJ:C0 J kc=true) (hall:yf J (Hc.map (·.1))=true) (hdn:Av d Γ.n=true)
  (hRr:∀ k2 r H2,R k2 r H2->r.rowsGe J=true/\Hp.rowsGe J H2=true)
  (hk:∀ k2 r H2,R k2 r H2->zi false Γ ops rest K k (k+k2) d (r.ren (sig ρ J k)) L ((H2.map λp=>(sig ρ J k p.1,p.2.ren (sig ρ J k)))++oz H (Hc.map λp=>ρ p.1))) :
  DS false Γ ops (⟨some d,.call { callee:=.value (.func f),args:=xs.toArray,argTypes:=ts },ty,pos,af,g⟩::rest) K k L H :=
 ds_callO ρ hc hw ha hok hlA hKH hl hd hd' hJ hall hdn hRr λk2 r H2 h=>after_call (hk k2 r H2 h)
theorem qc {f:FuncId} {x:Operand} {caps:List SV} {xs:List Operand} {ts:Array TypeId} {ty:TypeId} {pos:String} {af:Array Edge} {g:Option (Nat×Bool)} {d:Nat} {args:List SV} {J kc:Nat} {Hc:Hp} {R:Nat->SV->Hp->Prop} (ρ:Nat->Nat)
  (hc:FnOk Γ.dr Γ.P Γ.τ Γ.τok f args J kc Hc R) (hx:ap L x = .fn f caps) (hxo:dh x=true) (hw:au ops L g=some true) (ha:nb L xs++caps=SV.renL ρ args) (hok:eb xs=true) (hlA:SV.lowL kc args=true) (hKH:KnowsH ρ H Hc) (hl:Hp.low kc Hc=true)
  (hd:aw (Hc.map λp=>ρ p.1)=true) (hd':aw (Hc.map (·.1))=true) (hJ:C0 J kc=true) (hall:yf J (Hc.map (·.1))=true) (hdn:Av d Γ.n=true)
  (hRr:∀ k2 r H2,R k2 r H2->r.rowsGe J=true/\Hp.rowsGe J H2=true)
  (hk:∀ k2 r H2,R k2 r H2->zi false Γ ops rest K k (k+k2) d (r.ren (sig ρ J k)) L ((H2.map λp=>(sig ρ J k p.1,p.2.ren (sig ρ J k)))++oz H (Hc.map λp=>ρ p.1))) :
  DS false Γ ops (⟨some d,.call { callee:=.value x,args:=xs.toArray,argTypes:=ts },ty,pos,af,g⟩::rest) K k L H :=
 ds_callVO ρ hc hx hxo hw ha hok hlA hKH hl hd hd' hJ hall hdn hRr λk2 r H2 h=>after_call (hk k2 r H2 h)
theorem mc {k':Nat} {L':Sl} {H':Hp} (he:Ent Γ k L H k' L' H') (h:DS false Γ ops rest K k' L' H'):DS false Γ ops rest K k L H:=λe a w m =>
 let ⟨e',m'⟩:=he e a w m
 h e' a w m'
def DT (Γ:Ctx) (ops:List Oper) (κ:Nat) (rest:List (Nat×Oper)) (lg:Log) (K:FS->Prop) (L:Sl) (H:Hp):Prop:=DR Γ ops κ rest lg K (ofL L H)
variable {rem : List (Nat×Oper)} {lg : Log} {Kf : FS -> Prop}
def lenIs:List Oper->Nat->Nat->Prop
 | [],k,m=>k=m
 | _::l,k,m=>lenIs l (k+1) m
theorem lenIs_spec:∀ (l:List Oper) (k m:Nat),lenIs l k m->k+l.length=m
 | [],_,_,h=>h
 | _::l,k,m,h=>by have:=lenIs_spec l (k+1) m h;simp only [Bj];omega
theorem dw_any {id m:Nat} {l:List Oper} {Q:gh} (hm:Γ.P.follows .mixedOrders=true) (hB:rm l=true) (hnd:d6 l=true) (hl:lenIs l k m) (h:DT Γ l k (ee 0 l) [] (endK Γ m (Q .normal)) L H):DW Γ (.region id l.toArray true) Q k L H :=
 dw_region_any hm hB hnd (lenIs_spec l k m hl▸h)
theorem dt_nil {m:Nat} {Q:cy} (hn:aw (H.map (·.1))=true) (h:Q m L H):DT Γ ops κ [] lg (endK Γ m Q) L H:=by
 refine .nil λe a w hr=>?_
 obtain⟨L2,H2,m2,hs⟩:=hr;have h1:∀ t,Sl.get L2 t=Sl.get L t:=λt=>congrFun (congrArg FS.ℓ hs) t
 have h2:∀ i,Hp.get H2 i=Hp.get H i:=λi=>congrFun (congrArg FS.η hs) i
 exact⟨m,L,H,e,m2.same h1 h2 (dy _ hn),h⟩
theorem dt_nil0 {m:Nat} {Q:cy} (hn:aw (H.map (·.1))=true) (hj:C0 Γ.J κ=true) (hL:Sl.low κ L=true) (hH:Hp.low κ H=true) (h:Q κ L H):DT Γ ops κ [] lg (endK Γ m Q) L H:=by
 refine .nil λe a w hr=>?_
 obtain⟨L2,H2,m2,hs⟩:=hr;have h1:∀ t,Sl.get L2 t=Sl.get L t:=λt=>congrFun (congrArg FS.ℓ hs) t
 have h2:∀ i,Hp.get H2 i=Hp.get H i:=λi=>congrFun (congrArg FS.η hs) i
 exact⟨κ,L,H,_,(m2.same h1 h2 (dy _ hn)).lower κ hL hH hj,h⟩
theorem dt_skip {i:Nat} {op:Op} {ty:TypeId} {pos:String} {af:Array Edge} {g:Option (Nat×Bool)} {dst:Option Nat} (hw:au ops L g=some false) (hd:dstOk Γ dst=true) (hlog:f8 ops i [] [] lg=true)
  (hk:DT Γ ops κ rem ((i,[],[])::lg) Kf (putL dst (.tup []) L) H):DT Γ ops κ ((i,⟨dst,op,ty,pos,af,g⟩)::rem) lg Kf L H:=by
 refine .cons false _ [] [] (.skip ((jh ops L g).trans hw) hd) hlog ⟨_,_,rfl,rfl⟩ (λv u hv=>by rw [hv.2];rfl) λv u hv=>?_
 rw [hv.1,hv.2];have:(ofL L H).app (κ+i) dst (.tup []) .no=ofL (putL dst (.tup []) L) H:=by rw [<- l7];cases dst<;>rfl
 show DR Γ ops κ rem _ Kf ((ofL L H).app (κ+i) dst (.tup []) .no);rw [this];exact hk
theorem dt_step {i:Nat} {op:Op} {ty:TypeId} {pos:String} {af:Array Edge} {g:Option (Nat×Bool)} {dst:Option Nat} {p:Prop} {v v':SV} {u:Up} (hw:au ops L g=some true)
  (hs:iz Γ.τ (ap L) (Hp.get H) (κ+i) dst op=some (p,v,u)) (hp:p) (hu:u.okD Γ.dr) (hv:v=v') (hok:bz op=true) (hd:dstOk Γ dst=true) (hn:aw (H.map (·.1))=true)
  (hlog:f8 ops i (ld (ap L) op) (u.names (κ+i)) lg=true) (hk:DT Γ ops κ rem ((i,ld (ap L) op,u.names (κ+i))::lg) Kf (putL dst v' L) (u.appL (κ+i) H)) :
  DT Γ ops κ ((i,⟨dst,op,ty,pos,af,g⟩)::rem) lg Kf L H:=by
 subst hv;have hs':iz Γ.τ (ofL L H).op (ofL L H).η (κ+i) dst op=some (p,v,u):=by rw [jt];exact hs
 have hr:ld (ofL L H).op op=ld (ap L) op:=by rw [jt]
 refine .cons false _ _ _ (.step p v u ((jh ops L g).trans hw) hs' hp hu hok hd) (by rw [hr];exact hlog) ⟨v,u,rfl,rfl⟩ (λv u hv=>by rw [hv.2]) λv' u' hv=>?_
 rw [hv.1,hv.2];show DR Γ ops κ rem ((i,ld (ofL L H).op op,u.names (κ+i))::lg) Kf ((ofL L H).app (κ+i) dst v u);rw [hr,<- appL_get (dy _ hn) hs];exact hk
theorem dt_skipD {i:Nat} {op:Op} {ty:TypeId} {pos:String} {af:Array Edge} {g:Option (Nat×Bool)} {d:Nat} (hw:au ops L g=some false) (hd:Av d Γ.n=true) (hlog:f8 ops i [] [] lg=true)
  (hk:DT Γ ops κ rem ((i,[],[])::lg) Kf ((d,.tup [])::L) H):DT Γ ops κ ((i,⟨some d,op,ty,pos,af,g⟩)::rem) lg Kf L H:=dt_skip (dst:=some d) hw hd hlog hk
theorem di {i:Nat} {op:Op} {ty:TypeId} {pos:String} {af:Array Edge} {g:Option (Nat×Bool)} {d:Nat} {p:Prop} {v v':SV} (hw:au ops L g=some true)
  (hs:iz Γ.τ (ap L) (Hp.get H) (κ+i) (some d) op=some (p,v,.no)) (hp:p) (hv:v=v') (hok:bz op=true) (hd:Av d Γ.n=true) (hn:aw (H.map (·.1))=true)
  (hlog:f8 ops i (ld (ap L) op) [] lg=true) (hk:DT Γ ops κ rem ((i,ld (ap L) op,[])::lg) Kf ((d,v')::L) H) :
  DT Γ ops κ ((i,⟨some d,op,ty,pos,af,g⟩)::rem) lg Kf L H:=dt_step hw hs hp trivial hv hok hd hn hlog hk
theorem dt_new {i z:Nat} {op:Op} {ty:TypeId} {pos:String} {af:Array Edge} {g:Option (Nat×Bool)} {d:Nat} {p:Prop} {v v':SV} {b:HB} (hw:au ops L g=some true) (hz:κ+i=z)
  (hs:iz Γ.τ (ap L) (Hp.get H) z (some d) op=some (p,v,.new b)) (hp:p) (hv:v=v') (hok:bz op=true) (hd:Av d Γ.n=true) (hn:aw (H.map (·.1))=true)
  (hlog:f8 ops i (ld (ap L) op) [z] lg=true) (hk:DT Γ ops κ rem ((i,ld (ap L) op,[z])::lg) Kf ((d,v')::L) ((z,b)::H)) :
  DT Γ ops κ ((i,⟨some d,op,ty,pos,af,g⟩)::rem) lg Kf L H:=by subst hz;exact dt_step hw hs hp trivial hv hok hd hn hlog hk
theorem dt_set {i j:Nat} {op:Op} {ty:TypeId} {pos:String} {af:Array Edge} {g:Option (Nat×Bool)} {p:Prop} {v:SV} {b:HB} {H':Hp} (hw:au ops L g=some true)
  (hs:iz Γ.τ (ap L) (Hp.get H) (κ+i) none op=some (p,v,.set j b)) (hp:p) (hok:bz op=true) (hn:aw (H.map (·.1))=true) (hH:zk H j b some=some H')
  (hlog:f8 ops i (ld (ap L) op) [j] lg=true) (hk:DT Γ ops κ rem ((i,ld (ap L) op,[j])::lg) Kf L H') :
  DT Γ ops κ ((i,⟨none,op,ty,pos,af,g⟩)::rem) lg Kf L H:=by rw [l6] at hH;cases hH;exact dt_step (dst:=none) (v':=v) hw hs hp trivial rfl hok rfl hn hlog hk
theorem dt_del {i j:Nat} {op:Op} {ty:TypeId} {pos:String} {af:Array Edge} {g:Option (Nat×Bool)} {d:Nat} {p:Prop} {v v':SV} (hw:au ops L g=some true)
  (hs:iz Γ.τ (ap L) (Hp.get H) (κ+i) (some d) op=some (p,v,.del j)) (hp:p) (hv:v=v') (hok:bz op=true) (hd:Av d Γ.n=true) (hn:aw (H.map (·.1))=true)
  (hlog:f8 ops i (ld (ap L) op) [j] lg=true) {H':Hp} (hH:zn H j some=some H') (hk:DT Γ ops κ rem ((i,ld (ap L) op,[j])::lg) Kf ((d,v')::L) H') :
  DT Γ ops κ ((i,⟨some d,op,ty,pos,af,g⟩)::rem) lg Kf L H:=by rw [ni] at hH;cases hH;exact dt_step hw hs hp trivial hv hok hd hn hlog hk
theorem dt_trade [NoDr Γ] {i j z:Nat} {op:Op} {ty:TypeId} {pos:String} {af:Array Edge} {g:Option (Nat×Bool)} {d:Nat} {p:Prop} {v v':SV} {b:HB} (hw:au ops L g=some true) (hz:κ+i=z)
  (hs:iz Γ.τ (ap L) (Hp.get H) z (some d) op=some (p,v,.trade j b)) (hp:p) (hv:v=v') (hok:bz op=true) (hd:Av d Γ.n=true) (hn:aw (H.map (·.1))=true)
  (hlog:f8 ops i (ld (ap L) op) [j,z] lg=true) {H':Hp} (hH:zn H j some=some H') (hk:DT Γ ops κ rem ((i,ld (ap L) op,[j,z])::lg) Kf ((d,v')::L) ((z,b)::H')) :
  DT Γ ops κ ((i,⟨some d,op,ty,pos,af,g⟩)::rem) lg Kf L H:=by rw [ni] at hH;cases hH;subst hz;exact dt_step hw hs hp (NoDr.no (Γ:=Γ)) hv hok hd hn hlog hk
theorem dt_call {i:Nat} {f:FuncId} {xs:List Operand} {ts:Array TypeId} {ty:TypeId} {pos:String} {af:Array Edge} {g:Option (Nat×Bool)} {d:Nat} {args:List SV} {R:SV->Prop} (hw:au ops L g=some true)
  (ha:nb L xs=args) (hc:FnP Γ.dr Γ.P Γ.τ Γ.τok f args R) (hok:eb xs=true) (hlow:SV.lowL 0 args=true) (hd:Av d Γ.n=true) (hlog:f8 ops i [] [] lg=true) (hne:∃ r,R r)
  (hk:∀ r,R r->DT Γ ops κ rem ((i,[],[])::lg) Kf ((d,r)::L) H) :
  DT Γ ops κ ((i,⟨some d,.call { callee:=.value (.func f),args:=xs.toArray,argTypes:=ts },ty,pos,af,g⟩)::rem) lg Kf L H:=by
 have e1:xs.map (ofL L H).op++[]=args:=by rw [jt,Bt,<- jo,ha]
 have hok':bz (.call { callee:=.value (.func f),args:=xs.toArray,argTypes:=ts })=true:=by
  unfold bz;simp only [Op.operands,Call.operands,Cd,Dj,Ae];refine⟨rfl,?_⟩
  have:∀ (xs:List Operand),eb xs=true->xs.all dh=true:=by
   intro xs;induction xs with
   | nil=>intro _;rfl
   | cons x xs ih=>intro h;simp only [eb,Ae] at h;simp [h.1,ih h.2]
  exact this xs hok
 refine .cons true _ [] [] (.call d f (.func f) [] xs ts R ((jh ops L g).trans hw) rfl rfl rfl (e1▸hc) (e1▸hlow) hok' hd) hlog (hne.imp λr h=>⟨.no,h,rfl⟩) (λv u hv=>by rw [hv.2];rfl) λv u hv=>?_
 rw [hv.2];have:(ofL L H).app (κ+i) (some d) v .no=ofL ((d,v)::L) H:=(l7 L H (some d) v)
 show DR Γ ops κ rem _ Kf ((ofL L H).app (κ+i) (some d) v .no);rw [this];exact hk v hv.1
theorem dt_callW {i:Nat} {f:FuncId} {xs:List Operand} {ts:Array TypeId} {ty:TypeId} {pos:String} {af:Array Edge} {g:Option (Nat×Bool)} {d:Nat} {args:List SV} {te:TypeId} {es:Nat} {R:List (List D)->Prop} (hw:au ops L g=some true)
  (ha:nb L xs=args) (hc:FnRow Γ.dr Γ.P Γ.τ Γ.τok f args te es R) (hok:eb xs=true) (hlow:SV.lowL 0 args=true) (hd:Av d Γ.n=true) (hlog:f8 ops i [] [κ+i] lg=true) (hne:∃ ys,R ys)
  (hk:∀ ys,R ys->DT Γ ops κ rem ((i,[],[κ+i])::lg) Kf ((d,.row (κ+i))::L) ((κ+i,.row te es ys)::H)) :
  DT Γ ops κ ((i,⟨some d,.call { callee:=.value (.func f),args:=xs.toArray,argTypes:=ts },ty,pos,af,g⟩)::rem) lg Kf L H:=by
 have e1:xs.map (ofL L H).op++[]=args:=by rw [jt,Bt,<- jo,ha]
 have hok':bz (.call { callee:=.value (.func f),args:=xs.toArray,argTypes:=ts })=true:=by
  unfold bz;simp only [Op.operands,Call.operands,Cd,Dj,Ae];refine⟨rfl,?_⟩
  have:∀ (xs:List Operand),eb xs=true->xs.all dh=true:=by
   intro xs;induction xs with
   | nil=>intro _;rfl
   | cons x xs ih=>intro h;simp only [eb,Ae] at h;simp [h.1,ih h.2]
  exact this xs hok
 refine .cons true _ [] [κ+i] (.callW d f (.func f) [] xs ts te es R ((jh ops L g).trans hw) rfl rfl rfl (e1▸hc) (e1▸hlow) hok' hd) hlog (by obtain⟨ys,h⟩:=hne;exact⟨_,_,ys,h,rfl,rfl⟩) (λv u hv=>by obtain⟨ys,_,_,h⟩:=hv;rw [h];rfl) λv u hv=>?_
 obtain⟨ys,hR,rfl,rfl⟩:=hv;show DR Γ ops κ rem _ Kf ((ofL L H).app (κ+i) (some d) (.row (κ+i)) (.new (.row te es ys)));rw [<- ofL_new];exact hk ys hR
theorem dt_callT [NoDr Γ] (j:Nat) {i:Nat} {f:FuncId} {xs:List Operand} {ts:Array TypeId} {ty:TypeId} {pos:String} {af:Array Edge} {g:Option (Nat×Bool)} {d:Nat} {args:List SV} {te0 te:TypeId} {es0 es:Nat} {ds:List (List D)} {R:List (List D)->Prop} {H':Hp} (hc:FnTr Γ.dr Γ.P Γ.τ Γ.τok f args te0 es0 ds te es R)
  (hw:au ops L g=some true) (ha:nb L xs=SV.renL (λ_=>j) args) (hH:Hp.get H j=some (.row te0 es0 ds)) (hok:eb xs=true) (hlow:SV.lowL 1 args=true) (hd:Av d Γ.n=true) (hlog:f8 ops i [j] [j,κ+i] lg=true) (hne:∃ ys,R ys) (hD:zn H j some=some H') (hn:aw (H.map (·.1))=true)
  (hk:∀ ys,R ys->DT Γ ops κ rem ((i,[j],[j,κ+i])::lg) Kf ((d,.row (κ+i))::L) ((κ+i,.row te es ys)::H')) :
  DT Γ ops κ ((i,⟨some d,.call { callee:=.value (.func f),args:=xs.toArray,argTypes:=ts },ty,pos,af,g⟩)::rem) lg Kf L H:=by
 rw [ni] at hD;cases hD;have e1:xs.map (ofL L H).op=SV.renL (λ_=>j) args:=by rw [jt,<- jo,ha]
 have hok':bz (.call { callee:=.value (.func f),args:=xs.toArray,argTypes:=ts })=true:=by
  unfold bz;simp only [Op.operands,Call.operands,Cd,Dj,Ae];refine⟨rfl,?_⟩
  have:∀ (xs:List Operand),eb xs=true->xs.all dh=true:=by
   intro xs;induction xs with
   | nil=>intro _;rfl
   | cons x xs ih=>intro h;simp only [eb,Ae] at h;simp [h.1,ih h.2]
  exact this xs hok
 refine .cons true _ [j] [j,κ+i] (.callT d f xs ts j args te0 te es0 es ds R ((jh ops L g).trans hw) rfl rfl hc e1 hlow hH hok' hd NoDr.no) hlog (by obtain⟨ys,h⟩:=hne;exact⟨_,_,ys,h,rfl,rfl⟩) (λv u hv=>by obtain⟨ys,_,_,h⟩:=hv;rw [h];rfl) λv u hv=>?_
 obtain⟨ys,hR,rfl,rfl⟩:=hv;show DR Γ ops κ rem _ Kf ((ofL L H).app (κ+i) (some d) (.row (κ+i)) (.trade j (.row te es ys)));rw [<- ofL_trade _ _ _ _ _ _ _ (dy _ hn)];exact hk ys hR
theorem jd {i:Nat} {f:FuncId} {x:Operand} {caps:List SV} {xs:List Operand} {ts:Array TypeId} {ty:TypeId} {pos:String} {af:Array Edge} {g:Option (Nat×Bool)} {d:Nat} {args:List SV} {R:SV->Prop} (hx:ap L x = .fn f caps) (hxo:dh x=true) (hw:au ops L g=some true)
  (ha:nb L xs++caps=args) (hc:FnP Γ.dr Γ.P Γ.τ Γ.τok f args R) (hok:eb xs=true) (hlow:SV.lowL 0 args=true) (hd:Av d Γ.n=true) (hlog:f8 ops i [] [] lg=true) (hne:∃ r,R r)
  (hk:∀ r,R r->DT Γ ops κ rem ((i,[],[])::lg) Kf ((d,r)::L) H) :
  DT Γ ops κ ((i,⟨some d,.call { callee:=.value x,args:=xs.toArray,argTypes:=ts },ty,pos,af,g⟩)::rem) lg Kf L H:=by
 have e1:xs.map (ofL L H).op++caps=args:=by rw [jt,<- jo,ha]
 have hok':bz (.call { callee:=.value x,args:=xs.toArray,argTypes:=ts })=true:=by
  unfold bz;simp only [Op.operands,Call.operands,Cd,Dj,Ae];refine⟨by simp [hxo],?_⟩
  have:∀ (xs:List Operand),eb xs=true->xs.all dh=true:=by
   intro xs;induction xs with
   | nil=>intro _;rfl
   | cons x xs ih=>intro h;simp only [eb,Ae] at h;simp [h.1,ih h.2]
  exact this xs hok
 refine .cons true _ [] [] (.call d f x caps xs ts R ((jh ops L g).trans hw) rfl rfl (by rw [jt];exact hx) (e1▸hc) (e1▸hlow) hok' hd) hlog (hne.imp λr h=>⟨.no,h,rfl⟩) (λv u hv=>by rw [hv.2];rfl) λv u hv=>?_
 rw [hv.2];have:(ofL L H).app (κ+i) (some d) v .no=ofL ((d,v)::L) H:=(l7 L H (some d) v)
 show DR Γ ops κ rem _ Kf ((ofL L H).app (κ+i) (some d) v .no);rw [this];exact hk v hv.1
theorem s8 {i:Nat} {f:FuncId} {xs:List Operand} {ts:Array TypeId} {ty:TypeId} {pos:String} {af:Array Edge} {g:Option (Nat×Bool)} {d:Nat} {args:List SV} {J:Nat} {Hc:Hp} {R:SV->Prop} (ρ:Nat->Nat)
  (hc:FnOk Γ.dr Γ.P Γ.τ Γ.τok f args J J Hc (λ_ r H2=>R r/\H2=Hc)) (hR:∀ r,R r->r.low 0=true/\r.rowsGe J=true) (hne:∃ r,R r) (hw:au ops L g=some true) (ha:nb L xs=SV.renL ρ args) (hok:eb xs=true) (hlA:SV.lowL J args=true) (hKH:KnowsH ρ H Hc) (hl:Hp.low J Hc=true)
  (hd:aw (Hc.map λp=>ρ p.1)=true) (hd':aw (Hc.map (·.1))=true) (hall:yf J (Hc.map (·.1))=true) (hbel:yg J Hc=true) (hrows:Hp.rowsGe J Hc=true) (hdn:Av d Γ.n=true) {rd:List Nat} (hrd:Hc.map (λp=>ρ p.1)=rd) (hlog:f8 ops i rd [] lg=true)
  (hk:∀ r,R r->DT Γ ops κ rem ((i,rd,[])::lg) Kf ((d,r)::L) H) :
  DT Γ ops κ ((i,⟨some d,.call { callee:=.value (.func f),args:=xs.toArray,argTypes:=ts },ty,pos,af,g⟩)::rem) lg Kf L H:=by
 subst hrd;have e1:xs.map (ofL L H).op++[]=SV.renL ρ args:=by rw [jt,Bt,<- jo,ha]
 have hok':bz (.call { callee:=.value (.func f),args:=xs.toArray,argTypes:=ts })=true:=by
  unfold bz;simp only [Op.operands,Call.operands,Cd,Dj,Ae];refine⟨rfl,?_⟩
  have:∀ (xs:List Operand),eb xs=true->xs.all dh=true:=by
   intro xs;induction xs with
   | nil=>intro _;rfl
   | cons x xs ih=>intro h;simp only [eb,Ae] at h;simp [h.1,ih h.2]
  exact this xs hok
 refine .cons true _ _ [] (.callR d f (.func f) [] xs ts ρ args J Hc R ((jh ops L g).trans hw) rfl rfl rfl hc e1 hlA ((knowsF_is ρ H Hc).2 hKH) hl hd hd' hall hbel hR hrows hok' hdn) hlog (hne.imp λr h=>⟨.no,h,rfl⟩) (λv u hv=>by rw [hv.2];rfl) λv u hv=>?_
 rw [hv.2];have:(ofL L H).app (κ+i) (some d) v .no=ofL ((d,v)::L) H:=(l7 L H (some d) v)
 show DR Γ ops κ rem _ Kf ((ofL L H).app (κ+i) (some d) v .no);rw [this];exact hk v hv.1
theorem dt_bs0 {i z:Nat} {t te:TypeId} {es:Nat} {ty:TypeId} {pos:String} {af:Array Edge} {g:Option (Nat×Bool)} {d:Nat} (hw:au ops L g=some true) (hz:κ+i=z)
  (ht:(aj Γ.τ t).sh = .slice te) (hkn:(aj Γ.τ te).sh.known=true) (hes:(aj Γ.τ te).cells=es) (hpos:Av 0 es=true) (hzo:gk (aj Γ.τ te).zero=true) (hzl:Aw (aj Γ.τ te).zero.length (aj Γ.τ te).cells=true) (hd:Av d Γ.n=true)
  (hlog:f8 ops i [] [z] lg=true) (hk:DT Γ ops κ rem ((i,[],[z])::lg) Kf ((d,.row z)::L) ((z,.row te es [])::H)) :
  DT Γ ops κ ((i,⟨some d,.buildSlice t 0 #[],ty,pos,af,g⟩)::rem) lg Kf L H:=by
 subst hz;refine .cons true _ _ _ (.bs0 d t te es ((jh ops L g).trans hw) rfl rfl ht hkn hes hpos hzo hzl hd) hlog ⟨_,_,rfl,rfl⟩ (λv u hv=>by rw [hv.2];rfl) λv u hv=>?_
 obtain⟨rfl,rfl⟩:=hv;have:=ofL_new L H d (.row (κ+i)) (κ+i) (.row te es [])
 show DR Γ ops κ rem _ Kf ((ofL L H).app (κ+i) (some d) (.row (κ+i)) (.new (.row te es [])));rw [<- this];exact hk
theorem ofL_bool {t:Nat} {b:Bool} (hb:L.get t = .d (.bool b)):ofL ((t,.d (.bool b))::L) H=ofL L H:=by
 unfold ofL;congr 1;funext t';rw [Sl.get_cons];split
 ·rename_i h;subst h;exact hb.symm
 ·rfl
theorem dt_split {t:Nat} {b:Bool} (hb:L.get t = .d (.bool b)) (ht:b=true->DT Γ ops κ rem lg Kf ((t,.d (.bool true))::L) H) (hf:b=false->DT Γ ops κ rem lg Kf ((t,.d (.bool false))::L) H):DT Γ ops κ rem lg Kf L H:=by
 unfold DT at *;cases b with
 | true=>exact ofL_bool (H:=H) hb▸ht rfl
 | false=>exact ofL_bool (H:=H) hb▸hf rfl
theorem dt_known {i:Nat} {op:Op} {ty:TypeId} {pos:String} {af:Array Edge} {g:Option (Nat×Bool)} {dst:Option Nat} {b:Bool} (_:au ops L g=some b) (h:DT Γ ops κ ((i,⟨dst,op,ty,pos,af,g⟩)::rem) lg Kf L H) :
  DT Γ ops κ ((i,⟨dst,op,ty,pos,af,g⟩)::rem) lg Kf L H:=h
theorem ds_known {op:Op} {ty:TypeId} {pos:String} {af:Array Edge} {g:Option (Nat×Bool)} {dst:Option Nat} {b:Bool} (_:au ops L g=some b) (h:DS q Γ ops (⟨dst,op,ty,pos,af,g⟩::rest) K k L H) :
  DS q Γ ops (⟨dst,op,ty,pos,af,g⟩::rest) K k L H:=h
theorem dt_guardP {i:Nat} {op:Op} {ty:TypeId} {pos:String} {af:Array Edge} {j:Nat} {want:Bool} {p:Prop} {_:Decidable p} {dst:Option Nat} {oj:Oper} {t:Nat} (_:nl ops j=some oj) (_:oj.dst=some t) (hb:L.get t = .d (.bool (decide p)))
  (ht:p->DT Γ ops κ ((i,⟨dst,op,ty,pos,af,some (j,want)⟩)::rem) lg Kf ((t,.d (.bool true))::L) H) (hf:¬ p->DT Γ ops κ ((i,⟨dst,op,ty,pos,af,some (j,want)⟩)::rem) lg Kf ((t,.d (.bool false))::L) H) :
  DT Γ ops κ ((i,⟨dst,op,ty,pos,af,some (j,want)⟩)::rem) lg Kf L H:=dt_split hb (λh=>ht (of_decide_eq_true h)) (λh=>hf (of_decide_eq_false h))
theorem ds_guardB {op:Op} {ty:TypeId} {pos:String} {af:Array Edge} {j:Nat} {want b:Bool} {dst:Option Nat} {oj:Oper} {t:Nat} (_:nl ops j=some oj) (_:oj.dst=some t) (hb:L.get t = .d (.bool b))
  (ht:b=true->DS q Γ ops (⟨dst,op,ty,pos,af,some (j,want)⟩::rest) K k ((t,.d (.bool true))::L) H) (hf:b=false->DS q Γ ops (⟨dst,op,ty,pos,af,some (j,want)⟩::rest) K k ((t,.d (.bool false))::L) H) :
  DS q Γ ops (⟨dst,op,ty,pos,af,some (j,want)⟩::rest) K k L H:=ds_split hb ht hf
theorem ds_guardP {op:Op} {ty:TypeId} {pos:String} {af:Array Edge} {j:Nat} {want:Bool} {p:Prop} {_:Decidable p} {dst:Option Nat} {oj:Oper} {t:Nat} (_:nl ops j=some oj) (_:oj.dst=some t) (hb:L.get t = .d (.bool (decide p)))
  (ht:p->DS q Γ ops (⟨dst,op,ty,pos,af,some (j,want)⟩::rest) K k ((t,.d (.bool true))::L) H) (hf:¬ p->DS q Γ ops (⟨dst,op,ty,pos,af,some (j,want)⟩::rest) K k ((t,.d (.bool false))::L) H) :
  DS q Γ ops (⟨dst,op,ty,pos,af,some (j,want)⟩::rest) K k L H:=ds_split hb (λh=>ht (of_decide_eq_true h)) (λh=>hf (of_decide_eq_false h))
end
section
variable {Γ : Ctx} {k κ : Nat} {L : Sl} {H : Hp} {K : cy} {ops : List Oper} {rest : List Oper} {q : Bool} {rem : List (Nat×Oper)} {lg : Log} {Kf : FS -> Prop}
theorem y0 {d:Nat} {op:Op} {ty:TypeId} {pos:String} {af:Array Edge} {g:Option (Nat×Bool)} {p:Prop} {s s':SV} (he:evC Γ.τ (ap L) (Hp.get H) op=some (p,s):=by exact rfl) (hp:p:=by (first|(with_reducible exact trivial)|(with_reducible exact ic _)|(with_reducible exact sat_range _ _)|omega|(with_reducible assumption)|(with_reducible exact bytesOk_one)|(constructor<;>omega)|(simp only [List.length_map];omega)|(unfold maxLen at *;omega)|(simp<;>omega)|(unfold maxLen;simp<;>omega))) (hv:s=s':=by (first|(with_reducible exact hv_chr)|((with_reducible apply hv_prow);(first|exact bl _|exact b8 _|exact cn _|exact cm|exact nat_lit_1|exact rfl|exact (Int.toNat_of_nonneg (by omega)).symm))|((with_reducible apply yw);(first|exact bl _|exact b8 _|exact cn _|exact cm|exact nat_lit_1|exact rfl|exact (Int.toNat_of_nonneg (by omega)).symm))|((with_reducible apply yx);(first|exact bl _|exact b8 _|exact cn _|exact cm|exact nat_lit_1|exact rfl|exact (Int.toNat_of_nonneg (by omega)).symm))|((with_reducible apply hv_ldrow);(apply iq;(first|(with_reducible exact trivial)|(with_reducible exact ic _)|(with_reducible exact sat_range _ _)|omega|(with_reducible assumption)|(with_reducible exact bytesOk_one)|(constructor<;>omega)|(simp only [List.length_map];omega)|(unfold maxLen at *;omega)|(simp<;>omega)|(unfold maxLen;simp<;>omega)));exact rfl)|((with_reducible apply hv_row);(first|exact bl _|exact b8 _|exact cn _|exact cm|exact nat_lit_1|exact rfl|exact (Int.toNat_of_nonneg (by omega)).symm);(first|omega|(rw [List.length_map];omega)))|((with_reducible apply hv_sat);(first|exact bl _|exact b8 _|exact cn _|exact cm|exact nat_lit_1|exact rfl|exact (Int.toNat_of_nonneg (by omega)).symm);omega)|((with_reducible apply hv_ext);(first|exact bl _|exact b8 _|exact cn _|exact cm|exact nat_lit_1|exact rfl|exact (Int.toNat_of_nonneg (by omega)).symm);(first|exact bl _|exact b8 _|exact cn _|exact cm|exact nat_lit_1|exact rfl|exact (Int.toNat_of_nonneg (by omega)).symm))|(with_reducible exact rfl))) (hok:bz op=true:=by exact rfl) (hw:au ops L g=some true:=by exact rfl) (hd:Nat.blt d Γ.n=true:=by exact rfl):(DS q Γ ops rest K k ((d,s')::L) H)->(DS q Γ ops (⟨some d,op,ty,pos,af,g⟩::rest) K k L H):=λhk=>ds_evC he hp hv hok hw hd hk
theorem z0 {d:Nat} {op:Op} {ty:TypeId} {pos:String} {af:Array Edge} {g:Option (Nat×Bool)} {p:Prop} {s s':SV} (hk:DS q Γ ops rest K k ((d,s')::L) H) (he:evC Γ.τ (ap L) (Hp.get H) op=some (p,s):=by exact rfl) (hp:p:=by (first|(with_reducible exact trivial)|(with_reducible exact ic _)|(with_reducible exact sat_range _ _)|omega|(with_reducible assumption)|(with_reducible exact bytesOk_one)|(constructor<;>omega)|(simp only [List.length_map];omega)|(unfold maxLen at *;omega)|(simp<;>omega)|(unfold maxLen;simp<;>omega))) (hv:s=s':=by (first|(with_reducible exact hv_chr)|((with_reducible apply hv_prow);(first|exact bl _|exact b8 _|exact cn _|exact cm|exact nat_lit_1|exact rfl|exact (Int.toNat_of_nonneg (by omega)).symm))|((with_reducible apply yw);(first|exact bl _|exact b8 _|exact cn _|exact cm|exact nat_lit_1|exact rfl|exact (Int.toNat_of_nonneg (by omega)).symm))|((with_reducible apply yx);(first|exact bl _|exact b8 _|exact cn _|exact cm|exact nat_lit_1|exact rfl|exact (Int.toNat_of_nonneg (by omega)).symm))|((with_reducible apply hv_ldrow);(apply iq;(first|(with_reducible exact trivial)|(with_reducible exact ic _)|(with_reducible exact sat_range _ _)|omega|(with_reducible assumption)|(with_reducible exact bytesOk_one)|(constructor<;>omega)|(simp only [List.length_map];omega)|(unfold maxLen at *;omega)|(simp<;>omega)|(unfold maxLen;simp<;>omega)));exact rfl)|((with_reducible apply hv_row);(first|exact bl _|exact b8 _|exact cn _|exact cm|exact nat_lit_1|exact rfl|exact (Int.toNat_of_nonneg (by omega)).symm);(first|omega|(rw [List.length_map];omega)))|((with_reducible apply hv_sat);(first|exact bl _|exact b8 _|exact cn _|exact cm|exact nat_lit_1|exact rfl|exact (Int.toNat_of_nonneg (by omega)).symm);omega)|((with_reducible apply hv_ext);(first|exact bl _|exact b8 _|exact cn _|exact cm|exact nat_lit_1|exact rfl|exact (Int.toNat_of_nonneg (by omega)).symm);(first|exact bl _|exact b8 _|exact cn _|exact cm|exact nat_lit_1|exact rfl|exact (Int.toNat_of_nonneg (by omega)).symm))|(with_reducible exact rfl))) (hok:bz op=true:=by exact rfl) (hw:au ops L g=some true:=by exact rfl) (hd:Nat.blt d Γ.n=true:=by exact rfl):DS q Γ ops (⟨some d,op,ty,pos,af,g⟩::rest) K k L H:=ds_evC he hp hv hok hw hd hk
theorem y1 {d:Nat} {op:Op} {ty:TypeId} {pos:String} {af:Array Edge} {g:Option (Nat×Bool)} {p:Prop} {s:SV} {b:HB} (he:mj Γ.τ (ap L) (Hp.get H) k op=some (p,s,.new b):=by exact rfl) (hp:p:=by (first|(with_reducible exact trivial)|(with_reducible exact ic _)|(with_reducible exact sat_range _ _)|omega|(with_reducible assumption)|(with_reducible exact bytesOk_one)|(constructor<;>omega)|(simp only [List.length_map];omega)|(unfold maxLen at *;omega)|(simp<;>omega)|(unfold maxLen;simp<;>omega))) (hok:bz op=true:=by exact rfl) (hw:au ops L g=some true:=by exact rfl) (hd:Nat.blt d Γ.n=true:=by exact rfl):(DS false Γ ops rest K (k+1) ((d,s)::L) ((k,b)::H))->(DS false Γ ops (⟨some d,op,ty,pos,af,g⟩::rest) K k L H):=λhk=>ds_newC he hp hok hw hd hk
theorem y2 [NoDr Γ] {d j:Nat} {op:Op} {ty:TypeId} {pos:String} {af:Array Edge} {g:Option (Nat×Bool)} {p:Prop} {s:SV} {b:HB} {H':Hp} (he:mj Γ.τ (ap L) (Hp.get H) k op=some (p,s,.trade j b):=by exact rfl) (hp:p:=by (first|(with_reducible exact trivial)|(with_reducible exact ic _)|(with_reducible exact sat_range _ _)|omega|(with_reducible assumption)|(with_reducible exact bytesOk_one)|(constructor<;>omega)|(simp only [List.length_map];omega)|(unfold maxLen at *;omega)|(simp<;>omega)|(unfold maxLen;simp<;>omega))) (hok:bz op=true:=by exact rfl) (hw:au ops L g=some true:=by exact rfl) (hd:Nat.blt d Γ.n=true:=by exact rfl) (hH:zn H j some=some H':=by exact rfl):(DS false Γ ops rest K (k+1) ((d,s)::L) ((k,b)::H'))->(DS false Γ ops (⟨some d,op,ty,pos,af,g⟩::rest) K k L H):=λhk=>ds_tradeC he hp hok hw hd hH hk
theorem y3 {te ty:TypeId} {x y:Operand} {pos:String} {af:Array Edge} {g:Option (Nat×Bool)} {s:SV} {j:Nat} {b:HB} {H':Hp} (he:qf Γ.τ te (ap L x) (ap L y) (Hp.get H)=some (True,s,.set j b):=by exact rfl) (hok:dh y=true:=by exact rfl) (hw:au ops L g=some true:=by exact rfl) (hH:zk H j b some=some H':=by exact rfl):(DS false Γ ops rest K k L H')->(DS false Γ ops (⟨none,.store te x y,ty,pos,af,g⟩::rest) K k L H):=λhk=>ds_setC he hok hw hH hk
theorem y4 {d:Nat} {t len:Nat} {ty:TypeId} {pos:String} {af:Array Edge} {g:Option (Nat×Bool)} {ps:Array (Nat×Operand)} {p:Prop} {s:SV} (he:d9 Γ.τ (ap L) t len ps.toList=some (p,s,.no):=by exact rfl) (hok:bz (.buildSlice t len ps)=true:=by exact rfl) (hw:au ops L g=some true:=by exact rfl) (hd:Nat.blt d Γ.n=true:=by exact rfl):(DS false Γ ops rest K k ((d,s)::L) H)->(DS false Γ ops (⟨some d,.buildSlice t len ps,ty,pos,af,g⟩::rest) K k L H):=λhk=>ds_bsC he hok hw hd hk
theorem y5 {i:Nat} {op:Op} {ty:TypeId} {pos:String} {af:Array Edge} {g:Option (Nat×Bool)} {d:Nat} {p:Prop} {v v':SV} (hw:au ops L g=some true:=by exact rfl) (hs:iz Γ.τ (ap L) (Hp.get H) (κ+i) (some d) op=some (p,v,.no):=by exact rfl) (hp:p:=by (first|(with_reducible exact trivial)|(with_reducible exact ic _)|(with_reducible exact sat_range _ _)|omega|(with_reducible assumption)|(with_reducible exact bytesOk_one)|(constructor<;>omega)|(simp only [List.length_map];omega)|(unfold maxLen at *;omega)|(simp<;>omega)|(unfold maxLen;simp<;>omega))) (hv:v=v':=by (first|(with_reducible exact hv_chr)|((with_reducible apply hv_prow);(first|exact bl _|exact b8 _|exact cn _|exact cm|exact nat_lit_1|exact rfl|exact (Int.toNat_of_nonneg (by omega)).symm))|((with_reducible apply yw);(first|exact bl _|exact b8 _|exact cn _|exact cm|exact nat_lit_1|exact rfl|exact (Int.toNat_of_nonneg (by omega)).symm))|((with_reducible apply yx);(first|exact bl _|exact b8 _|exact cn _|exact cm|exact nat_lit_1|exact rfl|exact (Int.toNat_of_nonneg (by omega)).symm))|((with_reducible apply hv_ldrow);(apply iq;(first|(with_reducible exact trivial)|(with_reducible exact ic _)|(with_reducible exact sat_range _ _)|omega|(with_reducible assumption)|(with_reducible exact bytesOk_one)|(constructor<;>omega)|(simp only [List.length_map];omega)|(unfold maxLen at *;omega)|(simp<;>omega)|(unfold maxLen;simp<;>omega)));exact rfl)|((with_reducible apply hv_row);(first|exact bl _|exact b8 _|exact cn _|exact cm|exact nat_lit_1|exact rfl|exact (Int.toNat_of_nonneg (by omega)).symm);(first|omega|(rw [List.length_map];omega)))|((with_reducible apply hv_sat);(first|exact bl _|exact b8 _|exact cn _|exact cm|exact nat_lit_1|exact rfl|exact (Int.toNat_of_nonneg (by omega)).symm);omega)|((with_reducible apply hv_ext);(first|exact bl _|exact b8 _|exact cn _|exact cm|exact nat_lit_1|exact rfl|exact (Int.toNat_of_nonneg (by omega)).symm);(first|exact bl _|exact b8 _|exact cn _|exact cm|exact nat_lit_1|exact rfl|exact (Int.toNat_of_nonneg (by omega)).symm))|(with_reducible exact rfl))) (hok:bz op=true:=by exact rfl) (hd:Nat.blt d Γ.n=true:=by exact rfl) (hn:aw (H.map (·.1))=true:=by exact rfl) (hlog:f8 ops i (ld (ap L) op) [] lg=true:=by exact rfl):(DT Γ ops κ rem ((i,ld (ap L) op,[])::lg) Kf ((d,v')::L) H)->(DT Γ ops κ ((i,⟨some d,op,ty,pos,af,g⟩)::rem) lg Kf L H):=λhk=>di hw hs hp hv hok hd hn hlog hk
theorem z5 {i:Nat} {op:Op} {ty:TypeId} {pos:String} {af:Array Edge} {g:Option (Nat×Bool)} {d:Nat} {p:Prop} {v v':SV} (hk:DT Γ ops κ rem ((i,ld (ap L) op,[])::lg) Kf ((d,v')::L) H) (hw:au ops L g=some true:=by exact rfl) (hs:iz Γ.τ (ap L) (Hp.get H) (κ+i) (some d) op=some (p,v,.no):=by exact rfl) (hp:p:=by (first|(with_reducible exact trivial)|(with_reducible exact ic _)|(with_reducible exact sat_range _ _)|omega|(with_reducible assumption)|(with_reducible exact bytesOk_one)|(constructor<;>omega)|(simp only [List.length_map];omega)|(unfold maxLen at *;omega)|(simp<;>omega)|(unfold maxLen;simp<;>omega))) (hv:v=v':=by (first|(with_reducible exact hv_chr)|((with_reducible apply hv_prow);(first|exact bl _|exact b8 _|exact cn _|exact cm|exact nat_lit_1|exact rfl|exact (Int.toNat_of_nonneg (by omega)).symm))|((with_reducible apply yw);(first|exact bl _|exact b8 _|exact cn _|exact cm|exact nat_lit_1|exact rfl|exact (Int.toNat_of_nonneg (by omega)).symm))|((with_reducible apply yx);(first|exact bl _|exact b8 _|exact cn _|exact cm|exact nat_lit_1|exact rfl|exact (Int.toNat_of_nonneg (by omega)).symm))|((with_reducible apply hv_ldrow);(apply iq;(first|(with_reducible exact trivial)|(with_reducible exact ic _)|(with_reducible exact sat_range _ _)|omega|(with_reducible assumption)|(with_reducible exact bytesOk_one)|(constructor<;>omega)|(simp only [List.length_map];omega)|(unfold maxLen at *;omega)|(simp<;>omega)|(unfold maxLen;simp<;>omega)));exact rfl)|((with_reducible apply hv_row);(first|exact bl _|exact b8 _|exact cn _|exact cm|exact nat_lit_1|exact rfl|exact (Int.toNat_of_nonneg (by omega)).symm);(first|omega|(rw [List.length_map];omega)))|((with_reducible apply hv_sat);(first|exact bl _|exact b8 _|exact cn _|exact cm|exact nat_lit_1|exact rfl|exact (Int.toNat_of_nonneg (by omega)).symm);omega)|((with_reducible apply hv_ext);(first|exact bl _|exact b8 _|exact cn _|exact cm|exact nat_lit_1|exact rfl|exact (Int.toNat_of_nonneg (by omega)).symm);(first|exact bl _|exact b8 _|exact cn _|exact cm|exact nat_lit_1|exact rfl|exact (Int.toNat_of_nonneg (by omega)).symm))|(with_reducible exact rfl))) (hok:bz op=true:=by exact rfl) (hd:Nat.blt d Γ.n=true:=by exact rfl) (hn:aw (H.map (·.1))=true:=by exact rfl) (hlog:f8 ops i (ld (ap L) op) [] lg=true:=by exact rfl):DT Γ ops κ ((i,⟨some d,op,ty,pos,af,g⟩)::rem) lg Kf L H:=di hw hs hp hv hok hd hn hlog hk
theorem y6 {i j:Nat} {op:Op} {ty:TypeId} {pos:String} {af:Array Edge} {g:Option (Nat×Bool)} {p:Prop} {v:SV} {b:HB} {H':Hp} (hw:au ops L g=some true:=by exact rfl) (hs:iz Γ.τ (ap L) (Hp.get H) (κ+i) none op=some (p,v,.set j b):=by exact rfl) (hp:p:=by (first|(with_reducible exact trivial)|(with_reducible exact ic _)|(with_reducible exact sat_range _ _)|omega|(with_reducible assumption)|(with_reducible exact bytesOk_one)|(constructor<;>omega)|(simp only [List.length_map];omega)|(unfold maxLen at *;omega)|(simp<;>omega)|(unfold maxLen;simp<;>omega))) (hok:bz op=true:=by exact rfl) (hn:aw (H.map (·.1))=true:=by exact rfl) (hH:zk H j b some=some H':=by exact rfl) (hlog:f8 ops i (ld (ap L) op) [j] lg=true:=by exact rfl):(DT Γ ops κ rem ((i,ld (ap L) op,[j])::lg) Kf L H')->(DT Γ ops κ ((i,⟨none,op,ty,pos,af,g⟩)::rem) lg Kf L H):=λhk=>dt_set hw hs hp hok hn hH hlog hk
theorem y7 {i z:Nat} {op:Op} {ty:TypeId} {pos:String} {af:Array Edge} {g:Option (Nat×Bool)} {d:Nat} {p:Prop} {v v':SV} {b:HB} (hw:au ops L g=some true:=by exact rfl) (hz:κ+i=z:=by exact rfl) (hs:iz Γ.τ (ap L) (Hp.get H) z (some d) op=some (p,v,.new b):=by exact rfl) (hp:p:=by (first|(with_reducible exact trivial)|(with_reducible exact ic _)|(with_reducible exact sat_range _ _)|omega|(with_reducible assumption)|(with_reducible exact bytesOk_one)|(constructor<;>omega)|(simp only [List.length_map];omega)|(unfold maxLen at *;omega)|(simp<;>omega)|(unfold maxLen;simp<;>omega))) (hv:v=v':=by exact rfl) (hok:bz op=true:=by exact rfl) (hd:Nat.blt d Γ.n=true:=by exact rfl) (hn:aw (H.map (·.1))=true:=by exact rfl) (hlog:f8 ops i (ld (ap L) op) [z] lg=true:=by exact rfl):(DT Γ ops κ rem ((i,ld (ap L) op,[z])::lg) Kf ((d,v')::L) ((z,b)::H))->(DT Γ ops κ ((i,⟨some d,op,ty,pos,af,g⟩)::rem) lg Kf L H):=λhk=>dt_new hw hz hs hp hv hok hd hn hlog hk
theorem y8 {i j:Nat} {op:Op} {ty:TypeId} {pos:String} {af:Array Edge} {g:Option (Nat×Bool)} {d:Nat} {p:Prop} {v v':SV} {H':Hp} (hw:au ops L g=some true:=by exact rfl) (hs:iz Γ.τ (ap L) (Hp.get H) (κ+i) (some d) op=some (p,v,.del j):=by exact rfl) (hp:p:=by (first|(with_reducible exact trivial)|(with_reducible exact ic _)|(with_reducible exact sat_range _ _)|omega|(with_reducible assumption)|(with_reducible exact bytesOk_one)|(constructor<;>omega)|(simp only [List.length_map];omega)|(unfold maxLen at *;omega)|(simp<;>omega)|(unfold maxLen;simp<;>omega))) (hv:v=v':=by exact rfl) (hok:bz op=true:=by exact rfl) (hd:Nat.blt d Γ.n=true:=by exact rfl) (hn:aw (H.map (·.1))=true:=by exact rfl) (hlog:f8 ops i (ld (ap L) op) [j] lg=true:=by exact rfl) (hH:zn H j some=some H':=by exact rfl):(DT Γ ops κ rem ((i,ld (ap L) op,[j])::lg) Kf ((d,v')::L) H')->(DT Γ ops κ ((i,⟨some d,op,ty,pos,af,g⟩)::rem) lg Kf L H):=λhk=>dt_del hw hs hp hv hok hd hn hlog hH hk
theorem y9 [NoDr Γ] {i j z:Nat} {op:Op} {ty:TypeId} {pos:String} {af:Array Edge} {g:Option (Nat×Bool)} {d:Nat} {p:Prop} {v v':SV} {b:HB} {H':Hp} (hw:au ops L g=some true:=by exact rfl) (hz:κ+i=z:=by exact rfl) (hs:iz Γ.τ (ap L) (Hp.get H) z (some d) op=some (p,v,.trade j b):=by exact rfl) (hp:p:=by (first|(with_reducible exact trivial)|(with_reducible exact ic _)|(with_reducible exact sat_range _ _)|omega|(with_reducible assumption)|(with_reducible exact bytesOk_one)|(constructor<;>omega)|(simp only [List.length_map];omega)|(unfold maxLen at *;omega)|(simp<;>omega)|(unfold maxLen;simp<;>omega))) (hv:v=v':=by exact rfl) (hok:bz op=true:=by exact rfl) (hd:Nat.blt d Γ.n=true:=by exact rfl) (hn:aw (H.map (·.1))=true:=by exact rfl) (hlog:f8 ops i (ld (ap L) op) [j,z] lg=true:=by exact rfl) (hH:zn H j some=some H':=by exact rfl):(DT Γ ops κ rem ((i,ld (ap L) op,[j,z])::lg) Kf ((d,v')::L) ((z,b)::H'))->(DT Γ ops κ ((i,⟨some d,op,ty,pos,af,g⟩)::rem) lg Kf L H):=λhk=>dt_trade hw hz hs hp hv hok hd hn hlog hH hk
theorem y10 {m:Nat} {Q:cy} (hn:aw (H.map (·.1))=true:=by exact rfl) (hj:Nat.ble Γ.J κ=true:=by exact rfl) (hL:Sl.low κ L=true:=by exact rfl) (hH:Hp.low κ H=true:=by exact rfl):(Q κ L H)->(DT Γ ops κ [] lg (endK Γ m Q) L H):=λh=>dt_nil0 hn hj hL hH h
theorem y11 {m:Nat} {Q:cy} (hn:aw (H.map (·.1))=true:=by exact rfl):(Q m L H)->(DT Γ ops κ [] lg (endK Γ m Q) L H):=λh=>dt_nil hn h
theorem z11 {m:Nat} {Q:cy} (h:Q m L H) (hn:aw (H.map (·.1))=true:=by exact rfl):DT Γ ops κ [] lg (endK Γ m Q) L H:=dt_nil hn h
theorem y12 {op:Op} {ty:TypeId} {pos:String} {af:Array Edge} {g:Option (Nat×Bool)} {d:Nat} (hw:au ops L g=some false:=by exact rfl) (hd:Nat.blt d Γ.n=true:=by exact rfl):(DS q Γ ops rest K k ((d,.tup [])::L) H)->(DS q Γ ops (⟨some d,op,ty,pos,af,g⟩::rest) K k L H):=λh=>ds_skip hw hd h
theorem z12 {op:Op} {ty:TypeId} {pos:String} {af:Array Edge} {g:Option (Nat×Bool)} {d:Nat} (h:DS q Γ ops rest K k ((d,.tup [])::L) H) (hw:au ops L g=some false:=by exact rfl) (hd:Nat.blt d Γ.n=true:=by exact rfl):DS q Γ ops (⟨some d,op,ty,pos,af,g⟩::rest) K k L H:=ds_skip hw hd h
theorem y14 {i:Nat} {op:Op} {ty:TypeId} {pos:String} {af:Array Edge} {g:Option (Nat×Bool)} {d:Nat} (hw:au ops L g=some false:=by exact rfl) (hd:Nat.blt d Γ.n=true:=by exact rfl) (hlog:f8 ops i [] [] lg=true:=by exact rfl):(DT Γ ops κ rem ((i,[],[])::lg) Kf ((d,.tup [])::L) H)->(DT Γ ops κ ((i,⟨some d,op,ty,pos,af,g⟩)::rem) lg Kf L H):=λhk=>dt_skipD hw hd hlog hk
theorem y16 {id:Nat} {l:List Oper} {Q:gh} (hn:d6 l=true:=by exact rfl):(DS false Γ l l (Q .normal) k L H)->(DW Γ (.region id l.toArray false) Q k L H):=λh=>ds_region hn h
theorem y17 {id i:Nat} {Q:gh} (hb:Nat.beq i id=true:=by exact rfl):(Q .normal k L H)->(bt id Q (.exit i) k L H):=λh=>inB_e hb h
theorem y18 {Γ:Ctx} {k:Nat} {L:Sl} {H:Hp} {Q:gh} {c:Operand} {x y:Code} (hc:ap L c = .d (.bool true):=by exact rfl):(DW Γ x Q k L H)->(DW Γ (.cond c x y) Q k L H):=λh=>dw_condT hc h
theorem y19 {Γ:Ctx} {k:Nat} {L:Sl} {H:Hp} {Q:gh} {c:Operand} {x y:Code} (hc:ap L c = .d (.bool false):=by exact rfl):(DW Γ y Q k L H)->(DW Γ (.cond c x y) Q k L H):=λh=>dw_condF hc h
theorem y20 {id m:Nat} {l:List Oper} {Q:gh} (hm:Γ.P.follows .mixedOrders=true:=by kernel_rfl) (hB:rm l=true:=by kernel_rfl) (hnd:d6 l=true:=by exact rfl) (hl:lenIs l k m:=by exact rfl):(DT Γ l k (ee 0 l) [] (endK Γ m (Q .normal)) L H)->(DW Γ (.region id l.toArray true) Q k L H):=λh=>dw_any hm hB hnd hl h
theorem z21 {f:FuncId} {xs:List Operand} {ts:Array TypeId} {ty:TypeId} {pos:String} {af:Array Edge} {g:Option (Nat×Bool)} {d:Nat} {args:List SV} {r0:SV} (hk:DS false Γ ops rest K k ((d,r0)::L) H) (hw:au ops L g=some true:=by exact rfl) (ha:nb L xs=args:=by exact rfl) (hc:FnP Γ.dr Γ.P Γ.τ Γ.τok f args (λr=>r=r0)) (hok:eb xs=true:=by exact rfl) (hlow:SV.lowL 0 args=true:=by (first|exact rfl|assumption)) (hd:Nat.blt d Γ.n=true:=by exact rfl):DS false Γ ops (⟨some d,.call { callee:=.value (.func f),args:=xs.toArray,argTypes:=ts },ty,pos,af,g⟩::rest) K k L H:=yz hw ha hc hok hlow hd (by rintro _ rfl;exact hk)
theorem z22 {i:Nat} {f:FuncId} {xs:List Operand} {ts:Array TypeId} {ty:TypeId} {pos:String} {af:Array Edge} {g:Option (Nat×Bool)} {d:Nat} {args:List SV} {r0:SV} (hk:DT Γ ops κ rem ((i,[],[])::lg) Kf ((d,r0)::L) H) (hw:au ops L g=some true:=by exact rfl) (ha:nb L xs=args:=by exact rfl) (hc:FnP Γ.dr Γ.P Γ.τ Γ.τok f args (λr=>r=r0)) (hok:eb xs=true:=by exact rfl) (hlow:SV.lowL 0 args=true:=by (first|exact rfl|assumption)) (hd:Nat.blt d Γ.n=true:=by exact rfl) (hlog:f8 ops i [] [] lg=true:=by exact rfl):DT Γ ops κ ((i,⟨some d,.call { callee:=.value (.func f),args:=xs.toArray,argTypes:=ts },ty,pos,af,g⟩)::rem) lg Kf L H:=dt_call hw ha hc hok hlow hd hlog ⟨_,rfl⟩ (by rintro _ rfl;exact hk)
theorem z23 {Γ:Ctx} {k:Nat} {L:Sl} {H:Hp} {Q:gh} {c:Operand} {x y:Code} {p:Prop} {_:Decidable p} (ht:p->DW Γ x Q k L H) (hf:¬ p->DW Γ y Q k L H) (hc:ap L c = .d (.bool (decide p)):=by exact rfl):DW Γ (.cond c x y) Q k L H:=bf hc ht hf
theorem zs {G A:Prop} (h:A) (s:A->G:=by (first|exact y0|exact y12|exact gy|exact y5|exact y14|exact y6|exact y7|exact y8|exact y9|exact y10|exact y11|exact dw_seq2|exact y16|exact y20|exact dw_block|exact dw_skip|exact dw_exit|exact y18|exact y19|exact thenD_n|exact thenD_e|exact thenD_r|exact inB_n|exact inB_r|exact y17|exact y1|exact y3|exact y4|exact y2|fail)):G:=s h
theorem zr {G A:Prop} (h:A) (s:A->G:=by (first|exact y0|exact c9|exact y12|exact gy|exact y5|exact y14|exact y6|exact y7|exact y8|exact y9|exact y10|exact y11|exact dw_seq2|exact y16|exact y20|exact dw_block|exact dw_skip|exact dw_exit|exact y18|exact y19|exact thenD_n|exact thenD_e|exact thenD_r|exact inB_n|exact inB_r|exact y17|exact y1|exact y3|exact y4|exact y2|fail)):G:=s h
theorem y23 {Γ:Ctx} {k:Nat} {L:Sl} {H:Hp} {c:Operand} {x y:Code} {Q:gh} {p:Prop} {_:Decidable p} (hc:ap L c = .d (.bool (decide p)):=by exact rfl):(p->DW Γ x Q k L H)->(¬ p->DW Γ y Q k L H)->DW Γ (.cond c x y) Q k L H:=λu v=>bf hc u v
theorem y24 {Γ:Ctx} {k:Nat} {L:Sl} {H:Hp} {c:Operand} {x y:Code} {Q:gh} {b:Bool} (hc:ap L c = .d (.bool b):=by exact rfl):(b=true->DW Γ x Q k L H)->(b=false->DW Γ y Q k L H)->DW Γ (.cond c x y) Q k L H:=λu v=>d7 hc u v
theorem y25  {op:Op} {ty:TypeId} {pos:String} {af:Array Edge} {j:Nat} {want:Bool} {p:Prop} {_:Decidable p} {dst:Option Nat} {oj:Oper} {t:Nat} (h1:nl ops j=some oj:=by exact rfl) (h2:oj.dst=some t:=by exact rfl) (hb:L.get t = .d (.bool (decide p)):=by exact rfl):(p->DS q Γ ops (⟨dst,op,ty,pos,af,some (j,want)⟩::rest) K k ((t,.d (.bool true))::L) H)->(¬ p->DS q Γ ops (⟨dst,op,ty,pos,af,some (j,want)⟩::rest) K k ((t,.d (.bool false))::L) H)->DS q Γ ops (⟨dst,op,ty,pos,af,some (j,want)⟩::rest) K k L H:=λu v=>ds_guardP h1 h2 hb u v
theorem y26  {op:Op} {ty:TypeId} {pos:String} {af:Array Edge} {j:Nat} {want b:Bool} {dst:Option Nat} {oj:Oper} {t:Nat} (h1:nl ops j=some oj:=by exact rfl) (h2:oj.dst=some t:=by exact rfl) (hb:L.get t = .d (.bool (b)):=by exact rfl):(b=true->DS q Γ ops (⟨dst,op,ty,pos,af,some (j,want)⟩::rest) K k ((t,.d (.bool true))::L) H)->(b=false->DS q Γ ops (⟨dst,op,ty,pos,af,some (j,want)⟩::rest) K k ((t,.d (.bool false))::L) H)->DS q Γ ops (⟨dst,op,ty,pos,af,some (j,want)⟩::rest) K k L H:=λu v=>ds_guardB h1 h2 hb u v
theorem y27 {i:Nat} {op:Op} {ty:TypeId} {pos:String} {af:Array Edge} {j:Nat} {want:Bool} {p:Prop} {_:Decidable p} {dst:Option Nat} {oj:Oper} {t:Nat} (h1:nl ops j=some oj:=by exact rfl) (h2:oj.dst=some t:=by exact rfl) (hb:L.get t = .d (.bool (decide p)):=by exact rfl):(p->DT Γ ops κ ((i,⟨dst,op,ty,pos,af,some (j,want)⟩)::rem) lg Kf ((t,.d (.bool true))::L) H)->(¬ p->DT Γ ops κ ((i,⟨dst,op,ty,pos,af,some (j,want)⟩)::rem) lg Kf ((t,.d (.bool false))::L) H)->DT Γ ops κ ((i,⟨dst,op,ty,pos,af,some (j,want)⟩)::rem) lg Kf L H:=λu v=>dt_guardP h1 h2 hb u v
theorem zm {G A B:Prop} (h:A) (u:B) (s:A->B->G:=by (first|exact y23|exact y24|((fail_if_success (refine λ_ _=>?_;apply ds_known;exact rfl));exact y25)|((fail_if_success (refine λ_ _=>?_;apply ds_known;exact rfl));exact y26)|((fail_if_success (refine λ_ _=>?_;apply dt_known;exact rfl));exact y27)|fail)):G:=s h u
end
def gv (c:UInt8):Bool:=decide ((97:Int)<=c.toNat) && decide ((c.toNat:Int)<=122)
def ju (c:UInt8):Bool:=decide ((65:Int)<=c.toNat) && decide ((c.toNat:Int)<=90)
def da (c:UInt8):Bool:=decide ((48:Int)<=c.toNat) && decide ((c.toNat:Int)<=57)
def e7 (c:UInt8):Bool:=gv c || ju c
def eh (c:UInt8):Bool:=e7 c || da c
def dq (p:UInt8->Bool):List UInt8->Nat
 | []=>0
 | c::l=>if p c then dq p l+1 else 0
theorem vq (p:UInt8->Bool):∀ l,dq p l<=l.length
 | []=>Ah _
 | c::l=>by
  unfold dq
  have:=vq p l
  split<;>simp<;>omega
theorem tk (p:UInt8->Bool) (l:List UInt8) (i:Nat) (h:i<l.length) (hp:p l[i]=true):dq p (l.drop i)=dq p (l.drop (i+1))+1:=by
 rw [Am h,dq,if_pos hp]
theorem takeW_stop (p:UInt8->Bool) (l:List UInt8) (i:Nat) (h:i<l.length) (hp:p l[i]=false):dq p (l.drop i)=0:=by
 rw [Am h,dq,if_neg (by rw [hp];exact Bool.false_ne_true)]
theorem takeW_end (p:UInt8->Bool) (l:List UInt8) (i:Nat) (h:l.length<=i):dq p (l.drop i)=0:=by
 rw [List.drop_of_length_le h];rfl
def signs:List UInt8:=[40,41,44,46,60,61,43,45,42]
def ml:List UInt8->Bool
 | a::b::_=>(a == 58 && b == 45) || (a == 60 && b == 61) || (a == 33 && b == 61)
 | _=>false
def ct:List UInt8->Int×Nat
 | []=>(0,0)
 | c::l=>if e7 c then (if gv c then 1 else 2,1+dq eh l)
  else if da c then (3,1+dq da l)
  else if ml (c::l) then (4,2)
  else if signs.contains c then (4,1)
  else (0,0)
structure Tok where
 kind:Int
 at_:Int
 text:ByteArray
def sameAll {α:Type} (p:α->α->Bool):List α->List α->Bool
 | [],[]=>true
 | x::xs,y::ys=>p x y && sameAll p xs ys
 | _,_=>false
def Tok.same (at_:Bool) (x y:Tok):Bool:=decide (x.kind=y.kind) && decide (x.text=y.text) && (!at_ || decide (x.at_=y.at_))
theorem fb (c:UInt8) (l:List UInt8):ct (c::l)=(if e7 c then (if gv c then 1 else 2,1+dq eh l)
  else if da c then (3,1+dq da l)
  else if ml (c::l) then (4,2)
  else if signs.contains c then (4,1)
  else (0,0)):=rfl
theorem tokAt_le (l:List UInt8):(ct l).2<=l.length:=by
 cases l with
 | nil=>simp [ct]
 | cons c l =>
  have h1:=vq eh l;have h2:=vq da l;rw [fb];by_cases a:e7 c=true
  ·rw [if_pos a];simp only [Bj];omega
  ·rw [if_neg a];by_cases b:da c=true
   ·rw [if_pos b];simp only [Bj];omega
   ·rw [if_neg b];by_cases d:ml (c::l)=true
    ·rw [if_pos d];cases l with
     | nil=>simp [ml] at d
     | cons b l=>simp
    ·rw [if_neg d];by_cases e:signs.contains c=true
     ·rw [if_pos e];simp
     ·rw [if_neg e];simp
theorem tokAt_pos (l:List UInt8) (h:(ct l).1≠0):1<=(ct l).2:=by
 cases l with
 | nil=>simp [ct] at h
 | cons c l =>
  rw [fb] at h ⊢;by_cases a:e7 c=true
  ·rw [if_pos a];simp
  ·rw [if_neg a] at h ⊢;by_cases b:da c=true
   ·rw [if_pos b];simp
   ·rw [if_neg b] at h ⊢;by_cases d:ml (c::l)=true
    ·rw [if_pos d];simp
    ·rw [if_neg d] at h ⊢;by_cases e:signs.contains c=true
     ·rw [if_pos e];simp
     ·rw [if_neg e] at h;simp at h
def eu (kind:Int) (n:Nat) (c:UInt8):Int :=
 if kind=0 then 1
 else if ((kind=1∨kind=2)/\12<n)∨(kind=3/\7<n) then 2
 else if kind=3/\1<n/\c=48 then 1
 else 0
def gw (s:ByteArray):Nat->Bool->Nat->Except (Int×Int) (List Tok)
 | 0,_,_=>.ok []
 | f+1,note,i =>
  if h:i<s.size then
   if note || s[i] == 37 then gw s f (s[i] != 10) (i+1)
   else if s[i] == 32 || s[i] == 9 || s[i] == 10 then gw s f false (i+1)
   else
    let q:=ct (s.data.toList.drop i)
    if eu q.1 q.2 s[i]=0 then (gw s f false (i+q.2)).map (Tok.mk q.1 i (s.extract i (i+q.2))::·)
    else .error (i,eu q.1 q.2 s[i])
  else .ok []
theorem scanGo_fuel (s:ByteArray):∀ (f g:Nat) (note:Bool) (i:Nat),s.size-i<=f->s.size-i<=g->gw s f note i=gw s g note i:=by
 intro f;induction f with
 | zero =>
  intro g note i h1 h2;cases g with
  | zero=>rfl
  | succ g=>simp only [gw];rw [dif_neg (by omega)]
 | succ f ih =>
  intro g note i h1 h2;cases g with
  | zero=>simp only [gw];rw [dif_neg (by omega)]
  | succ g =>
   simp only [gw];by_cases h:i<s.size
   ·rw [dif_pos h,dif_pos h];split
    ·exact ih g _ _ (by omega) (by omega)
    ·split
     ·exact ih g _ _ (by omega) (by omega)
     ·split
      ·rename_i he;have hk:(ct (s.data.toList.drop i)).1≠0:=λh0=>by simp [eu,h0] at he
       have:=tokAt_pos _ hk
       rw [ih g _ _ (by omega) (by omega)]
      ·rfl
   ·rw [dif_neg h,dif_neg h]
def c7 (s:ByteArray) (note:Bool) (i:Nat):Except (Int×Int) (List Tok):=gw s (s.size-i) note i
theorem tp (s:ByteArray) (note:Bool) (i:Nat) (h:s.size<=i):c7 s note i = .ok []:=by
 unfold c7;rw [show s.size-i=0 by omega];rfl
theorem scanAt_note (s:ByteArray) (note:Bool) (i:Nat) (h:i<s.size) (hn:(note || s[i] == 37)=true):c7 s note i=c7 s (s[i] != 10) (i+1):=by
 unfold c7;rw [show s.size-i=(s.size-(i+1))+1 by omega,gw,dif_pos h,if_pos hn]
theorem scanAt_blank (s:ByteArray) (i:Nat) (h:i<s.size) (hn:(s[i] == 37)=false) (hb:(s[i] == 32 || s[i] == 9 || s[i] == 10)=true):c7 s false i=c7 s false (i+1):=by
 unfold c7;rw [show s.size-i=(s.size-(i+1))+1 by omega,gw,dif_pos h,if_neg (by simp [hn]),if_pos hb]
theorem scanAt_err (s:ByteArray) (i:Nat) (h:i<s.size) (hn:(s[i] == 37)=false) (hb:(s[i] == 32 || s[i] == 9 || s[i] == 10)=false) (he:eu (ct (s.data.toList.drop i)).1 (ct (s.data.toList.drop i)).2 s[i]≠0) :
  c7 s false i = .error (i,eu (ct (s.data.toList.drop i)).1 (ct (s.data.toList.drop i)).2 s[i]):=by
 unfold c7;rw [show s.size-i=(s.size-(i+1))+1 by omega,gw,dif_pos h,if_neg (by simp [hn]),if_neg (by simp [hb])];exact if_neg he
theorem scanAt_tok (s:ByteArray) (i:Nat) (h:i<s.size) (hn:(s[i] == 37)=false) (hb:(s[i] == 32 || s[i] == 9 || s[i] == 10)=false) (he:eu (ct (s.data.toList.drop i)).1 (ct (s.data.toList.drop i)).2 s[i]=0) :
  c7 s false i=(c7 s false (i+(ct (s.data.toList.drop i)).2)).map (Tok.mk (ct (s.data.toList.drop i)).1 i (s.extract i (i+(ct (s.data.toList.drop i)).2))::·):=by
 have hk:(ct (s.data.toList.drop i)).1≠0:=λh0=>by simp [eu,h0] at he
 have:=tokAt_pos _ hk
 unfold c7;rw [scanGo_fuel s (s.size-i) ((s.size-(i+1))+1) false i (Ah _) (by omega)];rw [gw,dif_pos h,if_neg (by simp [hn]),if_neg (by simp [hb])];show (if _ then _ else _)=_;rw [if_pos he,scanGo_fuel s (s.size-(i+1)) (s.size-(i+(ct (s.data.toList.drop i)).2)) false _ (by omega) (Ah _)]
def vd (s:ByteArray):List Tok×Int×Int :=
 if 5000<s.size then ([],0,2) else match c7 s false 0 with
  | .ok l=>(l,0,0)
  | .error (p,e)=>([],p,e)
attribute [irreducible] gv ju da e7 eh ml dq ct eu gw c7 vd sameAll Tok.same
def encTok (t:Tok):List D:=[.int .i64 t.kind,.int .i64 t.at_,.str t.text]
def encToks (l:List Tok):D:=.slice 3 (l.map encTok)
abbrev FnD (dr:Bool) (f:FuncId) (args:List SV) (R:SV->Prop):Prop:=FnP dr Tryz.prog tab b9 f args R
abbrev Fn (f:FuncId) (args:List SV) (R:SV->Prop):Prop:=FnP false Tryz.prog tab b9 f args R
theorem oa (s:ByteArray) (i:Nat) (h:i<s.size):s.data.toList[i]'(by simpa using h)=s[i]'h:=by simp [ByteArray.getElem_eq_getElem_data]
end Go.Proofs.YtapciiffpnociadGreat
