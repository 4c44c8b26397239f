/- Several texts in one: GxCal GxCaq. Condition: none. -/
import Derived.Test.YtapciiffpnociabDoorT03
import Derived.Laws.Externs
namespace Go.Proofs.YtapciiffpnociabDoor
open Go Go.RowKit
section
variable {Γ : Ctx} {k : Nat} {L : Sl} {H : Hp} {K : Next'} {ops : List Oper} {rest : List Oper} {a : Act} {w : World} {e : Env}
theorem ds_callO {f:FuncId} {xs:List Operand} {ts:Array TypeId} {ty:TypeId} {pos:String} {af:Array Edge} {g:Option (Nat × Bool)} {d:Nat} {args:List SV} {J kc:Nat} {Hc:Hp} {R:Nat→SV→Hp→Prop} (ρ:Nat→Nat)
  (hc:FnOk Γ.dr Γ.P Γ.τ Γ.τok f args J kc Hc R) (hw:wantedSV ops L g=some true) (ha:opsL L xs=SV.renL ρ args) (hok:opsOk xs=true) (hlA:SV.lowL kc args=true) (hKH:KnowsH ρ H Hc) (hl:Hp.low kc Hc=true)
  (hd:distinct (Hc.map fun p=>ρ p.1)=true) (hd':distinct (Hc.map (·.1))=true) (hJ:Nat.ble J kc=true) (hall:allIn J (Hc.map (·.1))=true) (hdn:Nat.blt d Γ.n=true)
  (hRr:∀ k2 r H2,R k2 r H2→r.rowsGe J=true∧Hp.rowsGe J H2=true)
  (hk:∀ k2 r H2,R k2 r H2→DS false Γ ops rest K (k + k2) ((d,r.ren (sig ρ J k))::L) ((H2.map fun p=>(sig ρ J k p.1,p.2.ren (sig ρ J k)))++restOf H (Hc.map fun p=>ρ p.1))) :
  DS false Γ ops (⟨some d,.call { callee:=.value (.func f),args:=xs.toArray,argTypes:=ts },ty,pos,af,g⟩::rest) K k L H:=by
 refine dl_run hw fun e a w m=>?_
 unfold Oper.wp
 rw [run_callOp hc.1]
 rw [Oper.upon_enter]
 refine (hc.use ρ m hlA hKH hl hd hd' hJ hall _ (ha▸opsL_rel m xs hok) hRr).mono ?_
 rintro en w' ⟨k2,r,H2,v,e'',hR,rfl,hm,hrel⟩
 exact⟨_,_,_,e'',hm.put (Nat.le_of_ble_eq_true hdn) hrel,hk k2 r H2 hR⟩
theorem run_callV {P:Program} {f:FuncId} (hc:callable P f=true) (a:Act) (x:Operand) (us:List Value) (hx:a.eval x = .func (.func f) #[] us.toArray) (xs:List Operand) (ts:Array TypeId) (dst:Option Tmp) (ty:TypeId) (pos) (after) (guard) (w:World) :
  (execOp a.eval ⟨dst,.call { callee:=.value x,args:=xs.toArray,argTypes:=ts },ty,pos,after,guard⟩).run P w = .ok (.enter f (xs.map a.eval++us).toArray) w:=by
 simp only [execOp,resolve]
 simp [hx,Deferred.ofValue,invoke,run_call hc]
theorem ds_callV {f:FuncId} {x:Operand} {caps:List SV} {xs:List Operand} {ts:Array TypeId} {ty:TypeId} {pos:String} {af:Array Edge} {g:Option (Nat × Bool)} {d:Nat} {args:List SV} {R:SV→Prop}
  (hx:opSV L x = .fn f caps) (hxo:opOkB x=true) (hw:wantedSV ops L g=some true) (ha:opsL L xs++caps=args) (hc:FnP Γ.dr Γ.P Γ.τ Γ.τok f args R) (hok:opsOk xs=true) (hlow:SV.lowL 0 args=true) (hd:Nat.blt d Γ.n=true)
  (hk:∀ r,R r→DS false Γ ops rest K k ((d,r)::L) H) :
  DS false Γ ops (⟨some d,.call { callee:=.value x,args:=xs.toArray,argTypes:=ts },ty,pos,af,g⟩::rest) K k L H:=by
 refine dl_run hw fun e a w m=>?_
 have hr:=m.op x (opOkB_spec hxo)
 rw [hx] at hr
 obtain⟨us,hu,hru⟩:=hr
 unfold Oper.wp
 rw [run_callV hc.1 a x us hu]
 rw [Oper.upon_enter]
 refine (hc.use (τ:=Γ.τ) (τok:=Γ.τok) (Γ:=Γ) m hlow _ (ha▸RelL.append _ _ _ _ (opsL_rel m xs hok) hru)).mono ?_
 rintro en w' ⟨r,v,hR,rfl,hb,hlr,hrel⟩
 exact⟨k,_,H,e,(m.below hb).put (Nat.le_of_ble_eq_true hd) (Rel.keep (Nat.le_refl _) (fun _ _ _=>rfl) (fun _ _ hy=>hy) _ _ hrel),hk r hR⟩
theorem ds_callVO {f:FuncId} {x:Operand} {caps:List SV} {xs:List Operand} {ts:Array TypeId} {ty:TypeId} {pos:String} {af:Array Edge} {g:Option (Nat × Bool)} {d:Nat} {args:List SV} {J kc:Nat} {Hc:Hp} {R:Nat→SV→Hp→Prop} (ρ:Nat→Nat)
  (hc:FnOk Γ.dr Γ.P Γ.τ Γ.τok f args J kc Hc R) (hx:opSV L x = .fn f caps) (hxo:opOkB x=true) (hw:wantedSV ops L g=some true) (ha:opsL L xs++caps=SV.renL ρ args) (hok:opsOk xs=true) (hlA:SV.lowL kc args=true) (hKH:KnowsH ρ H Hc) (hl:Hp.low kc Hc=true)
  (hd:distinct (Hc.map fun p=>ρ p.1)=true) (hd':distinct (Hc.map (·.1))=true) (hJ:Nat.ble J kc=true) (hall:allIn J (Hc.map (·.1))=true) (hdn:Nat.blt d Γ.n=true)
  (hRr:∀ k2 r H2,R k2 r H2→r.rowsGe J=true∧Hp.rowsGe J H2=true)
  (hk:∀ k2 r H2,R k2 r H2→DS false Γ ops rest K (k + k2) ((d,r.ren (sig ρ J k))::L) ((H2.map fun p=>(sig ρ J k p.1,p.2.ren (sig ρ J k)))++restOf H (Hc.map fun p=>ρ p.1))) :
  DS false Γ ops (⟨some d,.call { callee:=.value x,args:=xs.toArray,argTypes:=ts },ty,pos,af,g⟩::rest) K k L H:=by
 refine dl_run hw fun e a w m=>?_
 have hr:=m.op x (opOkB_spec hxo)
 rw [hx] at hr
 obtain⟨us,hu,hru⟩:=hr
 unfold Oper.wp
 rw [run_callV hc.1 a x us hu]
 rw [Oper.upon_enter]
 refine (hc.use ρ m hlA hKH hl hd hd' hJ hall _ (ha▸RelL.append _ _ _ _ (opsL_rel m xs hok) hru) hRr).mono ?_
 rintro en w' ⟨k2,r,H2,v,e'',hR,rfl,hm,hrel⟩
 exact⟨_,_,_,e'',hm.put (Nat.le_of_ble_eq_true hdn) hrel,hk k2 r H2 hR⟩
end
end Go.Proofs.YtapciiffpnociabDoor
namespace Go.Proofs.YtapciiffpnociabDoor
open Go Go.RowKit
section
variable {Γ : Ctx} {k : Nat} {L : Sl} {H : Hp} {K : Next'} {ops : List Oper} {rest : List Oper} {a : Act} {w : World} {e : Env}
end
section
variable {Γ : Ctx} {k : Nat → Prop} {L : Sl} {H : Hp} {K : Next'} {ops : List Oper} {rest : List Oper} {a : Act} {w : World} {e : Env}
theorem ev_indexByte {f : FuncId} {fn : Func} {x y : Operand} {ts : Array TypeId} {ty : TypeId} {s : ByteArray} {c : Int} (hf : Γ.P.funcs[f]? = some fn) (hname : (fn.name == "runtime.NumGoroutine") = false)
  (hb:fn.body.isNone=true) (hn:Extern.findNext fn=none) (he:Extern.find fn=some Extern.BytealgIndexByte.indexByte)
  (hx:opSV L x = .d (.str s)) (hxo:opOkB x=true) (hy:opSV L y = .d (.int .u8 c)):Ev Γ k L H (.call { callee:=.value (.func f),args:=#[x,y],argTypes:=ts }) ty (.d (.int .i64 (firstIdx s c.toNat.toUInt8))):=by
 intro e a w m
 have hs:s.size≤maxLen:=by
  have hr:=m.op x (opOkB_spec hxo)
  rw [hx] at hr
  generalize a.eval x=v at hr
  cases hr;assumption
 refine⟨.int .i64 (firstIdx s c.toNat.toUInt8),fun dst pos after guard w' _=>?_,.int ?_⟩
 ·have h:=run_callFunc_extern (P:=Γ.P) hf hname hb hn he #[.string s,.int .u8 c] w'
  rw [run_indexByte_string] at h
  simp [execOp,resolve,Deferred.ofValue,invoke,evS m hx,evI m hy]
  exact h
 ·unfold firstIdx
  have hm:maxLen=9223372036854775807:=rfl
  split
  ·rename_i i hi
   have:=List.mem_of_find?_eq_some hi
   rw [List.mem_range] at this
   exact WalkArith.wf_i64 (by omega)
  ·rfl
theorem ev_makeFunc {f:FuncId} {xs:List Operand} {caps:List SV} {ty:TypeId} (ha:opsL L xs=caps) (hok:opsOk xs=true):Ev Γ k L H (.makeFunc (.func f) #[] xs.toArray) ty (.fn f caps):=by
 intro e a w m
 refine⟨.func (.func f) #[] (xs.map a.eval).toArray,fun _ _ _ _ w' _=>?_,⟨_,rfl,ha▸opsL_rel m xs hok⟩⟩
 simp [execOp,Instr.makeFunc]
end
end Go.Proofs.YtapciiffpnociabDoor
