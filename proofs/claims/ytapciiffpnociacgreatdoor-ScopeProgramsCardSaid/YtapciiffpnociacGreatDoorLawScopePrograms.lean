/- ScopePrograms: Program answers just what the document says, and the same place, whatever text it is handed; what comes passes Check: the row, and its card, tied to the program's text. Condition: none. -/
import Derived.Test.YtapciiffpnociacGreatDoorCards
import Derived.Test.YtapciiffpnociacGreatDoorTie
import Derived.Test.YtapciiffpnociacGreatDoorS19
import Derived.ProofKit
namespace Go.Proofs.YtapciiffpnociacGreatDoor
open Go Go.RowKit Go.ChangeShapes Go.WideShapes Go.ChangeAt
theorem own:ownKnob Tryz.prog.godebug=none:=by kernel_rfl
theorem laidOut:laidOutB Tryz.prog=true:=by kernel_rfl
abbrev lawRts:List RT:=[.str]
abbrev lawArgs:Array Value:=#[.string ⟨#[]⟩]
theorem scopePrograms_args:∀ zs,ArgsDR reachBytes lawRts zs→FnP false Tryz.prog tab tab_ok 5 zs (fun r=>r = .d (.bool true)):=by
 rintro zs ⟨xs,l,rfl,⟨s,_,rfl⟩,rfl⟩
 exact scopePrograms_fn s
theorem laid_met (os:Os):laidMetH Tryz.prog Rows.scopeProgramsRow.laid ((World.doorLaid Tryz.prog 400 os).forCall (fun _ _=>0) ⟨#[],lawArgs,[]⟩).memory :=
 laidMetH_of_parts3 (fuel:=8) (laidMet_of_run' 8 (by kernel_rfl) (by kernel_rfl)) (by kernel_rfl) (by kernel_rfl)
theorem reads (os:Os) {H:Type} (enc:TypeId × Value→H):∃ places,DataW.whole enc Tryz.prog ((World.doorLaid Tryz.prog 400 os).forCall (fun _ _=>0) ⟨#[],lawArgs,[]⟩).memory Tryz.f5.params.toList Rows.scopeProgramsSpec.vars false lawArgs.toList 8=some ([.lit (.string [])],[],places) :=
 ⟨[],by kernel_rfl⟩
set_option maxRecDepth 100000 in
theorem scopePrograms_lifted (os:Os) (started:os.Started) (H:Type) (enc:TypeId × Value→H) (F:Stop.Interp) :
  ReturnsInHanded {} Tryz.checked os 5 .any ((OpenSpec.ofChange Rows.scopeProgramsSpec).preRow enc Tryz.prog Tryz.f5 Rows.scopeProgramsRow.domain false Rows.scopeProgramsRow.laid) (((OpenSpec.ofChange Rows.scopeProgramsSpec).at F).post enc Tryz.prog Tryz.f5 false true false false):=by
 obtain⟨places,hx⟩:=reads os enc
 refine law_lifted_row (C:=Tryz.checked) (s:=OpenSpec.ofChange Rows.scopeProgramsSpec) (τok:=tab_ok) (rs:=lawRts) (R:=reachBytes) (tb:=4) started own (by kernel_rfl) Tryz.func5
  (witness_row_atRef (enc:=enc) (C:=Tryz.checked) false (World.doorLaid Tryz.prog 400 os) lawArgs rfl (by kernel_rfl) (by kernel_rfl) (by kernel_rfl) (OpenSpec.preRow_of_cond 8 hx (by kernel_rfl) (fun k hk=>by cases hk) (by kernel_rfl) (laid_met os)))
  rfl rfl rfl ?_ (by kernel_rfl) (by kernel_rfl) laidOut (by kernel_rfl) (by kernel_rfl) (fun _ _ h=>h) scopePrograms_args
 intro ds hd
 have hd:ds.length=1:=hd
 match ds,hd with
 | [d0],_=>rfl
theorem scopePrograms_said:Rows.ScopeProgramsSaid :=
 OpenClaim.holds_of_cond 5 Tryz.f5 rfl rfl rfl rfl rfl rfl rfl ⟨rfl,rfl,rfl,rfl,rfl⟩ rfl rfl rfl rfl rfl (by kernel_rfl) Tryz.func5 (by kernel_rfl)
  (of_decide_eq_true (by kernel_rfl)) (by unfold Func.isWrapper;first|(rw [if_pos (by decide +kernel)];kernel_rfl)|(rw [if_neg (by decide +kernel)];exact⟨rfl,rfl⟩))
  (fun os started H enc _ F=>by rw [OpenClaim.pre_eq_preRow];exact scopePrograms_lifted os started H enc F)
theorem scopePrograms_plain (f : FuncId) (fn : Func) (hf : Tryz.pinned.checked.prog.funcNamed "groundwork/groundworklaw.ScopePrograms" = some f) (hfn : Tryz.pinned.checked.prog.funcs[f]? = some fn) :
  true=Tryz.pinned.checked.prog.looks []∧∀ (j:Nat) t,fn.params[j]? = some t→Tryz.pinned.checked.prog.wantsStandIn t=false:=by
 obtain rfl : f = 5 := Option.some.inj ((show Tryz.prog.funcNamed "groundwork/groundworklaw.ScopePrograms" = some 5 by kernel_rfl).symm.trans hf) |>.symm
 obtain rfl:fn=Tryz.f5:=(Option.some.inj (Tryz.func5.symm.trans hfn)).symm
 refine⟨by kernel_rfl,fun j t ht=>?_⟩
 have hall:Tryz.f5.params.toList.all (fun t=>!Tryz.prog.wantsStandIn t)=true:=by kernel_rfl
 have hm:=List.all_eq_true.1 hall t (Array.mem_toList_iff.2 (Array.mem_of_getElem? ht))
 exact (Bool.not_eq_true' _).mp hm
theorem scopePrograms_holds:Rows.ScopeProgramsCardSaid :=
 Claim7.holds_tied_plain_at .later [] _ _ _ _ scopePrograms_said (fun _ h=>by cases h) (by kernel_rfl) (fun _ h=>by cases h) scopePrograms_row_tie rfl ⟨rfl,rfl⟩ (by kernel_rfl) rfl scopePrograms_plain (by kernel_rfl)
#print axioms scopePrograms_holds
end Go.Proofs.YtapciiffpnociacGreatDoor
