/- TreeChecks: Check answers just what the document says, whatever tree it is handed: the row, and its card, tied to the program's text. Condition: none. -/
import Derived.Test.YtapciiffpnociabDoorCards
import Derived.Test.YtapciiffpnociabDoorTie
import Derived.Test.YtapciiffpnociabDoorT12
import Derived.Test.YtapciiffpnociabDoorT13
import Derived.ProofKit
namespace Go.Proofs.YtapciiffpnociabDoor
open Go Go.RowKit Go.ChangeShapes Go.WideShapes Go.ChangeAt
theorem own:ownKnob Tryd.prog.godebug=none:=by kernel_rfl
theorem laidOut:laidOutB Tryd.prog=true:=by kernel_rfl
abbrev lawRts:List RT:=[rtTree]
abbrev lawArgs:Array Value:=#[.agg #[.slice none 0 0]]
theorem treeChecks_args:∀ zs,ArgsDR reachBytes lawRts zs→FnP false Tryd.prog tab tab_ok 4 zs (fun r=>r = .d (.bool true)):=by
 rintro zs ⟨x1,l1,rfl,h1,rfl⟩
 obtain⟨rs,e1⟩:=tree_arg x1 h1
 rw [e1]
 exact treeChecks_fn rs
theorem laid_met (os:Os):laidMetH Tryd.prog Rows.treeChecksRow.laid ((World.doorLaid Tryd.prog 400 os).forCall (fun _ _=>0) ⟨#[],lawArgs,[]⟩).memory :=
 laidMetH_of_parts3 (fuel:=8) (laidMet_of_run' 8 (by kernel_rfl) (by kernel_rfl)) (by kernel_rfl) (by kernel_rfl)
theorem reads (os:Os) {H:Type} (enc:TypeId × Value→H):∃ places,DataW.whole enc Tryd.prog ((World.doorLaid Tryd.prog 400 os).forCall (fun _ _=>0) ⟨#[],lawArgs,[]⟩).memory Tryd.f4.params.toList Rows.treeChecksSpec.vars false lawArgs.toList 8=some ([.agg [.nil]],[],places) :=
 ⟨[],by kernel_rfl⟩
set_option maxRecDepth 100000 in
theorem treeChecks_lifted (os:Os) (started:os.Started) (H:Type) (enc:TypeId × Value→H) (F:Stop.Interp) :
  ReturnsInHanded {} Tryd.checked os 4 .any ((OpenSpec.ofChange Rows.treeChecksSpec).preRow enc Tryd.prog Tryd.f4 Rows.treeChecksRow.domain false Rows.treeChecksRow.laid) (((OpenSpec.ofChange Rows.treeChecksSpec).at F).post enc Tryd.prog Tryd.f4 false true false false):=by
 obtain⟨places,hx⟩:=reads os enc
 refine law_lifted_row (C:=Tryd.checked) (s:=OpenSpec.ofChange Rows.treeChecksSpec) (τok:=tab_ok) (rs:=lawRts) (R:=reachBytes) (tb:=4) started own (by kernel_rfl) Tryd.func4
  (witness_row_atRef (enc:=enc) (C:=Tryd.checked) false (World.doorLaid Tryd.prog 400 os) lawArgs rfl (by kernel_rfl) (by kernel_rfl) (by kernel_rfl) (OpenSpec.preRow_of_cond 8 hx (by kernel_rfl) (fun k hk=>by cases hk) (by kernel_rfl) (laid_met os)))
  rfl rfl rfl ?_ (by kernel_rfl) (by kernel_rfl) laidOut (by kernel_rfl) (by kernel_rfl) (fun _ _ h=>h) treeChecks_args
 intro ds hd
 have hd:ds.length=1:=hd
 match ds,hd with
 | [d0],_=>rfl
theorem treeChecks_said:Rows.TreeChecksSaid :=
 OpenClaim.holds_of_cond 4 Tryd.f4 rfl rfl rfl rfl rfl rfl rfl ⟨rfl,rfl,rfl,rfl,rfl⟩ rfl rfl rfl rfl rfl (by kernel_rfl) Tryd.func4 (by kernel_rfl)
  (of_decide_eq_true (by kernel_rfl)) (by unfold Func.isWrapper;first|(rw [if_pos (by decide +kernel)];kernel_rfl)|(rw [if_neg (by decide +kernel)];exact⟨rfl,rfl⟩))
  (fun os started H enc _ F=>by rw [OpenClaim.pre_eq_preRow];exact treeChecks_lifted os started H enc F)
theorem treeChecks_plain (f : FuncId) (fn : Func) (hf : Tryd.pinned.checked.prog.funcNamed "groundwork/groundworklaw.TreeChecks" = some f) (hfn : Tryd.pinned.checked.prog.funcs[f]? = some fn) :
  true=Tryd.pinned.checked.prog.looks []∧∀ (j:Nat) t,fn.params[j]? = some t→Tryd.pinned.checked.prog.wantsStandIn t=false:=by
 obtain rfl : f = 4 := Option.some.inj ((show Tryd.prog.funcNamed "groundwork/groundworklaw.TreeChecks" = some 4 by kernel_rfl).symm.trans hf) |>.symm
 obtain rfl:fn=Tryd.f4:=(Option.some.inj (Tryd.func4.symm.trans hfn)).symm
 refine⟨by kernel_rfl,fun j t ht=>?_⟩
 have hall:Tryd.f4.params.toList.all (fun t=>!Tryd.prog.wantsStandIn t)=true:=by kernel_rfl
 have hm:=List.all_eq_true.1 hall t (Array.mem_toList_iff.2 (Array.mem_of_getElem? ht))
 exact (Bool.not_eq_true' _).mp hm
theorem treeChecks_holds:Rows.TreeChecksCardSaid :=
 Claim7.holds_tied_plain_at .later [] _ _ _ _ treeChecks_said (fun _ h=>by cases h) (by kernel_rfl) (fun _ h=>by cases h) treeChecks_row_tie rfl ⟨rfl,rfl⟩ (by kernel_rfl) rfl treeChecks_plain (by kernel_rfl)
#print axioms treeChecks_holds
end Go.Proofs.YtapciiffpnociabDoor
