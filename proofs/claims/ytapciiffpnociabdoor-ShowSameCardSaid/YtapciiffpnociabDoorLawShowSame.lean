/- ShowSame: Same answers just what the document says, whatever two trees it is handed: the row, and its card, tied to the program's text. Condition: none. -/
import Derived.Test.YtapciiffpnociabDoorCards
import Derived.Test.YtapciiffpnociabDoorTie
import Derived.Test.YtapciiffpnociabDoorS15
import Derived.ProofKit
namespace Go.Proofs.YtapciiffpnociabDoor
open Go Go.RowKit Go.ChangeShapes Go.WideShapes Go.ChangeAt
theorem own:ownKnob Tryd.prog.godebug=none:=by kernel_rfl
theorem laidOut:laidOutB Tryd.prog=true:=by kernel_rfl
abbrev lawRts:List RT:=[rtTree,rtTree]
abbrev lawArgs:Array Value:=#[.agg #[.slice none 0 0],.agg #[.slice none 0 0]]
theorem showSame_args:∀ zs,ArgsDR reachBytes lawRts zs→FnP false Tryd.prog tab tab_ok 3 zs (fun r=>r = .d (.bool true)):=by
 rintro zs ⟨x1,l1,rfl,h1,x2,l2,rfl,h2,rfl⟩
 obtain⟨rs,e1⟩:=tree_arg x1 h1
 obtain⟨us,e2⟩:=tree_arg x2 h2
 rw [e1,e2]
 exact showSame_fn rs us
theorem laid_met (os:Os):laidMetH Tryd.prog Rows.showSameRow.laid ((World.doorLaid Tryd.prog 400 os).forCall (fun _ _=>0) ⟨#[],lawArgs,[]⟩).memory :=
 laidMetH_of_parts3 (fuel:=8) (laidMet_of_run' 8 (by kernel_rfl) (by kernel_rfl)) (by kernel_rfl) (by kernel_rfl)
theorem table_laid (W:World) (h:laidMetH Tryd.prog Rows.showSameRow.laid W):TabW Tryd.prog W:=by
 have e:(Rows.laid_internal_strconv_uint64pow10:DataW Unit)=Lib.tabData .u64 Lib.pow10Tab:=by kernel_rfl
 have h1:laidMet Tryd.prog Rows.showSameRow.laid W:=(MakeChecks.laidMetH_plain _ _ _ (by kernel_rfl)).mp h
 have h2 : laidMet Tryd.prog [("internal/strconv.uint64pow10", (Rows.laid_internal_strconv_uint64pow10 : DataW Unit))] W := laid_tail (laid_tail h1)
 rw [e] at h2
 exact tabW_of (Lib.tabIs_of_head (g:=1) (t:=136) (e:=128) (n:=20) (by kernel_rfl) (by kernel_rfl) (by kernel_rfl) (by kernel_rfl) (by kernel_rfl) (by kernel_rfl) h2)
theorem reads (os:Os) {H:Type} (enc:TypeId × Value→H):∃ places,DataW.whole enc Tryd.prog ((World.doorLaid Tryd.prog 400 os).forCall (fun _ _=>0) ⟨#[],lawArgs,[]⟩).memory Tryd.f3.params.toList Rows.showSameSpec.vars false lawArgs.toList 8=some ([.agg [.nil],.agg [.nil]],[],places) :=
 ⟨[],by kernel_rfl⟩
set_option maxRecDepth 100000 in
theorem showSame_lifted (os:Os) (started:os.Started) (H:Type) (enc:TypeId × Value→H) (F:Stop.Interp) :
  ReturnsInHanded {} Tryd.checked os 3 .any ((OpenSpec.ofChange Rows.showSameSpec).preRow enc Tryd.prog Tryd.f3 Rows.showSameRow.domain false Rows.showSameRow.laid) (((OpenSpec.ofChange Rows.showSameSpec).at F).post enc Tryd.prog Tryd.f3 false true false false):=by
 obtain⟨places,hx⟩:=reads os enc
 refine law_lifted_row (C:=Tryd.checked) (s:=OpenSpec.ofChange Rows.showSameSpec) (τok:=tab_ok) (rs:=lawRts) (R:=reachBytes) (tb:=4) started own (by kernel_rfl) Tryd.func3
  (witness_row_atRef (enc:=enc) (C:=Tryd.checked) false (World.doorLaid Tryd.prog 400 os) lawArgs rfl (by kernel_rfl) (by kernel_rfl) (by kernel_rfl) (OpenSpec.preRow_of_cond 8 hx (by kernel_rfl) (fun k hk=>by cases hk) (by kernel_rfl) (laid_met os)))
  rfl rfl rfl ?_ (by kernel_rfl) (by kernel_rfl) laidOut (by kernel_rfl) (by kernel_rfl) (fun _ _ h=>h) showSame_args table_laid
 intro ds hd
 have hd:ds.length=2:=hd
 match ds,hd with
 | [d0,d1],_=>rfl
theorem showSame_said:Rows.ShowSameSaid :=
 OpenClaim.holds_of_cond 3 Tryd.f3 rfl rfl rfl rfl rfl rfl rfl ⟨rfl,rfl,rfl,rfl,rfl⟩ rfl rfl rfl rfl rfl (by kernel_rfl) Tryd.func3 (by kernel_rfl)
  (of_decide_eq_true (by kernel_rfl)) (by unfold Func.isWrapper;first|(rw [if_pos (by decide +kernel)];kernel_rfl)|(rw [if_neg (by decide +kernel)];exact⟨rfl,rfl⟩))
  (fun os started H enc _ F=>by rw [OpenClaim.pre_eq_preRow];exact showSame_lifted os started H enc F)
theorem showSame_plain (f : FuncId) (fn : Func) (hf : Tryd.pinned.checked.prog.funcNamed "groundwork/groundworklaw.ShowSame" = some f) (hfn : Tryd.pinned.checked.prog.funcs[f]? = some fn) :
  true=Tryd.pinned.checked.prog.looks []∧∀ (j:Nat) t,fn.params[j]? = some t→Tryd.pinned.checked.prog.wantsStandIn t=false:=by
 obtain rfl : f = 3 := Option.some.inj ((show Tryd.prog.funcNamed "groundwork/groundworklaw.ShowSame" = some 3 by kernel_rfl).symm.trans hf) |>.symm
 obtain rfl:fn=Tryd.f3:=(Option.some.inj (Tryd.func3.symm.trans hfn)).symm
 refine⟨by kernel_rfl,fun j t ht=>?_⟩
 have hall:Tryd.f3.params.toList.all (fun t=>!Tryd.prog.wantsStandIn t)=true:=by kernel_rfl
 have hm:=List.all_eq_true.1 hall t (Array.mem_toList_iff.2 (Array.mem_of_getElem? ht))
 exact (Bool.not_eq_true' _).mp hm
theorem showSame_holds:Rows.ShowSameCardSaid :=
 Claim7.holds_tied_plain_at .later [] _ _ _ _ showSame_said (fun _ h=>by cases h) (by kernel_rfl) (fun _ h=>by cases h) showSame_row_tie rfl ⟨rfl,rfl⟩ (by kernel_rfl) rfl showSame_plain (by kernel_rfl)
#print axioms showSame_holds
end Go.Proofs.YtapciiffpnociabDoor
