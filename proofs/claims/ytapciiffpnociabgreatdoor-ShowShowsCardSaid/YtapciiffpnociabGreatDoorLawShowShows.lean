/- ShowShows: Show answers just what the document says, errors too, whatever tree it is handed: the row, and its card, tied to the program's text. Condition: none. -/
import Derived.Test.YtapciiffpnociabGreatDoorCards
import Derived.Test.YtapciiffpnociabGreatDoorTie
import Derived.Test.YtapciiffpnociabGreatDoorS15
import Derived.ProofKit
namespace Go.Proofs.YtapciiffpnociabGreatDoor
open Go Go.RowKit Go.ChangeShapes Go.WideShapes Go.ChangeAt
theorem own:ownKnob Tryz.prog.godebug=none:=by kernel_rfl
theorem laidOut:laidOutB Tryz.prog=true:=by kernel_rfl
abbrev lawRts:List RT:=[rtTree]
abbrev lawArgs:Array Value:=#[.agg #[.slice none 0 0]]
theorem showShows_args:∀ zs,ArgsDR reachBytes lawRts zs→FnP false Tryz.prog tab tab_ok 3 zs (fun r=>r = .d (.bool true)):=by
 rintro zs ⟨x1,l1,rfl,h1,rfl⟩
 obtain⟨rs,e1⟩:=tree_arg x1 h1
 rw [e1]
 exact showShows_fn rs
theorem laid_met (os:Os):laidMetH Tryz.prog Rows.showShowsRow.laid ((World.doorLaid Tryz.prog 400 os).forCall (fun _ _=>0) ⟨#[],lawArgs,[]⟩).memory :=
 laidMetH_of_parts3 (fuel:=8) (laidMet_of_run' 8 (by kernel_rfl) (by kernel_rfl)) (by kernel_rfl) (by kernel_rfl)
theorem table_laid (W:World) (h:laidMetH Tryz.prog Rows.showShowsRow.laid W):TabW Tryz.prog W:=by
 have e:(Rows.laid_internal_strconv_uint64pow10:DataW Unit)=Lib.tabData .u64 Lib.pow10Tab:=by kernel_rfl
 have h1:laidMet Tryz.prog Rows.showShowsRow.laid W:=(MakeChecks.laidMetH_plain _ _ _ (by kernel_rfl)).mp h
 have h2 : laidMet Tryz.prog [("internal/strconv.uint64pow10", (Rows.laid_internal_strconv_uint64pow10 : DataW Unit))] W := laid_tail (laid_tail h1)
 rw [e] at h2
 exact tabW_of (Lib.tabIs_of_head (g:=1) (t:=139) (e:=131) (n:=20) (by kernel_rfl) (by kernel_rfl) (by kernel_rfl) (by kernel_rfl) (by kernel_rfl) (by kernel_rfl) h2)
theorem reads (os:Os) {H:Type} (enc:TypeId × Value→H):∃ places,DataW.whole enc Tryz.prog ((World.doorLaid Tryz.prog 400 os).forCall (fun _ _=>0) ⟨#[],lawArgs,[]⟩).memory Tryz.f3.params.toList Rows.showShowsSpec.vars false lawArgs.toList 8=some ([.agg [.nil]],[],places) :=
 ⟨[],by kernel_rfl⟩
set_option maxRecDepth 100000 in
theorem showShows_lifted (os:Os) (started:os.Started) (H:Type) (enc:TypeId × Value→H) (F:Stop.Interp) :
  ReturnsInHanded {} Tryz.checked os 3 .any ((OpenSpec.ofChange Rows.showShowsSpec).preRow enc Tryz.prog Tryz.f3 Rows.showShowsRow.domain false Rows.showShowsRow.laid) (((OpenSpec.ofChange Rows.showShowsSpec).at F).post enc Tryz.prog Tryz.f3 false true false false):=by
 obtain⟨places,hx⟩:=reads os enc
 refine law_lifted_row (C:=Tryz.checked) (s:=OpenSpec.ofChange Rows.showShowsSpec) (τok:=tab_ok) (rs:=lawRts) (R:=reachBytes) (tb:=4) started own (by kernel_rfl) Tryz.func3
  (witness_row_atRef (enc:=enc) (C:=Tryz.checked) false (World.doorLaid Tryz.prog 400 os) lawArgs rfl (by kernel_rfl) (by kernel_rfl) (by kernel_rfl) (OpenSpec.preRow_of_cond 8 hx (by kernel_rfl) (fun k hk=>by cases hk) (by kernel_rfl) (laid_met os)))
  rfl rfl rfl ?_ (by kernel_rfl) (by kernel_rfl) laidOut (by kernel_rfl) (by kernel_rfl) (fun _ _ h=>h) showShows_args table_laid
 intro ds hd
 have hd:ds.length=1:=hd
 match ds,hd with
 | [d0],_=>rfl
theorem showShows_said:Rows.ShowShowsSaid :=
 OpenClaim.holds_of_cond 3 Tryz.f3 rfl rfl rfl rfl rfl rfl rfl ⟨rfl,rfl,rfl,rfl,rfl⟩ rfl rfl rfl rfl rfl (by kernel_rfl) Tryz.func3 (by kernel_rfl)
  (of_decide_eq_true (by kernel_rfl)) (by unfold Func.isWrapper;first|(rw [if_pos (by decide +kernel)];kernel_rfl)|(rw [if_neg (by decide +kernel)];exact⟨rfl,rfl⟩))
  (fun os started H enc _ F=>by rw [OpenClaim.pre_eq_preRow];exact showShows_lifted os started H enc F)
theorem showShows_plain (f : FuncId) (fn : Func) (hf : Tryz.pinned.checked.prog.funcNamed "groundwork/groundworklaw.ShowShows" = some f) (hfn : Tryz.pinned.checked.prog.funcs[f]? = some fn) :
  true=Tryz.pinned.checked.prog.looks []∧∀ (j:Nat) t,fn.params[j]? = some t→Tryz.pinned.checked.prog.wantsStandIn t=false:=by
 obtain rfl : f = 3 := Option.some.inj ((show Tryz.prog.funcNamed "groundwork/groundworklaw.ShowShows" = some 3 by kernel_rfl).symm.trans hf) |>.symm
 obtain rfl:fn=Tryz.f3:=(Option.some.inj (Tryz.func3.symm.trans hfn)).symm
 refine⟨by kernel_rfl,fun j t ht=>?_⟩
 have hall:Tryz.f3.params.toList.all (fun t=>!Tryz.prog.wantsStandIn t)=true:=by kernel_rfl
 have hm:=List.all_eq_true.1 hall t (Array.mem_toList_iff.2 (Array.mem_of_getElem? ht))
 exact (Bool.not_eq_true' _).mp hm
theorem showShows_holds:Rows.ShowShowsCardSaid :=
 Claim7.holds_tied_plain_at .later [] _ _ _ _ showShows_said (fun _ h=>by cases h) (by kernel_rfl) (fun _ h=>by cases h) showShows_row_tie rfl ⟨rfl,rfl⟩ (by kernel_rfl) rfl showShows_plain (by kernel_rfl)
#print axioms showShows_holds
end Go.Proofs.YtapciiffpnociabGreatDoor
