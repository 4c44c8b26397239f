/- RestTexts: trees and tokens that came, and were changed, change nothing that was handed in, nor what comes next: the row, and its card, tied to the program's text. Condition: none. -/
import Derived.Test.YtapciiffpnociabGreatDoorCards
import Derived.Test.YtapciiffpnociabGreatDoorTie
import Derived.Test.YtapciiffpnociabGreatDoorR17
import Derived.ProofKit
namespace Go.Proofs.YtapciiffpnociabGreatDoor
open Go Go.RowKit Go.ChangeShapes Go.WideShapes Go.ChangeAt
theorem own:ownKnob Tryz.prog.godebug=none:=by kernel_rfl
theorem laidOut:laidOutB Tryz.prog=true:=by kernel_rfl
abbrev lawRts:List RT:=[.str]
abbrev lawArgs:Array Value:=#[.string ⟨#[]⟩]
theorem restTexts_args:∀ zs,ArgsDR reachBytes lawRts zs→FnP false Tryz.prog tab tab_ok 7 zs (fun r=>r = .d (.bool true)):=by
 rintro zs ⟨xs,l,rfl,⟨s,_,rfl⟩,rfl⟩
 exact restTexts_fn s
theorem laid_met (os:Os):laidMetH Tryz.prog Rows.restTextsRow.laid ((World.doorLaid Tryz.prog 400 os).forCall (fun _ _=>0) ⟨#[],lawArgs,[]⟩).memory :=
 laidMetH_of_parts3 (fuel:=8) (laidMet_of_run' 8 (by kernel_rfl) (by kernel_rfl)) (by kernel_rfl) (by kernel_rfl)
theorem table_laid (W:World) (h:laidMetH Tryz.prog Rows.restTextsRow.laid W):TabW Tryz.prog W:=by
 have e:(Rows.laid_internal_strconv_uint64pow10:DataW Unit)=Lib.tabData .u64 Lib.pow10Tab:=by kernel_rfl
 have h1:laidMet Tryz.prog Rows.restTextsRow.laid W:=(MakeChecks.laidMetH_plain _ _ _ (by kernel_rfl)).mp h
 have h2 : laidMet Tryz.prog [("internal/strconv.uint64pow10", (Rows.laid_internal_strconv_uint64pow10 : DataW Unit)), ("strconv.ErrRange", (Rows.laid_strconv_ErrRange : DataW Unit)), ("strconv.ErrSyntax", (Rows.laid_strconv_ErrSyntax : DataW Unit))] W := laid_tail (laid_tail h1)
 rw [e] at h2
 exact tabW_of (Lib.tabIs_of_head (g:=1) (t:=139) (e:=131) (n:=20) (by kernel_rfl) (by kernel_rfl) (by kernel_rfl) (by kernel_rfl) (by kernel_rfl) (by kernel_rfl) h2)
theorem reads (os:Os) {H:Type} (enc:TypeId × Value→H):∃ places,DataW.whole enc Tryz.prog ((World.doorLaid Tryz.prog 400 os).forCall (fun _ _=>0) ⟨#[],lawArgs,[]⟩).memory Tryz.f7.params.toList Rows.restTextsSpec.vars false lawArgs.toList 8=some ([.lit (.string [])],[],places) :=
 ⟨[],by kernel_rfl⟩
set_option maxRecDepth 100000 in
theorem restTexts_lifted (os:Os) (started:os.Started) (H:Type) (enc:TypeId × Value→H) (F:Stop.Interp) :
  ReturnsInHanded {} Tryz.checked os 7 .any ((OpenSpec.ofChange Rows.restTextsSpec).preRow enc Tryz.prog Tryz.f7 Rows.restTextsRow.domain false Rows.restTextsRow.laid) (((OpenSpec.ofChange Rows.restTextsSpec).at F).post enc Tryz.prog Tryz.f7 false true false false):=by
 obtain⟨places,hx⟩:=reads os enc
 refine law_lifted_row (C:=Tryz.checked) (s:=OpenSpec.ofChange Rows.restTextsSpec) (τok:=tab_ok) (rs:=lawRts) (R:=reachBytes) (tb:=4) started own (by kernel_rfl) Tryz.func7
  (witness_row_atRef (enc:=enc) (C:=Tryz.checked) false (World.doorLaid Tryz.prog 400 os) lawArgs rfl (by kernel_rfl) (by kernel_rfl) (by kernel_rfl) (OpenSpec.preRow_of_cond 8 hx (by kernel_rfl) (fun k hk=>by cases hk) (by kernel_rfl) (laid_met os)))
  rfl rfl rfl ?_ (by kernel_rfl) (by kernel_rfl) laidOut (by kernel_rfl) (by kernel_rfl) (fun _ _ h=>h) restTexts_args table_laid
 intro ds hd
 have hd:ds.length=1:=hd
 match ds,hd with
 | [d0],_=>rfl
theorem restTexts_said:Rows.RestTextsSaid :=
 OpenClaim.holds_of_cond 7 Tryz.f7 rfl rfl rfl rfl rfl rfl rfl ⟨rfl,rfl,rfl,rfl,rfl⟩ rfl rfl rfl rfl rfl (by kernel_rfl) Tryz.func7 (by kernel_rfl)
  (of_decide_eq_true (by kernel_rfl)) (by unfold Func.isWrapper;first|(rw [if_pos (by decide +kernel)];kernel_rfl)|(rw [if_neg (by decide +kernel)];exact⟨rfl,rfl⟩))
  (fun os started H enc _ F=>by rw [OpenClaim.pre_eq_preRow];exact restTexts_lifted os started H enc F)
theorem restTexts_plain (f : FuncId) (fn : Func) (hf : Tryz.pinned.checked.prog.funcNamed "groundwork/groundworklaw.RestTexts" = some f) (hfn : Tryz.pinned.checked.prog.funcs[f]? = some fn) :
  true=Tryz.pinned.checked.prog.looks []∧∀ (j:Nat) t,fn.params[j]? = some t→Tryz.pinned.checked.prog.wantsStandIn t=false:=by
 obtain rfl : f = 7 := Option.some.inj ((show Tryz.prog.funcNamed "groundwork/groundworklaw.RestTexts" = some 7 by kernel_rfl).symm.trans hf) |>.symm
 obtain rfl:fn=Tryz.f7:=(Option.some.inj (Tryz.func7.symm.trans hfn)).symm
 refine⟨by kernel_rfl,fun j t ht=>?_⟩
 have hall:Tryz.f7.params.toList.all (fun t=>!Tryz.prog.wantsStandIn t)=true:=by kernel_rfl
 have hm:=List.all_eq_true.1 hall t (Array.mem_toList_iff.2 (Array.mem_of_getElem? ht))
 exact (Bool.not_eq_true' _).mp hm
theorem restTexts_holds:Rows.RestTextsCardSaid :=
 Claim7.holds_tied_plain_at .later [] _ _ _ _ restTexts_said (fun _ h=>by cases h) (by kernel_rfl) (fun _ h=>by cases h) restTexts_row_tie rfl ⟨rfl,rfl⟩ (by kernel_rfl) rfl restTexts_plain (by kernel_rfl)
#print axioms restTexts_holds
end Go.Proofs.YtapciiffpnociabGreatDoor
