/- ModelFocus: focus asks the same. Condition: none. -/
import Derived.Test.YtapciiffpnociacGreatRows
import Derived.Test.YtapciiffpnociacGreatC22
import Derived.Test.YtapciiffpnociacGreatC09
import Derived.ProofKit
namespace Go.Proofs.YtapciiffpnociacGreat
open Go Go.RowKit Go.ChangeShapes Go.WideShapes Go.ChangeAt
theorem own:ownKnob Tryz.prog.godebug=none:=by kernel_rfl
theorem laidOut:laidOutB Tryz.prog=true:=by kernel_rfl
theorem modelFocus_args:∀ zs,ArgsD [rtPrg,.slice 2 32 rtFct,.int .i64,rtInts,.slice 1 1 .bool] zs→FnP false Tryz.prog tab tab_ok 11 zs (fun r=>r = .d (.bool true)):=by
 rintro zs ⟨x1,l1,rfl,h1,x2,l2,rfl,h2,x3,l3,rfl,⟨n3,_,rfl⟩,x4,l4,rfl,h4,x5,l5,rfl,h5,rfl⟩
 obtain⟨a1,e1⟩:=prg_arg x1 h1;obtain⟨a2,e2⟩:=fcts_arg x2 h2;obtain⟨a4,e4⟩:=ints_arg x4 h4;obtain⟨a5,e5⟩:=bools_arg x5 h5;rw [e1,e2,e4,e5];exact modelFocus_fn a1 a2 n3 a4 a5
set_option maxRecDepth 100000 in
theorem modelFocus_lifted (os:Os) (started:os.Started) (H:Type) (enc:TypeId × Value→H) :
  ReturnsInHanded {} Tryz.checked os 11 .any (Rows.modelFocusSpec.pre6 enc Tryz.prog Tryz.f11 Rows.modelFocusRow.domain false) (Rows.modelFocusSpec.post enc Tryz.prog Tryz.f11 false true false false):=by
 refine law_lifted (C:=Tryz.checked) (τok:=tab_ok) (rs:=[rtPrg,.slice 2 32 rtFct,.int .i64,rtInts,.slice 1 1 .bool]) (tb:=4) started own (by kernel_rfl) Tryz.func11
  (ChangeSpec.witness6 (enc:=enc) (C:=Tryz.checked) false ⟨#[],#[.agg #[.slice none 0 0,.slice none 0 0,.slice none 0 0],.slice none 0 0,.int .i64 0,.slice none 0 0,.slice none 0 0],[]⟩ 8 (by kernel_rfl) (by kernel_rfl) (by kernel_rfl) (by kernel_rfl))
  rfl rfl ?_ (by kernel_rfl) (by kernel_rfl) laidOut (by kernel_rfl) (by kernel_rfl) modelFocus_args
 intro ds hd
 have hd:ds.length=5:=hd
 match ds,hd with
 | [d0,d1,d2,d3,d4],_=>rfl
theorem modelFocus_holds:Rows.ModelFocusSaid :=
 OpenClaim.holds_of_wide 11 Tryz.f11 rfl rfl rfl rfl rfl rfl rfl ⟨rfl,rfl,rfl,rfl,rfl⟩ rfl rfl rfl rfl rfl (by kernel_rfl) Tryz.func11 (by kernel_rfl)
  (of_decide_eq_true (by kernel_rfl)) (by unfold Func.isWrapper;first|(rw [if_pos (by decide +kernel)];kernel_rfl)|(rw [if_neg (by decide +kernel)];exact⟨rfl,rfl⟩))
  (fun os started H enc _=>modelFocus_lifted os started H enc)
#print axioms modelFocus_holds
end Go.Proofs.YtapciiffpnociacGreat
