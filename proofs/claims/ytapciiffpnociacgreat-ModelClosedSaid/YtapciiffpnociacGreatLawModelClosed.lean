/- ModelClosed: the model is closed under the rules. Condition: none. -/
import Derived.Test.YtapciiffpnociacGreatRows
import Derived.Test.YtapciiffpnociacGreatC22
import Derived.Test.YtapciiffpnociacGreatC09
import Derived.ProofKit
namespace Go.Proofs.YtapciiffpnociacGreat
open Go Go.RowKit Go.ChangeShapes Go.WideShapes Go.ChangeAt
theorem own:ownKnob Tryz.prog.godebug=none:=by kernel_rfl
theorem laidOut:laidOutB Tryz.prog=true:=by kernel_rfl
theorem modelClosed_args:∀ zs,ArgsD [rtPrg,.slice 2 32 rtFct] zs→FnP false Tryz.prog tab tab_ok 7 zs (fun r=>r = .d (.bool true)):=by
 rintro zs ⟨x1,l1,rfl,h1,x2,l2,rfl,h2,rfl⟩
 obtain⟨a1,e1⟩:=prg_arg x1 h1;obtain⟨a2,e2⟩:=fcts_arg x2 h2;rw [e1,e2];exact modelClosed_fn a1 a2
set_option maxRecDepth 100000 in
theorem modelClosed_lifted (os:Os) (started:os.Started) (H:Type) (enc:TypeId × Value→H) :
  ReturnsInHanded {} Tryz.checked os 7 .any (Rows.modelClosedSpec.pre6 enc Tryz.prog Tryz.f7 Rows.modelClosedRow.domain false) (Rows.modelClosedSpec.post enc Tryz.prog Tryz.f7 false true false false):=by
 refine law_lifted (C:=Tryz.checked) (τok:=tab_ok) (rs:=[rtPrg,.slice 2 32 rtFct]) (tb:=4) started own (by kernel_rfl) Tryz.func7
  (ChangeSpec.witness6 (enc:=enc) (C:=Tryz.checked) false ⟨#[],#[.agg #[.slice none 0 0,.slice none 0 0,.slice none 0 0],.slice none 0 0],[]⟩ 8 (by kernel_rfl) (by kernel_rfl) (by kernel_rfl) (by kernel_rfl))
  rfl rfl ?_ (by kernel_rfl) (by kernel_rfl) laidOut (by kernel_rfl) (by kernel_rfl) modelClosed_args
 intro ds hd
 have hd:ds.length=2:=hd
 match ds,hd with
 | [d0,d1],_=>rfl
theorem modelClosed_holds:Rows.ModelClosedSaid :=
 OpenClaim.holds_of_wide 7 Tryz.f7 rfl rfl rfl rfl rfl rfl rfl ⟨rfl,rfl,rfl,rfl,rfl⟩ rfl rfl rfl rfl rfl (by kernel_rfl) Tryz.func7 (by kernel_rfl)
  (of_decide_eq_true (by kernel_rfl)) (by unfold Func.isWrapper;first|(rw [if_pos (by decide +kernel)];kernel_rfl)|(rw [if_neg (by decide +kernel)];exact⟨rfl,rfl⟩))
  (fun os started H enc _=>modelClosed_lifted os started H enc)
#print axioms modelClosed_holds
end Go.Proofs.YtapciiffpnociacGreat
