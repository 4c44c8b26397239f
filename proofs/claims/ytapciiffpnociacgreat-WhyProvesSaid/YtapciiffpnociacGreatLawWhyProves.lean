/- WhyProves: just what is in the model is proved. Condition: none. -/
import Derived.Test.YtapciiffpnociacGreatRows
import Derived.Test.YtapciiffpnociacGreatW24
import Derived.Test.YtapciiffpnociacGreatW25
import Derived.Test.YtapciiffpnociacGreatW10
import Derived.ProofKit
namespace Go.Proofs.YtapciiffpnociacGreat
open Go Go.RowKit Go.ChangeShapes Go.WideShapes Go.ChangeAt
theorem own:ownKnob Tryz.prog.godebug=none:=by kernel_rfl
theorem laidOut:laidOutB Tryz.prog=true:=by kernel_rfl
theorem whyProves_args:∀ zs,ArgsD [rtPrg,.slice 2 32 rtFct,rtFct] zs→FnP false Tryz.prog tab b8 10 zs (fun r=>r = .d (.bool true)):=by
 rintro zs ⟨x1,l1,rfl,h1,x2,l2,rfl,h2,x3,l3,rfl,h3,rfl⟩
 obtain⟨a1,e1⟩:=prg_arg x1 h1;obtain⟨a2,e2⟩:=fcts_arg x2 h2;obtain⟨a3,e3⟩:=fct_arg x3 h3;rw [e1,e2,e3];exact whyProves_fn a1 a2 a3
set_option maxRecDepth 100000 in
theorem whyProves_lifted (os:Os) (started:os.Started) (H:Type) (enc:TypeId × Value→H) :
  ReturnsInHanded {} Tryz.checked os 10 .any (Rows.whyProvesSpec.pre6 enc Tryz.prog Tryz.f10 Rows.whyProvesRow.domain false) (Rows.whyProvesSpec.post enc Tryz.prog Tryz.f10 false true false false):=by
 refine law_lifted (C:=Tryz.checked) (τok:=b8) (rs:=[rtPrg,.slice 2 32 rtFct,rtFct]) (tb:=4) started own (by kernel_rfl) Tryz.func10
  (ChangeSpec.witness6 (enc:=enc) (C:=Tryz.checked) false ⟨#[],#[.agg #[.slice none 0 0,.slice none 0 0,.slice none 0 0],.slice none 0 0,.agg #[.int .i64 0,.slice none 0 0]],[]⟩ 8 (by kernel_rfl) (by kernel_rfl) (by kernel_rfl) (by kernel_rfl))
  rfl rfl ?_ (by kernel_rfl) (by kernel_rfl) laidOut (by kernel_rfl) (by kernel_rfl) whyProves_args
 intro ds hd
 have hd:ds.length=3:=hd
 match ds,hd with
 | [d0,d1,d2],_=>rfl
theorem whyProves_holds:Rows.WhyProvesSaid :=
 OpenClaim.holds_of_wide 10 Tryz.f10 rfl rfl rfl rfl rfl rfl rfl ⟨rfl,rfl,rfl,rfl,rfl⟩ rfl rfl rfl rfl rfl (by kernel_rfl) Tryz.func10 (by kernel_rfl)
  (of_decide_eq_true (by kernel_rfl)) (by unfold Func.isWrapper;first|(rw [if_pos (by decide +kernel)];kernel_rfl)|(rw [if_neg (by decide +kernel)];exact⟨rfl,rfl⟩))
  (fun os started H enc _=>whyProves_lifted os started H enc)
#print axioms whyProves_holds
end Go.Proofs.YtapciiffpnociacGreat
