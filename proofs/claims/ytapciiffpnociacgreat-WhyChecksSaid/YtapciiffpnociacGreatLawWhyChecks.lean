/- WhyChecks: Check answers just what the document says, errors too. Condition: none. -/
import Derived.Test.YtapciiffpnociacGreatRows
import Derived.Test.YtapciiffpnociacGreatW24
import Derived.Test.YtapciiffpnociacGreatW25
import Derived.Test.YtapciiffpnociacGreatW10
import Derived.ProofKit
namespace Go.Proofs.YtapciiffpnociacGreat
open Go Go.RowKit Go.ChangeShapes Go.WideShapes Go.ChangeAt
theorem own:ownKnob Tryz.prog.godebug=none:=by kernel_rfl
theorem laidOut:laidOutB Tryz.prog=true:=by kernel_rfl
theorem whyChecks_args:∀ zs,ArgsD [rtPrg,.slice 2 32 rtFct,.slice 4 64 rtStp] zs→FnP false Tryz.prog tab b8 9 zs (fun r=>r = .d (.bool true)):=by
 rintro zs ⟨x1,l1,rfl,h1,x2,l2,rfl,h2,x3,l3,rfl,h3,rfl⟩
 obtain⟨a1,e1⟩:=prg_arg x1 h1;obtain⟨a2,e2⟩:=fcts_arg x2 h2;obtain⟨a3,e3⟩:=stps_arg x3 h3;rw [e1,e2,e3];exact whyChecks_fn a1 a2 a3
set_option maxRecDepth 100000 in
theorem whyChecks_lifted (os:Os) (started:os.Started) (H:Type) (enc:TypeId × Value→H) :
  ReturnsInHanded {} Tryz.checked os 9 .any (Rows.whyChecksSpec.pre6 enc Tryz.prog Tryz.f9 Rows.whyChecksRow.domain false) (Rows.whyChecksSpec.post enc Tryz.prog Tryz.f9 false true false false):=by
 refine law_lifted (C:=Tryz.checked) (τok:=b8) (rs:=[rtPrg,.slice 2 32 rtFct,.slice 4 64 rtStp]) (tb:=4) started own (by kernel_rfl) Tryz.func9
  (ChangeSpec.witness6 (enc:=enc) (C:=Tryz.checked) false ⟨#[],#[.agg #[.slice none 0 0,.slice none 0 0,.slice none 0 0],.slice none 0 0,.slice none 0 0],[]⟩ 8 (by kernel_rfl) (by kernel_rfl) (by kernel_rfl) (by kernel_rfl))
  rfl rfl ?_ (by kernel_rfl) (by kernel_rfl) laidOut (by kernel_rfl) (by kernel_rfl) whyChecks_args
 intro ds hd
 have hd:ds.length=3:=hd
 match ds,hd with
 | [d0,d1,d2],_=>rfl
theorem whyChecks_holds:Rows.WhyChecksSaid :=
 OpenClaim.holds_of_wide 9 Tryz.f9 rfl rfl rfl rfl rfl rfl rfl ⟨rfl,rfl,rfl,rfl,rfl⟩ rfl rfl rfl rfl rfl (by kernel_rfl) Tryz.func9 (by kernel_rfl)
  (of_decide_eq_true (by kernel_rfl)) (by unfold Func.isWrapper;first|(rw [if_pos (by decide +kernel)];kernel_rfl)|(rw [if_neg (by decide +kernel)];exact⟨rfl,rfl⟩))
  (fun os started H enc _=>whyChecks_lifted os started H enc)
#print axioms whyChecks_holds
end Go.Proofs.YtapciiffpnociacGreat
