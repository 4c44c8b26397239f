/- ViewPlays: changes that are played, one by one, lead from what was open to what is. Condition: none. -/
import Derived.Test.YtapciiffpnociaaGreatRows
import Derived.Test.YtapciiffpnociaaGreatP25
import Derived.Test.YtapciiffpnociaaGreatP26
import Derived.Test.YtapciiffpnociaaGreatP10
import Derived.ProofKit
namespace Go.Proofs.YtapciiffpnociaaGreat
open Go Go.RowKit Go.ChangeShapes Go.WideShapes Go.ChangeAt
theorem own:ownKnob Tryz.prog.godebug=none:=by kernel_rfl
theorem laidOut:laidOutB Tryz.prog=true:=by kernel_rfl
theorem viewPlays_args:∀ zs,ArgsD [rtPrg,rtRpl,rtUpds] zs→FnP false Tryz.prog tab cn 3 zs (fun r=>r = .d (.bool true)):=by
 rintro zs ⟨x1,l1,rfl,h1,x2,l2,rfl,h2,x3,l3,rfl,h3,rfl⟩
 obtain⟨a1,e1⟩:=prg_arg x1 h1;obtain⟨a2,e2,b2,c2⟩:=rpl_arg x2 h2;obtain⟨a3,e3,_⟩:=upds_arg x3 h3;rw [e1,e2,e3];exact viewPlays_fn a1 a2 a3 b2 c2 viewBegun_fn changeBegun_fn
set_option maxRecDepth 100000 in
theorem viewPlays_lifted (os:Os) (started:os.Started) (H:Type) (enc:TypeId × Value→H) :
  ReturnsInHanded {} Tryz.checked os 3 .any (Rows.viewPlaysSpec.pre6 enc Tryz.prog Tryz.f3 Rows.viewPlaysRow.domain false) (Rows.viewPlaysSpec.post enc Tryz.prog Tryz.f3 false true false false):=by
 refine law_lifted (C:=Tryz.checked) (τok:=cn) (rs:=[rtPrg,rtRpl,rtUpds]) (tb:=4) started own (by kernel_rfl) Tryz.func3
  (ChangeSpec.witness6 (enc:=enc) (C:=Tryz.checked) false ⟨#[],#[.agg #[.slice none 0 0,.slice none 0 0,.slice none 0 0],.agg #[.slice none 0 0,.slice none 0 0],.slice none 0 0],[]⟩ 8 (by kernel_rfl) (by kernel_rfl) (by kernel_rfl) (by kernel_rfl))
  rfl rfl ?_ (by kernel_rfl) (by kernel_rfl) laidOut (by kernel_rfl) (by kernel_rfl) viewPlays_args
 intro ds hd
 have hd:ds.length=3:=hd
 match ds,hd with
 | [d0,d1,d2],_=>rfl
theorem viewPlays_holds:Rows.ViewPlaysSaid :=
 OpenClaim.holds_of_wide 3 Tryz.f3 rfl rfl rfl rfl rfl rfl rfl ⟨rfl,rfl,rfl,rfl,rfl⟩ rfl rfl rfl rfl rfl (by kernel_rfl) Tryz.func3 (by kernel_rfl)
  (of_decide_eq_true (by kernel_rfl)) (by unfold Func.isWrapper;first|(rw [if_pos (by decide +kernel)];kernel_rfl)|(rw [if_neg (by decide +kernel)];exact⟨rfl,rfl⟩))
  (fun os started H enc _=>viewPlays_lifted os started H enc)
#print axioms viewPlays_holds
end Go.Proofs.YtapciiffpnociaaGreat
