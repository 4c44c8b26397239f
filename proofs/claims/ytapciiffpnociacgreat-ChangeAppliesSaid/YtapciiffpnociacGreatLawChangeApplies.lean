/- ChangeApplies: Apply answers just what the document says. Condition: none. -/
import Derived.Test.YtapciiffpnociacGreatRows
import Derived.Test.YtapciiffpnociacGreatD24
import Derived.Test.YtapciiffpnociacGreatD09
import Derived.ProofKit
namespace Go.Proofs.YtapciiffpnociacGreat
open Go Go.RowKit Go.ChangeShapes Go.WideShapes Go.ChangeAt
theorem own:ownKnob Tryz.prog.godebug=none:=by kernel_rfl
theorem laidOut:laidOutB Tryz.prog=true:=by kernel_rfl
theorem changeApplies_args:∀ zs,ArgsD [rtPrg,.slice 2 32 rtFct,.slice 2 32 rtFct,.slice 2 32 rtFct,.slice 2 32 rtFct] zs→FnP false Tryz.prog tab tab_ok 6 zs (fun r=>r = .d (.bool true)):=by
 rintro zs ⟨x1,l1,rfl,h1,x2,l2,rfl,h2,x3,l3,rfl,h3,x4,l4,rfl,h4,x5,l5,rfl,h5,rfl⟩
 obtain⟨a1,e1⟩:=prg_arg x1 h1;obtain⟨a2,e2⟩:=fcts_arg x2 h2;obtain⟨a3,e3,b3,c3⟩:=fcts_argB x3 h3;obtain⟨a4,e4⟩:=fcts_arg x4 h4;obtain⟨a5,e5⟩:=fcts_arg x5 h5;rw [e1,e2,e3,e4,e5];exact changeApplies_fn a1 a2 a3 a4 a5 b3 c3
set_option maxRecDepth 100000 in
theorem changeApplies_lifted (os:Os) (started:os.Started) (H:Type) (enc:TypeId × Value→H) :
  ReturnsInHanded {} Tryz.checked os 6 .any (Rows.changeAppliesSpec.pre6 enc Tryz.prog Tryz.f6 Rows.changeAppliesRow.domain false) (Rows.changeAppliesSpec.post enc Tryz.prog Tryz.f6 false true false false):=by
 refine law_lifted (C:=Tryz.checked) (τok:=tab_ok) (rs:=[rtPrg,.slice 2 32 rtFct,.slice 2 32 rtFct,.slice 2 32 rtFct,.slice 2 32 rtFct]) (tb:=4) started own (by kernel_rfl) Tryz.func6
  (ChangeSpec.witness6 (enc:=enc) (C:=Tryz.checked) false ⟨#[],#[.agg #[.slice none 0 0,.slice none 0 0,.slice none 0 0],.slice none 0 0,.slice none 0 0,.slice none 0 0,.slice none 0 0],[]⟩ 8 (by kernel_rfl) (by kernel_rfl) (by kernel_rfl) (by kernel_rfl))
  rfl rfl ?_ (by kernel_rfl) (by kernel_rfl) laidOut (by kernel_rfl) (by kernel_rfl) changeApplies_args
 intro ds hd
 have hd:ds.length=5:=hd
 match ds,hd with
 | [d0,d1,d2,d3,d4],_=>rfl
theorem changeApplies_holds:Rows.ChangeAppliesSaid :=
 OpenClaim.holds_of_wide 6 Tryz.f6 rfl rfl rfl rfl rfl rfl rfl ⟨rfl,rfl,rfl,rfl,rfl⟩ rfl rfl rfl rfl rfl (by kernel_rfl) Tryz.func6 (by kernel_rfl)
  (of_decide_eq_true (by kernel_rfl)) (by unfold Func.isWrapper;first|(rw [if_pos (by decide +kernel)];kernel_rfl)|(rw [if_neg (by decide +kernel)];exact⟨rfl,rfl⟩))
  (fun os started H enc _=>changeApplies_lifted os started H enc)
#print axioms changeApplies_holds
end Go.Proofs.YtapciiffpnociacGreat
