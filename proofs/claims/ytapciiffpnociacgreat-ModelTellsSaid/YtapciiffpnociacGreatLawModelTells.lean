/- ModelTells: Model, Is and Ask answer just what the document says, errors too. Condition: none. -/
import Derived.Test.YtapciiffpnociacGreatRows
import Derived.Test.YtapciiffpnociacGreatB23
import Derived.Test.YtapciiffpnociacGreatB09
import Derived.ProofKit
namespace Go.Proofs.YtapciiffpnociacGreat
open Go Go.RowKit Go.ChangeShapes Go.WideShapes Go.ChangeAt
theorem own:ownKnob Tryz.prog.godebug=none:=by kernel_rfl
theorem laidOut:laidOutB Tryz.prog=true:=by kernel_rfl
theorem modelTells_args:∀ zs,ArgsD [rtPrg,.slice 2 32 rtFct,.slice 2 32 rtFct,.int .i64,rtInts,.slice 1 1 .bool] zs→FnP false Tryz.prog tab tab_ok 5 zs (fun r=>r = .d (.bool true)):=by
 rintro zs ⟨x1,l1,rfl,h1,x2,l2,rfl,h2,x3,l3,rfl,h3,x4,l4,rfl,⟨n,_,rfl⟩,x5,l5,rfl,h5,x6,l6,rfl,h6,rfl⟩
 obtain⟨p,e1⟩:=prg_arg x1 h1;obtain⟨l,e2⟩:=fcts_arg x2 h2;obtain⟨m,e3⟩:=fcts_arg x3 h3;obtain⟨a,e5⟩:=ints_arg x5 h5;obtain⟨b,e6⟩:=bools_arg x6 h6;rw [e1,e2,e3,e5,e6];exact modelTells_fn p l m n a b
set_option maxRecDepth 100000 in
theorem modelTells_lifted (os:Os) (started:os.Started) (H:Type) (enc:TypeId × Value→H) :
  ReturnsInHanded {} Tryz.checked os 5 .any (Rows.modelTellsSpec.pre6 enc Tryz.prog Tryz.f5 Rows.modelTellsRow.domain false) (Rows.modelTellsSpec.post enc Tryz.prog Tryz.f5 false true false false):=by
 refine law_lifted (C:=Tryz.checked) (τok:=tab_ok) (rs:=[rtPrg,.slice 2 32 rtFct,.slice 2 32 rtFct,.int .i64,rtInts,.slice 1 1 .bool]) (tb:=4) started own (by kernel_rfl) Tryz.func5
  (ChangeSpec.witness6 (enc:=enc) (C:=Tryz.checked) false ⟨#[],#[.agg #[.slice none 0 0,.slice none 0 0,.slice none 0 0],.slice none 0 0,.slice none 0 0,.int .i64 0,.slice none 0 0,.slice none 0 0],[]⟩ 8 (by kernel_rfl) (by kernel_rfl) (by kernel_rfl) (by kernel_rfl))
  rfl rfl ?_ (by kernel_rfl) (by kernel_rfl) laidOut (by kernel_rfl) (by kernel_rfl) modelTells_args
 intro ds hd
 have hd:ds.length=6:=hd
 match ds,hd with
 | [d0,d1,d2,d3,d4,d5],_=>rfl
theorem modelTells_holds:Rows.ModelTellsSaid :=
 OpenClaim.holds_of_wide 5 Tryz.f5 rfl rfl rfl rfl rfl rfl rfl ⟨rfl,rfl,rfl,rfl,rfl⟩ rfl rfl rfl rfl rfl (by kernel_rfl) Tryz.func5 (by kernel_rfl)
  (of_decide_eq_true (by kernel_rfl)) (by unfold Func.isWrapper;first|(rw [if_pos (by decide +kernel)];kernel_rfl)|(rw [if_neg (by decide +kernel)];exact⟨rfl,rfl⟩))
  (fun os started H enc _=>modelTells_lifted os started H enc)
#print axioms modelTells_holds
end Go.Proofs.YtapciiffpnociacGreat
