/- DagTells: Check, Add, Heads and Facts answer just what the document says. Condition: none. -/
import Derived.Test.YtapciiffpnociabGreatRows
import Derived.Test.YtapciiffpnociabGreatD17
import Derived.Test.YtapciiffpnociabGreatD10
import Derived.ProofKit
namespace Go.Proofs.YtapciiffpnociabGreat
open Go Go.RowKit Go.ChangeShapes Go.WideShapes Go.ChangeAt
theorem own:ownKnob Tryz.prog.godebug=none:=by kernel_rfl
theorem laidOut:laidOutB Tryz.prog=true:=by kernel_rfl
theorem dagTells_args:∀ zs,ArgsD [rtRpl,rtUpd] zs→FnP false Tryz.prog tab tab_ok 4 zs (fun r=>r = .d (.bool true)):=by
 rintro zs ⟨x1,l1,rfl,h1,x2,l2,rfl,h2,rfl⟩
 obtain⟨a1,e1,b1,c1⟩:=rpl_arg x1 h1;obtain⟨a2,e2⟩:=upd_argD x2 h2;rw [e1,e2];exact dagTells_fn a1 a2 b1 c1
set_option maxRecDepth 100000 in
theorem dagTells_lifted (os:Os) (started:os.Started) (H:Type) (enc:TypeId × Value→H) :
  ReturnsInHanded {} Tryz.checked os 4 .any (Rows.dagTellsSpec.pre6 enc Tryz.prog Tryz.f4 Rows.dagTellsRow.domain false) (Rows.dagTellsSpec.post enc Tryz.prog Tryz.f4 false true false false):=by
 refine law_lifted (C:=Tryz.checked) (τok:=tab_ok) (rs:=[rtRpl,rtUpd]) (tb:=4) started own (by kernel_rfl) Tryz.func4
  (ChangeSpec.witness6 (enc:=enc) (C:=Tryz.checked) false ⟨#[],#[.agg #[.slice none 0 0,.slice none 0 0],.agg #[.int .i64 0,.int .i64 0,.slice none 0 0,.slice none 0 0,.slice none 0 0]],[]⟩ 8 (by kernel_rfl) (by kernel_rfl) (by kernel_rfl) (by kernel_rfl))
  rfl rfl ?_ (by kernel_rfl) (by kernel_rfl) laidOut (by kernel_rfl) (by kernel_rfl) dagTells_args
 intro ds hd
 have hd:ds.length=2:=hd
 match ds,hd with
 | [d0,d1],_=>rfl
theorem dagTells_holds:Rows.DagTellsSaid :=
 OpenClaim.holds_of_wide 4 Tryz.f4 rfl rfl rfl rfl rfl rfl rfl ⟨rfl,rfl,rfl,rfl,rfl⟩ rfl rfl rfl rfl rfl (by kernel_rfl) Tryz.func4 (by kernel_rfl)
  (of_decide_eq_true (by kernel_rfl)) (by unfold Func.isWrapper;first|(rw [if_pos (by decide +kernel)];kernel_rfl)|(rw [if_neg (by decide +kernel)];exact⟨rfl,rfl⟩))
  (fun os started H enc _=>dagTells_lifted os started H enc)
#print axioms dagTells_holds
end Go.Proofs.YtapciiffpnociabGreat
