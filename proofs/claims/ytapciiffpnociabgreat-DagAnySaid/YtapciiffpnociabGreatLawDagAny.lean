/- DagAny: in whatever order updates with different ids are added, the replica is the same. Condition: none. -/
import Derived.Test.YtapciiffpnociabGreatRows
import Derived.Test.YtapciiffpnociabGreatE16
import Derived.Test.YtapciiffpnociabGreatE10
import Derived.ProofKit
namespace Go.Proofs.YtapciiffpnociabGreat
open Go Go.RowKit Go.ChangeShapes Go.WideShapes Go.ChangeAt
theorem own:ownKnob Tryz.prog.godebug=none:=by kernel_rfl
theorem laidOut:laidOutB Tryz.prog=true:=by kernel_rfl
theorem dagAny_args:∀ zs,ArgsD [rtRpl,rtUpds,.slice 1 8 (.int .i64)] zs→FnP false Tryz.prog tab tab_ok 5 zs (fun r=>r = .d (.bool true)):=by
 rintro zs ⟨x1,l1,rfl,h1,x2,l2,rfl,h2,x3,l3,rfl,h3,rfl⟩
 obtain⟨a1,e1,b1,c1⟩:=rpl_arg x1 h1;obtain⟨a2,e2,b2⟩:=upds_arg x2 h2;obtain⟨a3,e3⟩:=ints_argD x3 h3;rw [e1,e2,e3];exact dagAny_fn a1 a2 a3 b1 c1 b2
set_option maxRecDepth 100000 in
theorem dagAny_lifted (os:Os) (started:os.Started) (H:Type) (enc:TypeId × Value→H) :
  ReturnsInHanded {} Tryz.checked os 5 .any (Rows.dagAnySpec.pre6 enc Tryz.prog Tryz.f5 Rows.dagAnyRow.domain false) (Rows.dagAnySpec.post enc Tryz.prog Tryz.f5 false true false false):=by
 refine law_lifted (C:=Tryz.checked) (τok:=tab_ok) (rs:=[rtRpl,rtUpds,.slice 1 8 (.int .i64)]) (tb:=4) started own (by kernel_rfl) Tryz.func5
  (ChangeSpec.witness6 (enc:=enc) (C:=Tryz.checked) false ⟨#[],#[.agg #[.slice none 0 0,.slice none 0 0],.slice none 0 0,.slice none 0 0],[]⟩ 8 (by kernel_rfl) (by kernel_rfl) (by kernel_rfl) (by kernel_rfl))
  rfl rfl ?_ (by kernel_rfl) (by kernel_rfl) laidOut (by kernel_rfl) (by kernel_rfl) dagAny_args
 intro ds hd
 have hd:ds.length=3:=hd
 match ds,hd with
 | [d0,d1,d2],_=>rfl
theorem dagAny_holds:Rows.DagAnySaid :=
 OpenClaim.holds_of_wide 5 Tryz.f5 rfl rfl rfl rfl rfl rfl rfl ⟨rfl,rfl,rfl,rfl,rfl⟩ rfl rfl rfl rfl rfl (by kernel_rfl) Tryz.func5 (by kernel_rfl)
  (of_decide_eq_true (by kernel_rfl)) (by unfold Func.isWrapper;first|(rw [if_pos (by decide +kernel)];kernel_rfl)|(rw [if_neg (by decide +kernel)];exact⟨rfl,rfl⟩))
  (fun os started H enc _=>dagAny_lifted os started H enc)
#print axioms dagAny_holds
end Go.Proofs.YtapciiffpnociabGreat
