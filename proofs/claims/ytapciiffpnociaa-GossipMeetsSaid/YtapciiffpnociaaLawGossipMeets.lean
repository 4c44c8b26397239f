/- GossipMeets: behind a round both have all that one of them had. Condition: none. -/
import Derived.Test.YtapciiffpnociaaRows
import Derived.Test.YtapciiffpnociaaH14
import Derived.Test.YtapciiffpnociaaH10
import Derived.ProofKit
namespace Go.Proofs.Ytapciiffpnociaa
open Go Go.RowKit Go.ChangeShapes Go.WideShapes Go.ChangeAt
theorem own:ownKnob Try.prog.godebug=none:=by kernel_rfl
theorem laidOut:laidOutB Try.prog=true:=by kernel_rfl
theorem gossipMeets_args:∀ zs,ArgsD [rtRpl,rtRpl] zs→FnP false Try.prog tab tab_ok 12 zs (fun r=>r = .d (.bool true)):=by
 rintro zs ⟨x1,l1,rfl,h1,x2,l2,rfl,h2,rfl⟩
 obtain⟨a1,e1,b1,c1⟩:=rpl_arg x1 h1;obtain⟨a2,e2,b2,c2⟩:=rpl_arg x2 h2;rw [e1,e2];exact gossipMeets_fn a1 a2 b1 c1 b2 c2
set_option maxRecDepth 100000 in
theorem gossipMeets_lifted (os:Os) (started:os.Started) (H:Type) (enc:TypeId × Value→H) :
  ReturnsInHanded {} Try.checked os 12 .any (Rows.gossipMeetsSpec.pre6 enc Try.prog Try.f12 Rows.gossipMeetsRow.domain false) (Rows.gossipMeetsSpec.post enc Try.prog Try.f12 false true false false):=by
 refine law_lifted (C:=Try.checked) (τok:=tab_ok) (rs:=[rtRpl,rtRpl]) (tb:=4) started own (by kernel_rfl) Try.func12
  (ChangeSpec.witness6 (enc:=enc) (C:=Try.checked) false ⟨#[],#[.agg #[.slice none 0 0,.slice none 0 0],.agg #[.slice none 0 0,.slice none 0 0]],[]⟩ 8 (by kernel_rfl) (by kernel_rfl) (by kernel_rfl) (by kernel_rfl))
  rfl rfl ?_ (by kernel_rfl) (by kernel_rfl) laidOut (by kernel_rfl) (by kernel_rfl) gossipMeets_args
 intro ds hd
 have hd:ds.length=2:=hd
 match ds,hd with
 | [d0,d1],_=>rfl
theorem gossipMeets_holds:Rows.GossipMeetsSaid :=
 OpenClaim.holds_of_wide 12 Try.f12 rfl rfl rfl rfl rfl rfl rfl ⟨rfl,rfl,rfl,rfl,rfl⟩ rfl rfl rfl rfl rfl (by kernel_rfl) Try.func12 (by kernel_rfl)
  (of_decide_eq_true (by kernel_rfl)) (by unfold Func.isWrapper;first|(rw [if_pos (by decide +kernel)];kernel_rfl)|(rw [if_neg (by decide +kernel)];exact⟨rfl,rfl⟩))
  (fun os started H enc _=>gossipMeets_lifted os started H enc)
#print axioms gossipMeets_holds
end Go.Proofs.Ytapciiffpnociaa
