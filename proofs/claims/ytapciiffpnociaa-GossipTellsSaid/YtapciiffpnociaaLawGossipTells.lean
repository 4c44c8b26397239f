/- GossipTells: Missing and Round answer just what the document says. Condition: none. -/
import Derived.Test.YtapciiffpnociaaRows
import Derived.Test.YtapciiffpnociaaG16
import Derived.Test.YtapciiffpnociaaG10
import Derived.ProofKit
namespace Go.Proofs.Ytapciiffpnociaa
open Go Go.RowKit Go.ChangeShapes Go.WideShapes Go.ChangeAt
theorem own:ownKnob Try.prog.godebug=none:=by kernel_rfl
theorem laidOut:laidOutB Try.prog=true:=by kernel_rfl
theorem gossipTells_args:∀ zs,ArgsD [rtRpl,rtRpl,.slice 2 16 rtId] zs→FnP false Try.prog tab tab_ok 11 zs (fun r=>r = .d (.bool true)):=by
 rintro zs ⟨x1,l1,rfl,h1,x2,l2,rfl,h2,x3,l3,rfl,h3,rfl⟩
 obtain⟨a1,e1,b1,c1⟩:=rpl_arg x1 h1;obtain⟨a2,e2,b2,c2⟩:=rpl_arg x2 h2;obtain⟨a3,e3⟩:=ids_argD x3 h3;rw [e1,e2,e3];exact gossipTells_fn a1 a2 a3 b1 c1 b2 c2
set_option maxRecDepth 100000 in
theorem gossipTells_lifted (os:Os) (started:os.Started) (H:Type) (enc:TypeId × Value→H) :
  ReturnsInHanded {} Try.checked os 11 .any (Rows.gossipTellsSpec.pre6 enc Try.prog Try.f11 Rows.gossipTellsRow.domain false) (Rows.gossipTellsSpec.post enc Try.prog Try.f11 false true false false):=by
 refine law_lifted (C:=Try.checked) (τok:=tab_ok) (rs:=[rtRpl,rtRpl,.slice 2 16 rtId]) (tb:=4) started own (by kernel_rfl) Try.func11
  (ChangeSpec.witness6 (enc:=enc) (C:=Try.checked) false ⟨#[],#[.agg #[.slice none 0 0,.slice none 0 0],.agg #[.slice none 0 0,.slice none 0 0],.slice none 0 0],[]⟩ 8 (by kernel_rfl) (by kernel_rfl) (by kernel_rfl) (by kernel_rfl))
  rfl rfl ?_ (by kernel_rfl) (by kernel_rfl) laidOut (by kernel_rfl) (by kernel_rfl) gossipTells_args
 intro ds hd
 have hd:ds.length=3:=hd
 match ds,hd with
 | [d0,d1,d2],_=>rfl
theorem gossipTells_holds:Rows.GossipTellsSaid :=
 OpenClaim.holds_of_wide 11 Try.f11 rfl rfl rfl rfl rfl rfl rfl ⟨rfl,rfl,rfl,rfl,rfl⟩ rfl rfl rfl rfl rfl (by kernel_rfl) Try.func11 (by kernel_rfl)
  (of_decide_eq_true (by kernel_rfl)) (by unfold Func.isWrapper;first|(rw [if_pos (by decide +kernel)];kernel_rfl)|(rw [if_neg (by decide +kernel)];exact⟨rfl,rfl⟩))
  (fun os started H enc _=>gossipTells_lifted os started H enc)
#print axioms gossipTells_holds
end Go.Proofs.Ytapciiffpnociaa
