/- ViewTells: Open and Deliver answer just what the document says. Condition: none. -/
import Derived.Test.YtapciiffpnociadGreatT00
import Derived.Test.YtapciiffpnociadGreatT28
import Derived.ProofKit
namespace Go.Proofs.YtapciiffpnociadGreat
open Go Go.RowKit Go.ChangeShapes Go.WideShapes Go.ChangeAt
theorem viewTells_args:∀ zs,ArgsD [udp,uds,udh] zs→FnP false Tryz.prog tab b9 5 zs (fun r=>r = .d (.bool true)):=by
 rintro zs ⟨x1,l1,rfl,h1,x2,l2,rfl,h2,x3,l3,rfl,h3,rfl⟩
 obtain⟨a1,e1⟩:=ucm x1 h1;obtain⟨a2,e2,b2,c2⟩:=ucp x2 h2;obtain⟨a3,e3,_⟩:=ubz x3 h3;rw [e1,e2,e3];exact viewTells_fn a1 a2 a3 b2 c2 uaf
set_option maxRecDepth 100000 in
theorem viewTells_lifted (os:Os) (started:os.Started) (H:Type) (enc:TypeId × Value→H) :
  ReturnsInHanded {} Tryz.checked os 5 .any (Rows.viewTellsSpec.pre6 enc Tryz.prog Tryz.f5 Rows.viewTellsRow.domain false) (Rows.viewTellsSpec.post enc Tryz.prog Tryz.f5 false true false false):=by
 refine law_lifted (C:=Tryz.checked) (τok:=b9) (rs:=[udp,uds,udh]) (tb:=4) started own (by kernel_rfl) Tryz.func5
  (ChangeSpec.witness6 (enc:=enc) (C:=Tryz.checked) false ⟨#[],#[.agg #[.slice none 0 0,.slice none 0 0,.slice none 0 0],.agg #[.slice none 0 0,.slice none 0 0],.slice none 0 0],[]⟩ 8 (by kernel_rfl) (by kernel_rfl) (by kernel_rfl) (by kernel_rfl))
  rfl rfl ?_ (by kernel_rfl) (by kernel_rfl) laidOut (by kernel_rfl) (by kernel_rfl) viewTells_args
 intro ds hd
 have hd:ds.length=3:=hd
 match ds,hd with
 | [d0,d1,d2],_=>rfl
theorem viewTells_holds:Rows.ViewTellsSaid :=
 OpenClaim.holds_of_wide 5 Tryz.f5 rfl rfl rfl rfl rfl rfl rfl ⟨rfl,rfl,rfl,rfl,rfl⟩ rfl rfl rfl rfl rfl vt1 Tryz.func5 vt2 vt3 vt4
  (fun os started H enc _=>viewTells_lifted os started H enc)
#print axioms viewTells_holds
end Go.Proofs.YtapciiffpnociadGreat
