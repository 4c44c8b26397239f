/- ViewAny: in whatever order updates with different ids come, what is seen at last is the same. Condition: none. -/
import Derived.Test.YtapciiffpnociadGreatRows
import Derived.Test.YtapciiffpnociadGreatA25
import Derived.Test.YtapciiffpnociadGreatA10
import Derived.ProofKit
namespace Go.Proofs.YtapciiffpnociadGreat
open Go Go.RowKit Go.ChangeShapes Go.WideShapes Go.ChangeAt
theorem own:ownKnob Tryz.prog.godebug=none:=by kernel_rfl
theorem laidOut:laidOutB Tryz.prog=true:=by kernel_rfl
theorem upds_argB (x:List D) (h:TyD rtUpds x):∃ l:List Upd,RT.arg rtUpds x = .d (.slice 5 (l.map a6))∧l.length≤1599289640400:=by
 obtain⟨l,rfl,hl⟩:=sliceOfB upd_of x h
 exact⟨l,rfl,by unfold reachBytes at hl;omega⟩
theorem viewAny_args:∀ zs,ArgsD [rtPrg,rtUpds] zs→FnP false Tryz.prog tab cn 6 zs (fun r=>r = .d (.bool true)):=by
 rintro zs ⟨x1,l1,rfl,h1,x3,l3,rfl,h3,rfl⟩
 obtain⟨a1,e1⟩:=prg_arg x1 h1;obtain⟨a3,e3,b3⟩:=upds_argB x3 h3;rw [e1,e3];exact viewAny_fn a1 a3 b3 viewBegun_fn
set_option maxRecDepth 100000 in
theorem viewAny_lifted (os:Os) (started:os.Started) (H:Type) (enc:TypeId × Value→H) :
  ReturnsInHanded {} Tryz.checked os 6 .any (Rows.viewAnySpec.pre6 enc Tryz.prog Tryz.f6 Rows.viewAnyRow.domain false) (Rows.viewAnySpec.post enc Tryz.prog Tryz.f6 false true false false):=by
 refine law_lifted (C:=Tryz.checked) (τok:=cn) (rs:=[rtPrg,rtUpds]) (tb:=4) started own (by kernel_rfl) Tryz.func6
  (ChangeSpec.witness6 (enc:=enc) (C:=Tryz.checked) false ⟨#[],#[.agg #[.slice none 0 0,.slice none 0 0,.slice none 0 0],.slice none 0 0],[]⟩ 8 (by kernel_rfl) (by kernel_rfl) (by kernel_rfl) (by kernel_rfl))
  rfl rfl ?_ (by kernel_rfl) (by kernel_rfl) laidOut (by kernel_rfl) (by kernel_rfl) viewAny_args
 intro ds hd
 have hd:ds.length=2:=hd
 match ds,hd with
 | [d0,d1],_=>rfl
theorem viewAny_holds:Rows.ViewAnySaid :=
 OpenClaim.holds_of_wide 6 Tryz.f6 rfl rfl rfl rfl rfl rfl rfl ⟨rfl,rfl,rfl,rfl,rfl⟩ rfl rfl rfl rfl rfl (by kernel_rfl) Tryz.func6 (by kernel_rfl)
  (of_decide_eq_true (by kernel_rfl)) (by unfold Func.isWrapper;first|(rw [if_pos (by decide +kernel)];kernel_rfl)|(rw [if_neg (by decide +kernel)];exact⟨rfl,rfl⟩))
  (fun os started H enc _=>viewAny_lifted os started H enc)
#print axioms viewAny_holds
end Go.Proofs.YtapciiffpnociadGreat
