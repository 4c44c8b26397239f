/- ChangePlays: Play answers just what the document says, and a change that is played leads from one model to the other and back, as long as it is of bulk 1048576 at the most. Condition: none. -/
import Derived.Test.YtapciiffpnociacGreatRows
import Derived.Test.YtapciiffpnociacGreatD24
import Derived.ProofKit
namespace Go.Proofs.YtapciiffpnociacGreat
open Go Go.RowKit Go.ChangeShapes Go.WideShapes Go.ChangeAt
theorem own:ownKnob Tryz.prog.godebug=none:=by kernel_rfl
theorem laidOut:laidOutB Tryz.prog=true:=by kernel_rfl
abbrev chRts:List RT:=[rtPrgR,.slice 2 32 rtFctR,.slice 2 32 rtFctR,.slice 2 32 rtFctR,.slice 2 32 rtFctR,rtChgR]
theorem changePlays_args:∀ zs,ArgsDR 4294967296 chRts zs→FnP false Tryz.prog tab tab_ok 8 zs (fun r=>r = .d (.bool true)):=by
 rintro zs ⟨x1,l1,rfl,h1,x2,l2,rfl,h2,x3,l3,rfl,h3,x4,l4,rfl,h4,x5,l5,rfl,h5,x6,l6,rfl,h6,rfl⟩
 obtain⟨p,e1⟩:=prg_argR x1 h1
 obtain⟨l,e2,_⟩:=fcts_argR x2 h2
 obtain⟨u,e3,_⟩:=fcts_argR x3 h3
 obtain⟨v,e4,_⟩:=fcts_argR x4 h4
 obtain⟨m,e5,b5,a5⟩:=fcts_argR x5 h5
 obtain⟨c,d,e6,⟨b6,a6⟩,b7,a7⟩:=chg_argR x6 h6
 rw [e1,e2,e3,e4,e5,e6]
 exact changePlays_fn p l u v m c d (by omega) (by omega) (fun x hx=>by have:=a5 x hx;omega) (fun x hx=>by have:=a6 x hx;omega) (fun x hx=>by have:=a7 x hx;omega)
set_option maxRecDepth 100000 in
theorem changePlays_lifted (os:Os) (started:os.Started) (H:Type) (enc:TypeId × Value→H) (F:Stop.Interp) :
  ReturnsInHanded {} Tryz.checked os 8 .any ((Rows.OpenSpec.upto Rows.changePlaysSpec).pre6 enc Tryz.prog Tryz.f8 Rows.changePlaysUptoRow.domain false) (((Rows.OpenSpec.upto Rows.changePlaysSpec).at F).post enc Tryz.prog Tryz.f8 false true false false):=by
 refine law_lifted_cond (C:=Tryz.checked) (s:=Rows.OpenSpec.upto Rows.changePlaysSpec) (k:=Rows.uptoSmall) (τok:=tab_ok) (rs:=chRts) (R:=4294967296) (tb:=4) started rfl own (by kernel_rfl) Tryz.func8
  (OpenSpec.witness (enc:=enc) (C:=Tryz.checked) (s:=Rows.OpenSpec.upto Rows.changePlaysSpec) (k:=Rows.uptoSmall) rfl false ⟨#[],#[.agg #[.slice none 0 0,.slice none 0 0,.slice none 0 0],.slice none 0 0,.slice none 0 0,.slice none 0 0,.slice none 0 0,.agg #[.slice none 0 0,.slice none 0 0]],[]⟩ 8 (by kernel_rfl) (by kernel_rfl) (by kernel_rfl)
   (x:=([.agg [.nil,.nil,.nil],.nil,.nil,.nil,.nil,.agg [.nil,.nil]],[],[])) (by kernel_rfl) rfl (by kernel_rfl))
  rfl rfl ?_ (by kernel_rfl) (by kernel_rfl) laidOut (by kernel_rfl) (by kernel_rfl) (fun ds hk=>upto_weights (rs:=chRts) (by kernel_rfl) (by decide) hk) changePlays_args
 intro ds hd
 have hd:ds.length=6:=hd
 match ds,hd with
 | [d0,d1,d2,d3,d4,d5],_=>rfl
theorem changePlays_holds:Rows.ChangePlaysUptoSaid :=
 OpenClaim.holds_of_cond 8 Tryz.f8 rfl rfl rfl rfl rfl rfl rfl ⟨rfl,rfl,rfl,rfl,rfl⟩ rfl rfl rfl rfl rfl (by kernel_rfl) Tryz.func8 (by kernel_rfl)
  (of_decide_eq_true (by kernel_rfl)) (by unfold Func.isWrapper;first|(rw [if_pos (by decide +kernel)];kernel_rfl)|(rw [if_neg (by decide +kernel)];exact⟨rfl,rfl⟩))
  (fun os started H enc _ F=>changePlays_lifted os started H enc F)
#print axioms changePlays_holds
end Go.Proofs.YtapciiffpnociacGreat
