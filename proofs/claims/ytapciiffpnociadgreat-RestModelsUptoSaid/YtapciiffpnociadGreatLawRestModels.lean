/- RestModels: models, proofs and changes that came, and were changed, change nothing that was handed in, nor what comes next, as long as what is handed in is of bulk 1048576 at the most. Condition: none. -/
import Derived.Test.YtapciiffpnociadGreatRows
import Derived.Test.YtapciiffpnociadGreatM25
import Derived.ProofKit
namespace Go.Proofs.YtapciiffpnociadGreat
open Go Go.RowKit Go.ChangeShapes Go.WideShapes Go.ChangeAt
theorem own:ownKnob Tryz.prog.godebug=none:=by kernel_rfl
theorem laidOut:laidOutB Tryz.prog=true:=by kernel_rfl
abbrev rmRts:List RT:=[rtPrgR,.int .i64,.slice 2 32 rtFctR,.slice 2 32 rtFctR,.slice 2 32 rtFctR]
theorem restModels_args [Bnds]:∀ zs,ArgsDR 4294967296 rmRts zs→FnP false Tryz.prog tab bp 4 zs (fun r=>r = .d (.bool true)):=by
 rintro zs ⟨x1,l1,rfl,h1,x2,l2,rfl,⟨n,_,rfl⟩,x3,l3,rfl,h3,x4,l4,rfl,h4,x5,l5,rfl,h5,rfl⟩
 obtain⟨p,e1⟩:=prg_argR x1 h1
 obtain⟨l,e3,b3,a3⟩:=fcts_argR x3 h3
 obtain⟨u,e4,b4,a4⟩:=fcts_argR x4 h4
 obtain⟨v,e5,b5,a5⟩:=fcts_argR x5 h5
 rw [e1,e3,e4,e5]
 exact restModels_fn p n l u v (by omega) (by omega) (by omega) (fun x hx=>by have:=a3 x hx;omega) (fun x hx=>by have:=a4 x hx;omega) (fun x hx=>by have:=a5 x hx;omega)
set_option maxRecDepth 100000 in
theorem restModels_lifted (os:Os) (started:os.Started) (H:Type) (enc:TypeId × Value→H) (F:Stop.Interp) :
  ReturnsInHanded {} Tryz.checked os 4 .any ((Rows.OpenSpec.upto Rows.restModelsSpec).pre6 enc Tryz.prog Tryz.f4 Rows.restModelsUptoRow.domain false) (((Rows.OpenSpec.upto Rows.restModelsSpec).at F).post enc Tryz.prog Tryz.f4 false true false false):=by
 haveI:Bnds:=⟨0,0⟩
 refine law_lifted_cond (C:=Tryz.checked) (s:=Rows.OpenSpec.upto Rows.restModelsSpec) (k:=Rows.uptoSmall) (τok:=bp) (rs:=rmRts) (R:=4294967296) (tb:=4) started rfl own (by kernel_rfl) Tryz.func4
  (OpenSpec.witness (enc:=enc) (C:=Tryz.checked) (s:=Rows.OpenSpec.upto Rows.restModelsSpec) (k:=Rows.uptoSmall) rfl false ⟨#[],#[.agg #[.slice none 0 0,.slice none 0 0,.slice none 0 0],.int .i64 0,.slice none 0 0,.slice none 0 0,.slice none 0 0],[]⟩ 8 (by kernel_rfl) (by kernel_rfl) (by kernel_rfl)
   (x:=([.agg [.nil,.nil,.nil],.lit (.int .i64 0),.nil,.nil,.nil],[],[])) (by kernel_rfl) rfl (by kernel_rfl))
  rfl rfl ?_ (by kernel_rfl) (by kernel_rfl) laidOut (by kernel_rfl) (by kernel_rfl) (fun ds hk=>upto_weights (rs:=rmRts) (by kernel_rfl) (by decide) hk) restModels_args
 intro ds hd
 have hd:ds.length=5:=hd
 match ds,hd with
 | [d0,d1,d2,d3,d4],_=>rfl
theorem restModels_holds:Rows.RestModelsUptoSaid :=
 OpenClaim.holds_of_cond 4 Tryz.f4 rfl rfl rfl rfl rfl rfl rfl ⟨rfl,rfl,rfl,rfl,rfl⟩ rfl rfl rfl rfl rfl (by kernel_rfl) Tryz.func4 (by kernel_rfl)
  (of_decide_eq_true (by kernel_rfl)) (by unfold Func.isWrapper;first|(rw [if_pos (by decide +kernel)];kernel_rfl)|(rw [if_neg (by decide +kernel)];exact⟨rfl,rfl⟩))
  (fun os started H enc _ F=>restModels_lifted os started H enc F)
#print axioms restModels_holds
end Go.Proofs.YtapciiffpnociadGreat
