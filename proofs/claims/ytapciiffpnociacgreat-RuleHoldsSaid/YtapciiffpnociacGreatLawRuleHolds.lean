/- RuleHolds: of each way each literal holds; and numbers of which all hold are a way. Condition: none. -/
import Derived.Test.YtapciiffpnociacGreatRows
import Derived.Test.YtapciiffpnociacGreatB18
import Derived.Test.YtapciiffpnociacGreatB12
import Derived.ProofKit
namespace Go.Proofs.YtapciiffpnociacGreat
open Go Go.RowKit Go.ChangeShapes Go.WideShapes Go.ChangeAt
theorem own : ownKnob Tryz.prog.godebug = none := by kernel_rfl
theorem laidOut : laidOutB Tryz.prog = true := by kernel_rfl
theorem ruleHolds_args : ∀ zs, ArgsD [rtPrg, .int .i64, .slice 2 32 rtFct, rtInts] zs → FnP false Tryz.prog tab tab_ok 3 zs (fun r => r = .d (.bool true)) := by
  rintro zs ⟨xs, l, rfl, h, ys, m, rfl, ⟨n, _, rfl⟩, us, k, rfl, h3, vs, q, rfl, h4, rfl⟩
  obtain ⟨p, hp⟩ := prg_arg xs h; obtain ⟨f, hf⟩ := fcts_arg us h3; obtain ⟨s, hs⟩ := ints_arg vs h4; rw [hp, hf, hs]; exact ruleHolds_fn p n f s
set_option maxRecDepth 100000 in
theorem ruleHolds_lifted (os : Os) (started : os.Started) (H : Type) (enc : TypeId × Value → H) :
    ReturnsInHanded {} Tryz.checked os 3 .any (Rows.ruleHoldsSpec.pre6 enc Tryz.prog Tryz.f3 Rows.ruleHoldsRow.domain false) (Rows.ruleHoldsSpec.post enc Tryz.prog Tryz.f3 false true false false) := by
  refine law_lifted (C := Tryz.checked) (τok := tab_ok) (rs := [rtPrg, .int .i64, .slice 2 32 rtFct, rtInts]) (tb := 4) started own (by kernel_rfl) Tryz.func3
    (ChangeSpec.witness6 (enc := enc) (C := Tryz.checked) false ⟨#[], #[.agg #[.slice none 0 0, .slice none 0 0, .slice none 0 0], .int .i64 0, .slice none 0 0, .slice none 0 0], []⟩ 8 (by kernel_rfl) (by kernel_rfl) (by kernel_rfl) (by kernel_rfl))
    rfl rfl ?_ (by kernel_rfl) (by kernel_rfl) laidOut (by kernel_rfl) (by kernel_rfl) ruleHolds_args
  intro ds hd
  have hd : ds.length = 4 := hd
  match ds, hd with
  | [d0, d1, d2, d3], _ => rfl
theorem ruleHolds_holds : Rows.RuleHoldsSaid :=
  OpenClaim.holds_of_wide 3 Tryz.f3 rfl rfl rfl rfl rfl rfl rfl ⟨rfl, rfl, rfl, rfl, rfl⟩ rfl rfl rfl rfl rfl (by kernel_rfl) Tryz.func3 (by kernel_rfl)
    (of_decide_eq_true (by kernel_rfl)) (by unfold Func.isWrapper; first | (rw [if_pos (by decide +kernel)]; kernel_rfl) | (rw [if_neg (by decide +kernel)]; exact ⟨rfl, rfl⟩))
    (fun os started H enc _ => ruleHolds_lifted os started H enc)
#print axioms ruleHolds_holds
end Go.Proofs.YtapciiffpnociacGreat
