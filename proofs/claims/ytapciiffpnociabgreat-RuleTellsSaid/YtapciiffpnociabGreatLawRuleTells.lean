/- RuleTells: Ways and Heads answer just what the document says, errors too. Condition: none. -/
import Derived.Test.YtapciiffpnociabGreatRows
import Derived.Test.YtapciiffpnociabGreatB26
import Derived.Test.YtapciiffpnociabGreatB14
import Derived.ProofKit
namespace Go.Proofs.YtapciiffpnociabGreat
open Go Go.RowKit Go.ChangeShapes Go.WideShapes Go.ChangeAt
theorem own : ownKnob Tryz.prog.godebug = none := by kernel_rfl
theorem laidOut : laidOutB Tryz.prog = true := by kernel_rfl
theorem ruleTells_args : ∀ zs, ArgsD [rtPrg, .int .i64, .slice 2 32 rtFct] zs → FnP false Tryz.prog tab tab_ok 6 zs (fun r => r = .d (.bool true)) := by
  rintro zs ⟨xs, l, rfl, h, ys, m, rfl, ⟨n, _, rfl⟩, us, k, rfl, h3, rfl⟩
  obtain ⟨p, hp⟩ := prg_arg xs h; obtain ⟨f, hf⟩ := fcts_arg us h3; rw [hp, hf]; exact ruleTells_fn p n f
set_option maxRecDepth 100000 in
theorem ruleTells_lifted (os : Os) (started : os.Started) (H : Type) (enc : TypeId × Value → H) :
    ReturnsInHanded {} Tryz.checked os 6 .any (Rows.ruleTellsSpec.pre6 enc Tryz.prog Tryz.f6 Rows.ruleTellsRow.domain false) (Rows.ruleTellsSpec.post enc Tryz.prog Tryz.f6 false true false false) := by
  refine law_lifted (C := Tryz.checked) (τok := tab_ok) (rs := [rtPrg, .int .i64, .slice 2 32 rtFct]) (tb := 4) started own (by kernel_rfl) Tryz.func6
    (ChangeSpec.witness6 (enc := enc) (C := Tryz.checked) false ⟨#[], #[.agg #[.slice none 0 0, .slice none 0 0, .slice none 0 0], .int .i64 0, .slice none 0 0], []⟩ 8 (by kernel_rfl) (by kernel_rfl) (by kernel_rfl) (by kernel_rfl))
    rfl rfl ?_ (by kernel_rfl) (by kernel_rfl) laidOut (by kernel_rfl) (by kernel_rfl) ruleTells_args
  intro ds hd
  have hd : ds.length = 3 := hd
  match ds, hd with
  | [d0, d1, d2], _ => rfl
theorem ruleTells_holds : Rows.RuleTellsSaid :=
  OpenClaim.holds_of_wide 6 Tryz.f6 rfl rfl rfl rfl rfl rfl rfl ⟨rfl, rfl, rfl, rfl, rfl⟩ rfl rfl rfl rfl rfl (by kernel_rfl) Tryz.func6 (by kernel_rfl)
    (of_decide_eq_true (by kernel_rfl)) (by unfold Func.isWrapper; first | (rw [if_pos (by decide +kernel)]; kernel_rfl) | (rw [if_neg (by decide +kernel)]; exact ⟨rfl, rfl⟩))
    (fun os started H enc _ => ruleTells_lifted os started H enc)
#print axioms ruleTells_holds
end Go.Proofs.YtapciiffpnociabGreat
