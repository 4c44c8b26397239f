/- StrataTells: Levels, Needs and Focus answer just what the document says, whatever they are handed. Condition: none. -/
import Derived.Test.YtapciiffpnociaaRows
import Derived.Test.YtapciiffpnociaaB17
import Derived.Test.YtapciiffpnociaaB18
import Derived.ProofKit
namespace Go.Proofs.Ytapciiffpnociaa
open Go Go.RowKit Go.ChangeShapes Go.WideShapes Go.ChangeAt

theorem own : ownKnob Try.prog.godebug = none := by kernel_rfl
theorem laidOut : laidOutB Try.prog = true := by kernel_rfl

theorem strataTells_args : ∀ zs, ArgsD [rtPrg, .int .i64] zs → FnP Try.prog tab tab_ok 9 zs (fun r => r = .d (.bool true)) := by
  rintro zs ⟨xs, l, rfl, h, ys, m, rfl, ⟨n, _, rfl⟩, rfl⟩
  obtain ⟨p, hp⟩ := prg_arg xs h; rw [hp]; exact strataTells_fn p n

set_option maxRecDepth 100000 in
theorem strataTells_lifted (os : Os) (started : os.Started) (H : Type) (enc : TypeId × Value → H) :
    ReturnsInHanded {} Try.checked os 9 .any (Rows.strataTellsSpec.pre6 enc Try.prog Try.f9 Rows.strataTellsRow.domain false) (Rows.strataTellsSpec.post enc Try.prog Try.f9 false true false false) := by
  refine law_lifted (C := Try.checked) (τok := tab_ok) (rs := [rtPrg, .int .i64]) (tb := 4) started own (by kernel_rfl) Try.func9
    (ChangeSpec.witness6 (enc := enc) (C := Try.checked) false ⟨#[], #[.agg #[.slice none 0 0, .slice none 0 0, .slice none 0 0], .int .i64 0], []⟩ 8 (by kernel_rfl) (by kernel_rfl) (by kernel_rfl) (by kernel_rfl))
    rfl rfl ?_ (by kernel_rfl) (by kernel_rfl) laidOut (by kernel_rfl) (by kernel_rfl) strataTells_args
  intro ds hd
  have hd : ds.length = 2 := hd
  match ds, hd with
  | [d0, d1], _ => rfl

theorem strataTells_holds : Rows.StrataTellsSaid :=
  OpenClaim.holds_of_wide 9 Try.f9 rfl rfl rfl rfl rfl rfl rfl ⟨rfl, rfl, rfl, rfl, rfl⟩ rfl rfl rfl rfl rfl (by kernel_rfl) Try.func9 (by kernel_rfl)
    (of_decide_eq_true (by kernel_rfl)) (by unfold Func.isWrapper; first | (rw [if_pos (by decide +kernel)]; kernel_rfl) | (rw [if_neg (by decide +kernel)]; exact ⟨rfl, rfl⟩))
    (fun os started H enc _ => strataTells_lifted os started H enc)
#print axioms strataTells_holds
end Go.Proofs.Ytapciiffpnociaa
