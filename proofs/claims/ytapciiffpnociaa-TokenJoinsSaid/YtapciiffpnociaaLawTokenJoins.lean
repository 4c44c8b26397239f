/- TokenJoins: Join answers just what the document says, errors too, whatever tokens it is handed. Condition: none. -/
import Derived.Test.YtapciiffpnociaaRows
import Derived.Test.YtapciiffpnociaaTokN
import Derived.Test.YtapciiffpnociaaTokIn
import Derived.Test.YtapciiffpnociaaGxLaw
import Derived.ProofKit
namespace Go.Proofs.Ytapciiffpnociaa
open Go Go.RowKit Go.ChangeShapes Go.WideShapes Go.ChangeAt

theorem own : ownKnob Try.prog.godebug = none := by kernel_rfl
theorem laidOut : laidOutB Try.prog = true := by kernel_rfl

theorem tokenJoins_args : ∀ zs, ArgsD [rtToks] zs → FnP Try.prog tab tab_ok 4 zs (fun r => r = .d (.bool true)) := by
  rintro zs ⟨xs, l, rfl, h, rfl⟩
  obtain ⟨l, rfl, hl⟩ := toks_of xs h; exact tokenJoins_fn l hl

set_option maxRecDepth 100000 in
theorem tokenJoins_lifted (os : Os) (started : os.Started) (H : Type) (enc : TypeId × Value → H) :
    ReturnsInHanded {} Try.checked os 4 .any (Rows.tokenJoinsSpec.pre6 enc Try.prog Try.f4 Rows.tokenJoinsRow.domain false) (Rows.tokenJoinsSpec.post enc Try.prog Try.f4 false true false false) := by
  refine law_lifted (C := Try.checked) (τok := tab_ok) (rs := [rtToks]) (tb := 4) started own (by kernel_rfl) Try.func4
    (ChangeSpec.witness6 (enc := enc) (C := Try.checked) false ⟨#[], #[.slice none 0 0], []⟩ 8 (by kernel_rfl) (by kernel_rfl) (by kernel_rfl) (by kernel_rfl))
    rfl rfl ?_ (by kernel_rfl) (by kernel_rfl) laidOut (by kernel_rfl) (by kernel_rfl) tokenJoins_args
  intro ds hd
  have hd : ds.length = 1 := hd
  match ds, hd with
  | [d0], _ => rfl

theorem tokenJoins_holds : Rows.TokenJoinsSaid :=
  OpenClaim.holds_of_wide 4 Try.f4 rfl rfl rfl rfl rfl rfl rfl ⟨rfl, rfl, rfl, rfl, rfl⟩ rfl rfl rfl rfl rfl (by kernel_rfl) Try.func4 (by kernel_rfl)
    (of_decide_eq_true (by kernel_rfl)) (by unfold Func.isWrapper; first | (rw [if_pos (by decide +kernel)]; kernel_rfl) | (rw [if_neg (by decide +kernel)]; exact ⟨rfl, rfl⟩))
    (fun os started H enc _ => tokenJoins_lifted os started H enc)
#print axioms tokenJoins_holds
end Go.Proofs.Ytapciiffpnociaa
