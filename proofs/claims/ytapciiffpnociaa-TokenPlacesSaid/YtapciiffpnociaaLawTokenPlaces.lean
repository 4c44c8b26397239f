/- TokenPlaces: each token stands where it is told, one behind the other. Condition: none. -/
import Derived.Test.YtapciiffpnociaaRows
import Derived.Test.YtapciiffpnociaaTokPl
import Derived.Test.YtapciiffpnociaaGxLaw
import Derived.ProofKit
namespace Go.Proofs.Ytapciiffpnociaa
open Go Go.RowKit Go.ChangeShapes Go.WideShapes Go.ChangeAt

theorem own : ownKnob Try.prog.godebug = none := by kernel_rfl
theorem laidOut : laidOutB Try.prog = true := by kernel_rfl

theorem tokenPlaces_args : ∀ zs, ArgsD [.str] zs → FnP Try.prog tab tab_ok 6 zs (fun r => r = .d (.bool true)) := by
  rintro zs ⟨xs, l, rfl, ⟨s, _, rfl⟩, rfl⟩
  exact tokenPlaces_fn s

set_option maxRecDepth 100000 in
theorem tokenPlaces_lifted (os : Os) (started : os.Started) (H : Type) (enc : TypeId × Value → H) :
    ReturnsInHanded {} Try.checked os 6 .any (Rows.tokenPlacesSpec.pre6 enc Try.prog Try.f6 Rows.tokenPlacesRow.domain false) (Rows.tokenPlacesSpec.post enc Try.prog Try.f6 false true false false) := by
  refine law_lifted (C := Try.checked) (τok := tab_ok) (rs := [.str]) (tb := 4) started own (by kernel_rfl) Try.func6
    (ChangeSpec.witness6 (enc := enc) (C := Try.checked) false ⟨#[], #[.string ⟨#[]⟩], []⟩ 8 (by kernel_rfl) (by kernel_rfl) (by kernel_rfl) (by kernel_rfl))
    rfl rfl ?_ (by kernel_rfl) (by kernel_rfl) laidOut (by kernel_rfl) (by kernel_rfl) tokenPlaces_args
  intro ds hd
  have hd : ds.length = 1 := hd
  match ds, hd with
  | [d0], _ => rfl

theorem tokenPlaces_holds : Rows.TokenPlacesSaid :=
  OpenClaim.holds_of_wide 6 Try.f6 rfl rfl rfl rfl rfl rfl rfl ⟨rfl, rfl, rfl, rfl, rfl⟩ rfl rfl rfl rfl rfl (by kernel_rfl) Try.func6 (by kernel_rfl)
    (of_decide_eq_true (by kernel_rfl)) (by unfold Func.isWrapper; first | (rw [if_pos (by decide +kernel)]; kernel_rfl) | (rw [if_neg (by decide +kernel)]; exact ⟨rfl, rfl⟩))
    (fun os started H enc _ => tokenPlaces_lifted os started H enc)
#print axioms tokenPlaces_holds
end Go.Proofs.Ytapciiffpnociaa
