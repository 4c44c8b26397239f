/- TokenScans: Scan answers just what the document says, and the same place, whatever text it is handed. Condition: none. -/
import Derived.Test.YtapciiffpnociaaRows
import Derived.Test.YtapciiffpnociaaTokN
import Derived.Test.YtapciiffpnociaaGxLaw
import Derived.ProofKit
namespace Go.Proofs.Ytapciiffpnociaa
open Go Go.RowKit Go.ChangeShapes Go.WideShapes Go.ChangeAt

theorem own : ownKnob Try.prog.godebug = none := by kernel_rfl
theorem laidOut : laidOutB Try.prog = true := by kernel_rfl

theorem tokenScans_args : ∀ zs, ArgsD [.str] zs → FnP Try.prog tab tab_ok 3 zs (fun r => r = .d (.bool true)) := by
  rintro zs ⟨xs, l, rfl, ⟨s, _, rfl⟩, rfl⟩
  exact tokenScans_fn s

set_option maxRecDepth 100000 in
theorem tokenScans_lifted (os : Os) (started : os.Started) (H : Type) (enc : TypeId × Value → H) :
    ReturnsInHanded {} Try.checked os 3 .any (Rows.tokenScansSpec.pre6 enc Try.prog Try.f3 Rows.tokenScansRow.domain false) (Rows.tokenScansSpec.post enc Try.prog Try.f3 false true false false) := by
  refine law_lifted (C := Try.checked) (τok := tab_ok) (rs := [.str]) (tb := 4) started own (by kernel_rfl) Try.func3
    (ChangeSpec.witness6 (enc := enc) (C := Try.checked) false ⟨#[], #[.string ⟨#[]⟩], []⟩ 8 (by kernel_rfl) (by kernel_rfl) (by kernel_rfl) (by kernel_rfl))
    rfl rfl ?_ (by kernel_rfl) (by kernel_rfl) laidOut (by kernel_rfl) (by kernel_rfl) tokenScans_args
  intro ds hd
  have hd : ds.length = 1 := hd
  match ds, hd with
  | [d0], _ => rfl

theorem tokenScans_holds : Rows.TokenScansSaid :=
  OpenClaim.holds_of_wide 3 Try.f3 rfl rfl rfl rfl rfl rfl rfl ⟨rfl, rfl, rfl, rfl, rfl⟩ rfl rfl rfl rfl rfl (by kernel_rfl) Try.func3 (by kernel_rfl)
    (of_decide_eq_true (by kernel_rfl)) (by unfold Func.isWrapper; first | (rw [if_pos (by decide +kernel)]; kernel_rfl) | (rw [if_neg (by decide +kernel)]; exact ⟨rfl, rfl⟩))
    (fun os started H enc _ => tokenScans_lifted os started H enc)
#print axioms tokenScans_holds
end Go.Proofs.Ytapciiffpnociaa
