/- TokenBack: what is joined is scanned as it was, but for where tokens begin; and what is scanned is joined to what is scanned so. Condition: none. -/
import Derived.Test.YtapciiffpnociaaRows
import Derived.Test.YtapciiffpnociaaTokQ
import Derived.Test.YtapciiffpnociaaTokIn
import Derived.Test.YtapciiffpnociaaGxLaw
import Derived.ProofKit
namespace Go.Proofs.Ytapciiffpnociaa
open Go Go.RowKit Go.ChangeShapes Go.WideShapes Go.ChangeAt

theorem own : ownKnob Try.prog.godebug = none := by kernel_rfl
theorem laidOut : laidOutB Try.prog = true := by kernel_rfl

theorem tokenBack_args : ∀ zs, ArgsD [rtToks, .str] zs → FnP Try.prog tab tab_ok 5 zs (fun r => r = .d (.bool true)) := by
  rintro zs ⟨xs, l, rfl, h, ys, l, rfl, ⟨s, _, rfl⟩, rfl⟩
  obtain ⟨l, rfl, hl⟩ := toks_of xs h; exact tokenBack_fn l hl s

set_option maxRecDepth 100000 in
theorem tokenBack_lifted (os : Os) (started : os.Started) (H : Type) (enc : TypeId × Value → H) :
    ReturnsInHanded {} Try.checked os 5 .any (Rows.tokenBackSpec.pre6 enc Try.prog Try.f5 Rows.tokenBackRow.domain false) (Rows.tokenBackSpec.post enc Try.prog Try.f5 false true false false) := by
  refine law_lifted (C := Try.checked) (τok := tab_ok) (rs := [rtToks, .str]) (tb := 4) started own (by kernel_rfl) Try.func5
    (ChangeSpec.witness6 (enc := enc) (C := Try.checked) false ⟨#[], #[.slice none 0 0, .string ⟨#[]⟩], []⟩ 8 (by kernel_rfl) (by kernel_rfl) (by kernel_rfl) (by kernel_rfl))
    rfl rfl ?_ (by kernel_rfl) (by kernel_rfl) laidOut (by kernel_rfl) (by kernel_rfl) tokenBack_args
  intro ds hd
  have hd : ds.length = 2 := hd
  match ds, hd with
  | [d0, d1], _ => rfl

theorem tokenBack_holds : Rows.TokenBackSaid :=
  OpenClaim.holds_of_wide 5 Try.f5 rfl rfl rfl rfl rfl rfl rfl ⟨rfl, rfl, rfl, rfl, rfl⟩ rfl rfl rfl rfl rfl (by kernel_rfl) Try.func5 (by kernel_rfl)
    (of_decide_eq_true (by kernel_rfl)) (by unfold Func.isWrapper; first | (rw [if_pos (by decide +kernel)]; kernel_rfl) | (rw [if_neg (by decide +kernel)]; exact ⟨rfl, rfl⟩))
    (fun os started H enc _ => tokenBack_lifted os started H enc)
#print axioms tokenBack_holds
end Go.Proofs.Ytapciiffpnociaa
