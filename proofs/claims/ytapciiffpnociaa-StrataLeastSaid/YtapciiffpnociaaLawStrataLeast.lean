/- StrataLeast: levels are the least that fit, and focus twice is focus once. Condition: none. -/
import Derived.Test.YtapciiffpnociaaRows
import Derived.Test.YtapciiffpnociaaB18
import Derived.ProofKit
namespace Go.Proofs.Ytapciiffpnociaa
open Go Go.RowKit Go.ChangeShapes Go.WideShapes Go.ChangeAt

theorem own : ownKnob Try.prog.godebug = none := by kernel_rfl
theorem laidOut : laidOutB Try.prog = true := by kernel_rfl

theorem strataLeast_args : ∀ zs, ArgsD [rtPrg, .int .i64, rtInts] zs → FnP Try.prog tab tab_ok 10 zs (fun r => r = .d (.bool true)) := by
  rintro zs ⟨xs, l, rfl, h, ys, m, rfl, ⟨n, _, rfl⟩, us, o, rfl, h3, rfl⟩
  obtain ⟨p, hp⟩ := prg_arg xs h; obtain ⟨q, hq⟩ := ints_arg us h3; rw [hp, hq]; exact strataLeast_fn p n q

set_option maxRecDepth 100000 in
theorem strataLeast_lifted (os : Os) (started : os.Started) (H : Type) (enc : TypeId × Value → H) :
    ReturnsInHanded {} Try.checked os 10 .any (Rows.strataLeastSpec.pre6 enc Try.prog Try.f10 Rows.strataLeastRow.domain false) (Rows.strataLeastSpec.post enc Try.prog Try.f10 false true false false) := by
  refine law_lifted (C := Try.checked) (τok := tab_ok) (rs := [rtPrg, .int .i64, rtInts]) (tb := 4) started own (by kernel_rfl) Try.func10
    (ChangeSpec.witness6 (enc := enc) (C := Try.checked) false ⟨#[], #[.agg #[.slice none 0 0, .slice none 0 0, .slice none 0 0], .int .i64 0, .slice none 0 0], []⟩ 8 (by kernel_rfl) (by kernel_rfl) (by kernel_rfl) (by kernel_rfl))
    rfl rfl ?_ (by kernel_rfl) (by kernel_rfl) laidOut (by kernel_rfl) (by kernel_rfl) strataLeast_args
  intro ds hd
  have hd : ds.length = 3 := hd
  match ds, hd with
  | [d0, d1, d2], _ => rfl

theorem strataLeast_holds : Rows.StrataLeastSaid :=
  OpenClaim.holds_of_wide 10 Try.f10 rfl rfl rfl rfl rfl rfl rfl ⟨rfl, rfl, rfl, rfl, rfl⟩ rfl rfl rfl rfl rfl (by kernel_rfl) Try.func10 (by kernel_rfl)
    (of_decide_eq_true (by kernel_rfl)) (by unfold Func.isWrapper; first | (rw [if_pos (by decide +kernel)]; kernel_rfl) | (rw [if_neg (by decide +kernel)]; exact ⟨rfl, rfl⟩))
    (fun os started H enc _ => strataLeast_lifted os started H enc)
#print axioms strataLeast_holds
end Go.Proofs.Ytapciiffpnociaa
