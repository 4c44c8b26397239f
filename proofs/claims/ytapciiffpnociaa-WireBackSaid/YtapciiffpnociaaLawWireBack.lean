/- WireBack: WHAT IS ENCODED IS DECODED AS IT WAS, AND NOTHING ELSE IS. Condition: none. -/
import Derived.Test.YtapciiffpnociaaRows
import Derived.Test.YtapciiffpnociaaWirM
import Derived.Test.YtapciiffpnociaaWirIn
import Derived.Test.YtapciiffpnociaaGxLaw
import Derived.ProofKit
namespace Go.Proofs.Ytapciiffpnociaa
open Go Go.RowKit Go.ChangeShapes Go.WideShapes Go.ChangeAt

theorem own : ownKnob Try.prog.godebug = none := by kernel_rfl
theorem laidOut : laidOutB Try.prog = true := by kernel_rfl

theorem wireBack_args : ∀ zs, ArgsD [rtUpd, .str] zs → FnP Try.prog tab tab_ok 8 zs (fun r => r = .d (.bool true)) := by
  rintro zs ⟨xs, l, rfl, h, ys, m, rfl, ⟨s, _, rfl⟩, rfl⟩
  obtain ⟨u, hu⟩ := upd_arg xs h; obtain ⟨t, rfl⟩ := str_of s; rw [hu]; exact wireBack_fn u t

set_option maxRecDepth 100000 in
theorem wireBack_lifted (os : Os) (started : os.Started) (H : Type) (enc : TypeId × Value → H) :
    ReturnsInHanded {} Try.checked os 8 .any (Rows.wireBackSpec.pre6 enc Try.prog Try.f8 Rows.wireBackRow.domain false) (Rows.wireBackSpec.post enc Try.prog Try.f8 false true false false) := by
  refine law_lifted (C := Try.checked) (τok := tab_ok) (rs := [rtUpd, .str]) (tb := 4) started own (by kernel_rfl) Try.func8
    (ChangeSpec.witness6 (enc := enc) (C := Try.checked) false ⟨#[], #[.agg #[.int .i64 0, .int .i64 0, .slice none 0 0, .slice none 0 0, .slice none 0 0], .string ⟨#[]⟩], []⟩ 8 (by kernel_rfl) (by kernel_rfl) (by kernel_rfl) (by kernel_rfl))
    rfl rfl ?_ (by kernel_rfl) (by kernel_rfl) laidOut (by kernel_rfl) (by kernel_rfl) wireBack_args
  intro ds hd
  have hd : ds.length = 2 := hd
  match ds, hd with
  | [d0, d1], _ => rfl

theorem wireBack_holds : Rows.WireBackSaid :=
  OpenClaim.holds_of_wide 8 Try.f8 rfl rfl rfl rfl rfl rfl rfl ⟨rfl, rfl, rfl, rfl, rfl⟩ rfl rfl rfl rfl rfl (by kernel_rfl) Try.func8 (by kernel_rfl)
    (of_decide_eq_true (by kernel_rfl)) (by unfold Func.isWrapper; first | (rw [if_pos (by decide +kernel)]; kernel_rfl) | (rw [if_neg (by decide +kernel)]; exact ⟨rfl, rfl⟩))
    (fun os started H enc _ => wireBack_lifted os started H enc)
#print axioms wireBack_holds
end Go.Proofs.Ytapciiffpnociaa
