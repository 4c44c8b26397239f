/- Closed facts of ViewTells. Condition: none. -/
import Derived.Test.YtapciiffpnociadGreatRows
import Derived.JoinedOf
import Derived.ProofKit
namespace Go.Proofs.YtapciiffpnociadGreat
open Go
theorem own:ownKnob Tryz.prog.godebug=none:=by kernel_rfl
theorem laidOut:laidOutB Tryz.prog=true:=by kernel_rfl
theorem vt1:Tryz.pinned.checked.prog.funcNamed Rows.viewTellsRow.func=some 5:=by kernel_rfl
theorem vt2:joinedFacts Tryz.pinned.checked.prog 5 Tryz.f5 Rows.viewTellsSpec Rows.viewTellsRow=true:=by kernel_rfl
theorem vt3:Tryz.f5.isInstance Tryz.pinned.checked.prog Rows.viewTellsRow.origin Rows.viewTellsRow.targs:=of_decide_eq_true (by kernel_rfl)
theorem vt4:Tryz.f5.isWrapper Tryz.pinned.checked.prog Rows.viewTellsRow.wrapper Rows.viewTellsRow.mainSum:=by unfold Func.isWrapper;first|(rw [if_pos (by decide +kernel)];kernel_rfl)|(rw [if_neg (by decide +kernel)];exact⟨rfl,rfl⟩)
end Go.Proofs.YtapciiffpnociadGreat
