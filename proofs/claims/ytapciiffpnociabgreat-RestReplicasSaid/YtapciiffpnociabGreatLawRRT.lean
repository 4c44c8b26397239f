/- Closed facts of RestReplicas. Condition: none. -/
import Derived.Test.YtapciiffpnociabGreatRows
import Derived.ProofKit
namespace Go.Proofs.YtapciiffpnociabGreat
open Go
theorem own:ownKnob Tryz.prog.godebug=none:=by kernel_rfl
theorem laidOut:laidOutB Tryz.prog=true:=by kernel_rfl
theorem Y':Tryz.pinned.checked.prog.funcNamed Rows.restReplicasRow.func=some 3:=by kernel_rfl
theorem V':joinedFacts Tryz.pinned.checked.prog 3 Tryz.f3 Rows.restReplicasSpec Rows.restReplicasRow=true:=by kernel_rfl
theorem U':Tryz.f3.isInstance Tryz.pinned.checked.prog Rows.restReplicasRow.origin Rows.restReplicasRow.targs:=of_decide_eq_true (by kernel_rfl)
theorem T':Tryz.f3.isWrapper Tryz.pinned.checked.prog Rows.restReplicasRow.wrapper Rows.restReplicasRow.mainSum:=by unfold Func.isWrapper;first|(rw [if_pos (by decide +kernel)];kernel_rfl)|(rw [if_neg (by decide +kernel)];exact⟨rfl,rfl⟩)
end Go.Proofs.YtapciiffpnociabGreat
