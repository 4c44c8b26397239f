/-
  No cell of these rows narrows 'for every input' (looked for: loops, veiled, ifaces, maps, wideKeys, modest, calm, conditions, laid).
  DERIVED. THE GIVEN ROWS OF THIS SEAT. 4 by the template 'for every input the law returns true; each argument reads behind the call as it read before'; 0 by the template 'total and deterministic' (their statements: YtapciiffpnociabGreatTotals.lean).
  GIVEN WITH THE SEED: the statements are not yours to turn. If you find one false, say at which input.
  Laid BY PROGRAM, IN A SANDBOX (cutbox-rows.mjs): the forced cells as the released guide's own fill.sh prints them over the translation 92a2e6a93b6f1a7a… (all of the seat's roots in one cut). By AI agents, Wed Nov 11 2026. No macro, syntax, notation, axiom, sorry.
-/
import Derived.Test.YtapciiffpnociabGreatChecked
import GoSem.Claim
import GoSem.ClaimJoined
import GoSem.ClaimMapViews
import Derived.JoinedTies
import Derived.KernelRfl
namespace Go.Proofs.YtapciiffpnociabGreat
/- THE CELL 'sum', in the pinned program and in every row, IS THE sha256 OF THE DUMP (.gsa) THAT YtapciiffpnociabGreatProg.lean LOADS. Nothing in Lean hashes anything: it is a label: what it is worth is what the hold of that sum in a sandbox is worth. -/
noncomputable def Tryz.pinned : Pinned := { name := "ytapciiffpnociabgreat", sum := "92a2e6a93b6f1a7a8e3e5cafba587a07763e0ef1619f3e9b65a2cb4cde625ede", checked := Tryz.checked }
namespace Rows
def none {H : Type} : Left H := { results := [], args := [] }

/-- 'groundworklaw.RestReplicas': WHATEVER THE INPUT: true; the input reads as it did. -/
def restReplicasSpec : ChangeSpec := { name := "restReplicas", fn := fun _ => fun
  | [d1, d2, d3, d4] => { results := [.lit (.bool true)], args := [d1, d2, d3, d4] }
  | _ => none }
def restReplicasRow : OpenClaim := { program := "ytapciiffpnociabgreat", sum := "92a2e6a93b6f1a7a8e3e5cafba587a07763e0ef1619f3e9b65a2cb4cde625ede", func := "groundwork/groundworklaw.RestReplicas", spec := "restReplicas", inPlace := ["slices.overlaps[groundwork/api.Update]", "internal/bytealg.IndexByteString"], unfollowed := true, recurses := true, plainKeys := false, apart := false }
def RestReplicasSaid : Prop := restReplicasRow.holds Tryz.pinned (OpenSpec.ofChange restReplicasSpec)

/-- ITS FALSE NEIGHBOUR: 'it returns false'. Refute it at one input. -/
def restReplicasWrong : ChangeSpec := { name := "restReplicas", fn := fun _ => fun
  | [d1, d2, d3, d4] => { results := [.lit (.bool false)], args := [d1, d2, d3, d4] }
  | _ => none }
def RestReplicasWrongFalsely : Prop := restReplicasRow.holds Tryz.pinned (OpenSpec.ofChange restReplicasWrong)

/-- 'groundworklaw.DagTells': WHATEVER THE INPUT: true; the input reads as it did. -/
def dagTellsSpec : ChangeSpec := { name := "dagTells", fn := fun _ => fun
  | [d1, d2] => { results := [.lit (.bool true)], args := [d1, d2] }
  | _ => none }
def dagTellsRow : OpenClaim := { program := "ytapciiffpnociabgreat", sum := "92a2e6a93b6f1a7a8e3e5cafba587a07763e0ef1619f3e9b65a2cb4cde625ede", func := "groundwork/groundworklaw.DagTells", spec := "dagTells", inPlace := ["slices.overlaps[groundwork/api.Update]"], unfollowed := true, recurses := true, plainKeys := false, apart := false }
def DagTellsSaid : Prop := dagTellsRow.holds Tryz.pinned (OpenSpec.ofChange dagTellsSpec)

/-- ITS FALSE NEIGHBOUR: 'it returns false'. Refute it at one input. -/
def dagTellsWrong : ChangeSpec := { name := "dagTells", fn := fun _ => fun
  | [d1, d2] => { results := [.lit (.bool false)], args := [d1, d2] }
  | _ => none }
def DagTellsWrongFalsely : Prop := dagTellsRow.holds Tryz.pinned (OpenSpec.ofChange dagTellsWrong)

/-- 'groundworklaw.DagAny': WHATEVER THE INPUT: true; the input reads as it did. -/
def dagAnySpec : ChangeSpec := { name := "dagAny", fn := fun _ => fun
  | [d1, d2, d3] => { results := [.lit (.bool true)], args := [d1, d2, d3] }
  | _ => none }
def dagAnyRow : OpenClaim := { program := "ytapciiffpnociabgreat", sum := "92a2e6a93b6f1a7a8e3e5cafba587a07763e0ef1619f3e9b65a2cb4cde625ede", func := "groundwork/groundworklaw.DagAny", spec := "dagAny", inPlace := ["slices.overlaps[groundwork/api.Update]"], unfollowed := true, recurses := true, plainKeys := false, apart := false }
def DagAnySaid : Prop := dagAnyRow.holds Tryz.pinned (OpenSpec.ofChange dagAnySpec)

/-- ITS FALSE NEIGHBOUR: 'it returns false'. Refute it at one input. -/
def dagAnyWrong : ChangeSpec := { name := "dagAny", fn := fun _ => fun
  | [d1, d2, d3] => { results := [.lit (.bool false)], args := [d1, d2, d3] }
  | _ => none }
def DagAnyWrongFalsely : Prop := dagAnyRow.holds Tryz.pinned (OpenSpec.ofChange dagAnyWrong)

/-- 'groundworklaw.RuleTells': WHATEVER THE INPUT: true; the input reads as it did. -/
def ruleTellsSpec : ChangeSpec := { name := "ruleTells", fn := fun _ => fun
  | [d1, d2, d3] => { results := [.lit (.bool true)], args := [d1, d2, d3] }
  | _ => none }
def ruleTellsRow : OpenClaim := { program := "ytapciiffpnociabgreat", sum := "92a2e6a93b6f1a7a8e3e5cafba587a07763e0ef1619f3e9b65a2cb4cde625ede", func := "groundwork/groundworklaw.RuleTells", spec := "ruleTells", inPlace := ["internal/bytealg.IndexByteString"], unfollowed := true, recurses := true, plainKeys := false, apart := false }
def RuleTellsSaid : Prop := ruleTellsRow.holds Tryz.pinned (OpenSpec.ofChange ruleTellsSpec)

/-- ITS FALSE NEIGHBOUR: 'it returns false'. Refute it at one input. -/
def ruleTellsWrong : ChangeSpec := { name := "ruleTells", fn := fun _ => fun
  | [d1, d2, d3] => { results := [.lit (.bool false)], args := [d1, d2, d3] }
  | _ => none }
def RuleTellsWrongFalsely : Prop := ruleTellsRow.holds Tryz.pinned (OpenSpec.ofChange ruleTellsWrong)

/- THE SECOND FORM. 'bulk': how many values and letters a reading holds, each counted each time it is reached (what is shared counts as often as it is met; a slice's spare places count too). A statement '..UptoSaid' is the law's where the arguments, and the package variables that the reading takes, are together of bulk at most 1048576: NARROWER than '..Said'. Prove '..Said' where nothing that the law and all that it calls make is longer than what came in: it says more and counts as full. Else prove '..UptoSaid'. A law counts once. -/
mutual
def uptoBulk {H : Type} : DataW H → Nat
  | .lit (.string bytes) => bytes.length + 1
  | .lit _ => 1
  | .nil => 1
  | .ptr d => uptoBulk d + 1
  | .slice elems spare => uptoBulkAll elems + uptoBulkAll spare + 1
  | .agg parts => uptoBulkAll parts + 1
  | .iface _ d => uptoBulk d + 1
  | .map entries => uptoBulkEntries entries + 1
  | .held _ => 1
def uptoBulkAll {H : Type} : List (DataW H) → Nat
  | [] => 0
  | d :: r => uptoBulk d + uptoBulkAll r
def uptoBulkEntries {H : Type} : List (Lit × DataW H) → Nat
  | [] => 0
  | x :: r => uptoBulkEntry x + uptoBulkEntries r
def uptoBulkEntry {H : Type} : Lit × DataW H → Nat
  | (.string bytes, d) => bytes.length + uptoBulk d + 1
  | (_, d) => uptoBulk d + 1
 end
def uptoSmall : (H : Type) → List (DataW H) → Bool := fun _ ds => decide (uptoBulkAll ds ≤ 1048576)
def OpenSpec.upto (s : _root_.Go.ChangeSpec) : _root_.Go.OpenSpec := { _root_.Go.OpenSpec.ofChange s with cond := some uptoSmall }

/-- 'groundworklaw.RestReplicas', WHERE WHAT IT READS IS OF BULK AT MOST 1048576: true; the input reads as it did. -/
def restReplicasUptoRow : OpenClaim := { program := "ytapciiffpnociabgreat", sum := "92a2e6a93b6f1a7a8e3e5cafba587a07763e0ef1619f3e9b65a2cb4cde625ede", func := "groundwork/groundworklaw.RestReplicas", spec := "restReplicas", inPlace := ["slices.overlaps[groundwork/api.Update]", "internal/bytealg.IndexByteString"], unfollowed := true, recurses := true, plainKeys := false, apart := false, narrowed := true }
def RestReplicasUptoSaid : Prop := restReplicasUptoRow.holds Tryz.pinned (OpenSpec.upto restReplicasSpec)

/-- 'groundworklaw.DagTells', WHERE WHAT IT READS IS OF BULK AT MOST 1048576: true; the input reads as it did. -/
def dagTellsUptoRow : OpenClaim := { program := "ytapciiffpnociabgreat", sum := "92a2e6a93b6f1a7a8e3e5cafba587a07763e0ef1619f3e9b65a2cb4cde625ede", func := "groundwork/groundworklaw.DagTells", spec := "dagTells", inPlace := ["slices.overlaps[groundwork/api.Update]"], unfollowed := true, recurses := true, plainKeys := false, apart := false, narrowed := true }
def DagTellsUptoSaid : Prop := dagTellsUptoRow.holds Tryz.pinned (OpenSpec.upto dagTellsSpec)

/-- 'groundworklaw.DagAny', WHERE WHAT IT READS IS OF BULK AT MOST 1048576: true; the input reads as it did. -/
def dagAnyUptoRow : OpenClaim := { program := "ytapciiffpnociabgreat", sum := "92a2e6a93b6f1a7a8e3e5cafba587a07763e0ef1619f3e9b65a2cb4cde625ede", func := "groundwork/groundworklaw.DagAny", spec := "dagAny", inPlace := ["slices.overlaps[groundwork/api.Update]"], unfollowed := true, recurses := true, plainKeys := false, apart := false, narrowed := true }
def DagAnyUptoSaid : Prop := dagAnyUptoRow.holds Tryz.pinned (OpenSpec.upto dagAnySpec)

/-- 'groundworklaw.RuleTells', WHERE WHAT IT READS IS OF BULK AT MOST 1048576: true; the input reads as it did. -/
def ruleTellsUptoRow : OpenClaim := { program := "ytapciiffpnociabgreat", sum := "92a2e6a93b6f1a7a8e3e5cafba587a07763e0ef1619f3e9b65a2cb4cde625ede", func := "groundwork/groundworklaw.RuleTells", spec := "ruleTells", inPlace := ["internal/bytealg.IndexByteString"], unfollowed := true, recurses := true, plainKeys := false, apart := false, narrowed := true }
def RuleTellsUptoSaid : Prop := ruleTellsUptoRow.holds Tryz.pinned (OpenSpec.upto ruleTellsSpec)

end Rows
end Go.Proofs.YtapciiffpnociabGreat
