/-
  No cell of these rows narrows 'for every input' (looked for: loops, veiled, ifaces, maps, wideKeys, modest, calm, conditions, laid).
  DERIVED. THE GIVEN ROWS OF THIS SEAT. 4 by the template 'for every input the law returns true; each argument reads behind the call as it read before'; 0 by the template 'total and deterministic' (their statements: YtapciiffpnociadGreatTotals.lean).
  GIVEN WITH THE SEED: the statements are not yours to turn. If you find one false, say at which input.
  Laid BY PROGRAM, IN A SANDBOX (cutbox-rows.mjs): the forced cells as the released guide's own fill.sh prints them over the translation 0d0602ddcf462ff3… (all of the seat's roots in one cut). By AI agents, Wed Nov 11 2026. No macro, syntax, notation, axiom, sorry.
-/
import Derived.Test.YtapciiffpnociadGreatChecked
import GoSem.Claim
import GoSem.ClaimJoined
import GoSem.ClaimMapViews
import Derived.JoinedTies
import Derived.KernelRfl
namespace Go.Proofs.YtapciiffpnociadGreat
/- THE CELL 'sum', in the pinned program and in every row, IS THE sha256 OF THE DUMP (.gsa) THAT YtapciiffpnociadGreatProg.lean LOADS. Nothing in Lean hashes anything: it is a label: what it is worth is what the hold of that sum in a sandbox is worth. -/
noncomputable def Tryz.pinned : Pinned := { name := "ytapciiffpnociadgreat", sum := "0d0602ddcf462ff3f890ea0b38efd4c065086913653bbbec830dfd46b4db51e9", checked := Tryz.checked }
namespace Rows
def none {H : Type} : Left H := { results := [], args := [] }

/-- 'groundworklaw.WhySound': WHATEVER THE INPUT: true; the input reads as it did. -/
def whySoundSpec : ChangeSpec := { name := "whySound", fn := fun _ => fun
  | [d1, d2, d3] => { results := [.lit (.bool true)], args := [d1, d2, d3] }
  | _ => none }
def whySoundRow : OpenClaim := { program := "ytapciiffpnociadgreat", sum := "0d0602ddcf462ff3f890ea0b38efd4c065086913653bbbec830dfd46b4db51e9", func := "groundwork/groundworklaw.WhySound", spec := "whySound", inPlace := ["internal/bytealg.IndexByteString"], unfollowed := true, recurses := true, plainKeys := false, apart := false }
def WhySoundSaid : Prop := whySoundRow.holds Tryz.pinned (OpenSpec.ofChange whySoundSpec)

/-- ITS FALSE NEIGHBOUR: 'it returns false'. Refute it at one input. -/
def whySoundWrong : ChangeSpec := { name := "whySound", fn := fun _ => fun
  | [d1, d2, d3] => { results := [.lit (.bool false)], args := [d1, d2, d3] }
  | _ => none }
def WhySoundWrongFalsely : Prop := whySoundRow.holds Tryz.pinned (OpenSpec.ofChange whySoundWrong)

/-- 'groundworklaw.RestModels': WHATEVER THE INPUT: true; the input reads as it did. -/
def restModelsSpec : ChangeSpec := { name := "restModels", fn := fun _ => fun
  | [d1, d2, d3, d4, d5] => { results := [.lit (.bool true)], args := [d1, d2, d3, d4, d5] }
  | _ => none }
def restModelsRow : OpenClaim := { program := "ytapciiffpnociadgreat", sum := "0d0602ddcf462ff3f890ea0b38efd4c065086913653bbbec830dfd46b4db51e9", func := "groundwork/groundworklaw.RestModels", spec := "restModels", inPlace := ["internal/bytealg.IndexByteString"], unfollowed := true, recurses := true, plainKeys := false, apart := false }
def RestModelsSaid : Prop := restModelsRow.holds Tryz.pinned (OpenSpec.ofChange restModelsSpec)

/-- ITS FALSE NEIGHBOUR: 'it returns false'. Refute it at one input. -/
def restModelsWrong : ChangeSpec := { name := "restModels", fn := fun _ => fun
  | [d1, d2, d3, d4, d5] => { results := [.lit (.bool false)], args := [d1, d2, d3, d4, d5] }
  | _ => none }
def RestModelsWrongFalsely : Prop := restModelsRow.holds Tryz.pinned (OpenSpec.ofChange restModelsWrong)

/-- 'groundworklaw.ViewTells': WHATEVER THE INPUT: true; the input reads as it did. -/
def viewTellsSpec : ChangeSpec := { name := "viewTells", fn := fun _ => fun
  | [d1, d2, d3] => { results := [.lit (.bool true)], args := [d1, d2, d3] }
  | _ => none }
def viewTellsRow : OpenClaim := { program := "ytapciiffpnociadgreat", sum := "0d0602ddcf462ff3f890ea0b38efd4c065086913653bbbec830dfd46b4db51e9", func := "groundwork/groundworklaw.ViewTells", spec := "viewTells", inPlace := ["internal/bytealg.IndexByteString", "slices.overlaps[groundwork/api.Update]"], unfollowed := true, recurses := true, plainKeys := false, apart := false }
def ViewTellsSaid : Prop := viewTellsRow.holds Tryz.pinned (OpenSpec.ofChange viewTellsSpec)

/-- ITS FALSE NEIGHBOUR: 'it returns false'. Refute it at one input. -/
def viewTellsWrong : ChangeSpec := { name := "viewTells", fn := fun _ => fun
  | [d1, d2, d3] => { results := [.lit (.bool false)], args := [d1, d2, d3] }
  | _ => none }
def ViewTellsWrongFalsely : Prop := viewTellsRow.holds Tryz.pinned (OpenSpec.ofChange viewTellsWrong)

/-- 'groundworklaw.ViewAny': WHATEVER THE INPUT: true; the input reads as it did. -/
def viewAnySpec : ChangeSpec := { name := "viewAny", fn := fun _ => fun
  | [d1, d2] => { results := [.lit (.bool true)], args := [d1, d2] }
  | _ => none }
def viewAnyRow : OpenClaim := { program := "ytapciiffpnociadgreat", sum := "0d0602ddcf462ff3f890ea0b38efd4c065086913653bbbec830dfd46b4db51e9", func := "groundwork/groundworklaw.ViewAny", spec := "viewAny", inPlace := ["internal/bytealg.IndexByteString", "slices.overlaps[groundwork/api.Update]"], unfollowed := true, recurses := true, plainKeys := false, apart := false }
def ViewAnySaid : Prop := viewAnyRow.holds Tryz.pinned (OpenSpec.ofChange viewAnySpec)

/-- ITS FALSE NEIGHBOUR: 'it returns false'. Refute it at one input. -/
def viewAnyWrong : ChangeSpec := { name := "viewAny", fn := fun _ => fun
  | [d1, d2] => { results := [.lit (.bool false)], args := [d1, d2] }
  | _ => none }
def ViewAnyWrongFalsely : Prop := viewAnyRow.holds Tryz.pinned (OpenSpec.ofChange viewAnyWrong)

/- THE SECOND FORM. 'bulk': how many values and letters a reading holds, each counted each time it is reached (what is shared counts as often as it is met; a slice's spare places count too). A statement '..UptoSaid' is the law's where the arguments, and the package variables that the reading takes, are together of bulk at most 1048576: NARROWER than '..Said'. Prove '..Said' where nothing that the law and all that it calls make is longer than what came in: it says more and counts as full. Else prove '..UptoSaid'. A law counts once. -/
mutual
def uptoBulk {H : Type} : DataW H → Nat
  | .lit (.string bytes) => bytes.length + 1
  | .lit _ => 1
  | .nil => 1
  | .ptr d => uptoBulk d + 1
  | .slice elems spare => uptoBulkAll elems + uptoBulkAll spare + 1
  | .agg parts => uptoBulkAll parts + 1
  | .iface _ d => uptoBulk d + 1
  | .map entries => uptoBulkEntries entries + 1
  | .held _ => 1
def uptoBulkAll {H : Type} : List (DataW H) → Nat
  | [] => 0
  | d :: r => uptoBulk d + uptoBulkAll r
def uptoBulkEntries {H : Type} : List (Lit × DataW H) → Nat
  | [] => 0
  | x :: r => uptoBulkEntry x + uptoBulkEntries r
def uptoBulkEntry {H : Type} : Lit × DataW H → Nat
  | (.string bytes, d) => bytes.length + uptoBulk d + 1
  | (_, d) => uptoBulk d + 1
 end
def uptoSmall : (H : Type) → List (DataW H) → Bool := fun _ ds => decide (uptoBulkAll ds ≤ 1048576)
def OpenSpec.upto (s : _root_.Go.ChangeSpec) : _root_.Go.OpenSpec := { _root_.Go.OpenSpec.ofChange s with cond := some uptoSmall }

/-- 'groundworklaw.WhySound', WHERE WHAT IT READS IS OF BULK AT MOST 1048576: true; the input reads as it did. -/
def whySoundUptoRow : OpenClaim := { program := "ytapciiffpnociadgreat", sum := "0d0602ddcf462ff3f890ea0b38efd4c065086913653bbbec830dfd46b4db51e9", func := "groundwork/groundworklaw.WhySound", spec := "whySound", inPlace := ["internal/bytealg.IndexByteString"], unfollowed := true, recurses := true, plainKeys := false, apart := false, narrowed := true }
def WhySoundUptoSaid : Prop := whySoundUptoRow.holds Tryz.pinned (OpenSpec.upto whySoundSpec)

/-- 'groundworklaw.RestModels', WHERE WHAT IT READS IS OF BULK AT MOST 1048576: true; the input reads as it did. -/
def restModelsUptoRow : OpenClaim := { program := "ytapciiffpnociadgreat", sum := "0d0602ddcf462ff3f890ea0b38efd4c065086913653bbbec830dfd46b4db51e9", func := "groundwork/groundworklaw.RestModels", spec := "restModels", inPlace := ["internal/bytealg.IndexByteString"], unfollowed := true, recurses := true, plainKeys := false, apart := false, narrowed := true }
def RestModelsUptoSaid : Prop := restModelsUptoRow.holds Tryz.pinned (OpenSpec.upto restModelsSpec)

/-- 'groundworklaw.ViewTells', WHERE WHAT IT READS IS OF BULK AT MOST 1048576: true; the input reads as it did. -/
def viewTellsUptoRow : OpenClaim := { program := "ytapciiffpnociadgreat", sum := "0d0602ddcf462ff3f890ea0b38efd4c065086913653bbbec830dfd46b4db51e9", func := "groundwork/groundworklaw.ViewTells", spec := "viewTells", inPlace := ["internal/bytealg.IndexByteString", "slices.overlaps[groundwork/api.Update]"], unfollowed := true, recurses := true, plainKeys := false, apart := false, narrowed := true }
def ViewTellsUptoSaid : Prop := viewTellsUptoRow.holds Tryz.pinned (OpenSpec.upto viewTellsSpec)

/-- 'groundworklaw.ViewAny', WHERE WHAT IT READS IS OF BULK AT MOST 1048576: true; the input reads as it did. -/
def viewAnyUptoRow : OpenClaim := { program := "ytapciiffpnociadgreat", sum := "0d0602ddcf462ff3f890ea0b38efd4c065086913653bbbec830dfd46b4db51e9", func := "groundwork/groundworklaw.ViewAny", spec := "viewAny", inPlace := ["internal/bytealg.IndexByteString", "slices.overlaps[groundwork/api.Update]"], unfollowed := true, recurses := true, plainKeys := false, apart := false, narrowed := true }
def ViewAnyUptoSaid : Prop := viewAnyUptoRow.holds Tryz.pinned (OpenSpec.upto viewAnySpec)

end Rows
end Go.Proofs.YtapciiffpnociadGreat
