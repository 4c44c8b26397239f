/-
  No cell of these rows narrows 'for every input' (looked for: loops, veiled, ifaces, maps, wideKeys, modest, calm, conditions, laid).
  DERIVED. THE GIVEN ROWS OF THIS SEAT. 11 by the template 'for every input the law returns true; each argument reads behind the call as it read before'; 0 by the template 'total and deterministic' (their statements: YtapciiffpnociaaTotals.lean).
  GIVEN WITH THE SEED: the statements are not yours to turn. If you find one false, say at which input.
  Laid BY PROGRAM, IN A SANDBOX (cutbox-rows.mjs): the forced cells as the released guide's own fill.sh prints them over the translation 890b3decc63a3c40… (all of the seat's roots in one cut). By AI agents, Wed Nov 11 2026. No macro, syntax, notation, axiom, sorry.
-/
import Derived.Test.YtapciiffpnociaaChecked
import GoSem.Claim
import GoSem.ClaimJoined
import GoSem.ClaimMapViews
import Derived.JoinedTies
import Derived.KernelRfl
namespace Go.Proofs.Ytapciiffpnociaa
/- THE CELL 'sum', in the pinned program and in every row, IS THE sha256 OF THE DUMP (.gsa) THAT YtapciiffpnociaaProg.lean LOADS. Nothing in Lean hashes anything: it is a label: what it is worth is what the hold of that sum in a sandbox is worth. -/
noncomputable def Try.pinned : Pinned := { name := "ytapciiffpnociaa", sum := "890b3decc63a3c40c402f79bb981bf4879adc43a8bf576657a6d9ed3734504a1", checked := Try.checked }
namespace Rows
def none {H : Type} : Left H := { results := [], args := [] }

/-- 'groundworklaw.TokenScans': WHATEVER THE INPUT: true; the input reads as it did. -/
def tokenScansSpec : ChangeSpec := { name := "tokenScans", fn := fun _ => fun
  | [d] => { results := [.lit (.bool true)], args := [d] }
  | _ => none }
def tokenScansRow : OpenClaim := { program := "ytapciiffpnociaa", sum := "890b3decc63a3c40c402f79bb981bf4879adc43a8bf576657a6d9ed3734504a1", func := "groundwork/groundworklaw.TokenScans", spec := "tokenScans", inPlace := ["internal/bytealg.IndexByteString", "internal/abi.NoEscape", "internal/bytealg.MakeNoZero"], unfollowed := true, recurses := true, plainKeys := false, apart := false }
def TokenScansSaid : Prop := tokenScansRow.holds Try.pinned (OpenSpec.ofChange tokenScansSpec)

/-- ITS FALSE NEIGHBOUR: 'it returns false'. Refute it at one input. -/
def tokenScansWrong : ChangeSpec := { name := "tokenScans", fn := fun _ => fun
  | [d] => { results := [.lit (.bool false)], args := [d] }
  | _ => none }
def TokenScansWrongFalsely : Prop := tokenScansRow.holds Try.pinned (OpenSpec.ofChange tokenScansWrong)

/-- 'groundworklaw.TokenJoins': WHATEVER THE INPUT: true; the input reads as it did. -/
def tokenJoinsSpec : ChangeSpec := { name := "tokenJoins", fn := fun _ => fun
  | [d] => { results := [.lit (.bool true)], args := [d] }
  | _ => none }
def tokenJoinsRow : OpenClaim := { program := "ytapciiffpnociaa", sum := "890b3decc63a3c40c402f79bb981bf4879adc43a8bf576657a6d9ed3734504a1", func := "groundwork/groundworklaw.TokenJoins", spec := "tokenJoins", inPlace := ["internal/bytealg.IndexByteString", "internal/abi.NoEscape", "internal/bytealg.MakeNoZero"], unfollowed := true, recurses := true, plainKeys := false, apart := false }
def TokenJoinsSaid : Prop := tokenJoinsRow.holds Try.pinned (OpenSpec.ofChange tokenJoinsSpec)

/-- ITS FALSE NEIGHBOUR: 'it returns false'. Refute it at one input. -/
def tokenJoinsWrong : ChangeSpec := { name := "tokenJoins", fn := fun _ => fun
  | [d] => { results := [.lit (.bool false)], args := [d] }
  | _ => none }
def TokenJoinsWrongFalsely : Prop := tokenJoinsRow.holds Try.pinned (OpenSpec.ofChange tokenJoinsWrong)

/-- 'groundworklaw.TokenBack': WHATEVER THE INPUT: true; the input reads as it did. -/
def tokenBackSpec : ChangeSpec := { name := "tokenBack", fn := fun _ => fun
  | [d1, d2] => { results := [.lit (.bool true)], args := [d1, d2] }
  | _ => none }
def tokenBackRow : OpenClaim := { program := "ytapciiffpnociaa", sum := "890b3decc63a3c40c402f79bb981bf4879adc43a8bf576657a6d9ed3734504a1", func := "groundwork/groundworklaw.TokenBack", spec := "tokenBack", inPlace := ["internal/bytealg.IndexByteString", "internal/abi.NoEscape", "internal/bytealg.MakeNoZero"], unfollowed := true, recurses := true, plainKeys := false, apart := false }
def TokenBackSaid : Prop := tokenBackRow.holds Try.pinned (OpenSpec.ofChange tokenBackSpec)

/-- ITS FALSE NEIGHBOUR: 'it returns false'. Refute it at one input. -/
def tokenBackWrong : ChangeSpec := { name := "tokenBack", fn := fun _ => fun
  | [d1, d2] => { results := [.lit (.bool false)], args := [d1, d2] }
  | _ => none }
def TokenBackWrongFalsely : Prop := tokenBackRow.holds Try.pinned (OpenSpec.ofChange tokenBackWrong)

/-- 'groundworklaw.TokenPlaces': WHATEVER THE INPUT: true; the input reads as it did. -/
def tokenPlacesSpec : ChangeSpec := { name := "tokenPlaces", fn := fun _ => fun
  | [d] => { results := [.lit (.bool true)], args := [d] }
  | _ => none }
def tokenPlacesRow : OpenClaim := { program := "ytapciiffpnociaa", sum := "890b3decc63a3c40c402f79bb981bf4879adc43a8bf576657a6d9ed3734504a1", func := "groundwork/groundworklaw.TokenPlaces", spec := "tokenPlaces", inPlace := ["internal/bytealg.IndexByteString", "internal/abi.NoEscape", "internal/bytealg.MakeNoZero"], unfollowed := true, recurses := true, plainKeys := false, apart := false }
def TokenPlacesSaid : Prop := tokenPlacesRow.holds Try.pinned (OpenSpec.ofChange tokenPlacesSpec)

/-- ITS FALSE NEIGHBOUR: 'it returns false'. Refute it at one input. -/
def tokenPlacesWrong : ChangeSpec := { name := "tokenPlaces", fn := fun _ => fun
  | [d] => { results := [.lit (.bool false)], args := [d] }
  | _ => none }
def TokenPlacesWrongFalsely : Prop := tokenPlacesRow.holds Try.pinned (OpenSpec.ofChange tokenPlacesWrong)

/-- 'groundworklaw.WireTells': WHATEVER THE INPUT: true; the input reads as it did. -/
def wireTellsSpec : ChangeSpec := { name := "wireTells", fn := fun _ => fun
  | [d1, d2] => { results := [.lit (.bool true)], args := [d1, d2] }
  | _ => none }
def wireTellsRow : OpenClaim := { program := "ytapciiffpnociaa", sum := "890b3decc63a3c40c402f79bb981bf4879adc43a8bf576657a6d9ed3734504a1", func := "groundwork/groundworklaw.WireTells", spec := "wireTells", unfollowed := true, recurses := true, plainKeys := false, apart := false }
def WireTellsSaid : Prop := wireTellsRow.holds Try.pinned (OpenSpec.ofChange wireTellsSpec)

/-- ITS FALSE NEIGHBOUR: 'it returns false'. Refute it at one input. -/
def wireTellsWrong : ChangeSpec := { name := "wireTells", fn := fun _ => fun
  | [d1, d2] => { results := [.lit (.bool false)], args := [d1, d2] }
  | _ => none }
def WireTellsWrongFalsely : Prop := wireTellsRow.holds Try.pinned (OpenSpec.ofChange wireTellsWrong)

/-- 'groundworklaw.WireBack': WHATEVER THE INPUT: true; the input reads as it did. -/
def wireBackSpec : ChangeSpec := { name := "wireBack", fn := fun _ => fun
  | [d1, d2] => { results := [.lit (.bool true)], args := [d1, d2] }
  | _ => none }
def wireBackRow : OpenClaim := { program := "ytapciiffpnociaa", sum := "890b3decc63a3c40c402f79bb981bf4879adc43a8bf576657a6d9ed3734504a1", func := "groundwork/groundworklaw.WireBack", spec := "wireBack", unfollowed := true, recurses := true, plainKeys := false, apart := false }
def WireBackSaid : Prop := wireBackRow.holds Try.pinned (OpenSpec.ofChange wireBackSpec)

/-- ITS FALSE NEIGHBOUR: 'it returns false'. Refute it at one input. -/
def wireBackWrong : ChangeSpec := { name := "wireBack", fn := fun _ => fun
  | [d1, d2] => { results := [.lit (.bool false)], args := [d1, d2] }
  | _ => none }
def WireBackWrongFalsely : Prop := wireBackRow.holds Try.pinned (OpenSpec.ofChange wireBackWrong)

/-- 'groundworklaw.StrataTells': WHATEVER THE INPUT: true; the input reads as it did. -/
def strataTellsSpec : ChangeSpec := { name := "strataTells", fn := fun _ => fun
  | [d1, d2] => { results := [.lit (.bool true)], args := [d1, d2] }
  | _ => none }
def strataTellsRow : OpenClaim := { program := "ytapciiffpnociaa", sum := "890b3decc63a3c40c402f79bb981bf4879adc43a8bf576657a6d9ed3734504a1", func := "groundwork/groundworklaw.StrataTells", spec := "strataTells", inPlace := ["internal/bytealg.IndexByteString"], unfollowed := true, recurses := true, plainKeys := false, apart := false }
def StrataTellsSaid : Prop := strataTellsRow.holds Try.pinned (OpenSpec.ofChange strataTellsSpec)

/-- ITS FALSE NEIGHBOUR: 'it returns false'. Refute it at one input. -/
def strataTellsWrong : ChangeSpec := { name := "strataTells", fn := fun _ => fun
  | [d1, d2] => { results := [.lit (.bool false)], args := [d1, d2] }
  | _ => none }
def StrataTellsWrongFalsely : Prop := strataTellsRow.holds Try.pinned (OpenSpec.ofChange strataTellsWrong)

/-- 'groundworklaw.StrataLeast': WHATEVER THE INPUT: true; the input reads as it did. -/
def strataLeastSpec : ChangeSpec := { name := "strataLeast", fn := fun _ => fun
  | [d1, d2, d3] => { results := [.lit (.bool true)], args := [d1, d2, d3] }
  | _ => none }
def strataLeastRow : OpenClaim := { program := "ytapciiffpnociaa", sum := "890b3decc63a3c40c402f79bb981bf4879adc43a8bf576657a6d9ed3734504a1", func := "groundwork/groundworklaw.StrataLeast", spec := "strataLeast", inPlace := ["internal/bytealg.IndexByteString"], unfollowed := true, recurses := true, plainKeys := false, apart := false }
def StrataLeastSaid : Prop := strataLeastRow.holds Try.pinned (OpenSpec.ofChange strataLeastSpec)

/-- ITS FALSE NEIGHBOUR: 'it returns false'. Refute it at one input. -/
def strataLeastWrong : ChangeSpec := { name := "strataLeast", fn := fun _ => fun
  | [d1, d2, d3] => { results := [.lit (.bool false)], args := [d1, d2, d3] }
  | _ => none }
def StrataLeastWrongFalsely : Prop := strataLeastRow.holds Try.pinned (OpenSpec.ofChange strataLeastWrong)

/-- 'groundworklaw.GossipTells': WHATEVER THE INPUT: true; the input reads as it did. -/
def gossipTellsSpec : ChangeSpec := { name := "gossipTells", fn := fun _ => fun
  | [d1, d2, d3] => { results := [.lit (.bool true)], args := [d1, d2, d3] }
  | _ => none }
def gossipTellsRow : OpenClaim := { program := "ytapciiffpnociaa", sum := "890b3decc63a3c40c402f79bb981bf4879adc43a8bf576657a6d9ed3734504a1", func := "groundwork/groundworklaw.GossipTells", spec := "gossipTells", inPlace := ["slices.overlaps[groundwork/api.Update]"], unfollowed := true, recurses := true, plainKeys := false, apart := false }
def GossipTellsSaid : Prop := gossipTellsRow.holds Try.pinned (OpenSpec.ofChange gossipTellsSpec)

/-- ITS FALSE NEIGHBOUR: 'it returns false'. Refute it at one input. -/
def gossipTellsWrong : ChangeSpec := { name := "gossipTells", fn := fun _ => fun
  | [d1, d2, d3] => { results := [.lit (.bool false)], args := [d1, d2, d3] }
  | _ => none }
def GossipTellsWrongFalsely : Prop := gossipTellsRow.holds Try.pinned (OpenSpec.ofChange gossipTellsWrong)

/-- 'groundworklaw.GossipMeets': WHATEVER THE INPUT: true; the input reads as it did. -/
def gossipMeetsSpec : ChangeSpec := { name := "gossipMeets", fn := fun _ => fun
  | [d1, d2] => { results := [.lit (.bool true)], args := [d1, d2] }
  | _ => none }
def gossipMeetsRow : OpenClaim := { program := "ytapciiffpnociaa", sum := "890b3decc63a3c40c402f79bb981bf4879adc43a8bf576657a6d9ed3734504a1", func := "groundwork/groundworklaw.GossipMeets", spec := "gossipMeets", inPlace := ["slices.overlaps[groundwork/api.Update]"], unfollowed := true, recurses := true, plainKeys := false, apart := false }
def GossipMeetsSaid : Prop := gossipMeetsRow.holds Try.pinned (OpenSpec.ofChange gossipMeetsSpec)

/-- ITS FALSE NEIGHBOUR: 'it returns false'. Refute it at one input. -/
def gossipMeetsWrong : ChangeSpec := { name := "gossipMeets", fn := fun _ => fun
  | [d1, d2] => { results := [.lit (.bool false)], args := [d1, d2] }
  | _ => none }
def GossipMeetsWrongFalsely : Prop := gossipMeetsRow.holds Try.pinned (OpenSpec.ofChange gossipMeetsWrong)

/-- 'groundworklaw.RelationTells': WHATEVER THE INPUT: true; the input reads as it did. -/
def relationTellsSpec : ChangeSpec := { name := "relationTells", fn := fun _ => fun
  | [d1, d2, d3, d4, d5, d6] => { results := [.lit (.bool true)], args := [d1, d2, d3, d4, d5, d6] }
  | _ => none }
def relationTellsRow : OpenClaim := { program := "ytapciiffpnociaa", sum := "890b3decc63a3c40c402f79bb981bf4879adc43a8bf576657a6d9ed3734504a1", func := "groundwork/groundworklaw.RelationTells", spec := "relationTells", unfollowed := true, recurses := true, plainKeys := false, apart := false }
def RelationTellsSaid : Prop := relationTellsRow.holds Try.pinned (OpenSpec.ofChange relationTellsSpec)

/-- ITS FALSE NEIGHBOUR: 'it returns false'. Refute it at one input. -/
def relationTellsWrong : ChangeSpec := { name := "relationTells", fn := fun _ => fun
  | [d1, d2, d3, d4, d5, d6] => { results := [.lit (.bool false)], args := [d1, d2, d3, d4, d5, d6] }
  | _ => none }
def RelationTellsWrongFalsely : Prop := relationTellsRow.holds Try.pinned (OpenSpec.ofChange relationTellsWrong)

/- THE SECOND FORM. 'bulk': how many values and letters a reading holds, each counted each time it is reached (what is shared counts as often as it is met; a slice's spare places count too). A statement '..UptoSaid' is the law's where the arguments, and the package variables that the reading takes, are together of bulk at most 1048576: NARROWER than '..Said'. Prove '..Said' where nothing that the law and all that it calls make is longer than what came in: it says more and counts as full. Else prove '..UptoSaid'. A law counts once. -/
mutual
def uptoBulk {H : Type} : DataW H → Nat
  | .lit (.string bytes) => bytes.length + 1
  | .lit _ => 1
  | .nil => 1
  | .ptr d => uptoBulk d + 1
  | .slice elems spare => uptoBulkAll elems + uptoBulkAll spare + 1
  | .agg parts => uptoBulkAll parts + 1
  | .iface _ d => uptoBulk d + 1
  | .map entries => uptoBulkEntries entries + 1
  | .held _ => 1
def uptoBulkAll {H : Type} : List (DataW H) → Nat
  | [] => 0
  | d :: r => uptoBulk d + uptoBulkAll r
def uptoBulkEntries {H : Type} : List (Lit × DataW H) → Nat
  | [] => 0
  | x :: r => uptoBulkEntry x + uptoBulkEntries r
def uptoBulkEntry {H : Type} : Lit × DataW H → Nat
  | (.string bytes, d) => bytes.length + uptoBulk d + 1
  | (_, d) => uptoBulk d + 1
 end
def uptoSmall : (H : Type) → List (DataW H) → Bool := fun _ ds => decide (uptoBulkAll ds ≤ 1048576)
def OpenSpec.upto (s : _root_.Go.ChangeSpec) : _root_.Go.OpenSpec := { _root_.Go.OpenSpec.ofChange s with cond := some uptoSmall }

/-- 'groundworklaw.TokenScans', WHERE WHAT IT READS IS OF BULK AT MOST 1048576: true; the input reads as it did. -/
def tokenScansUptoRow : OpenClaim := { program := "ytapciiffpnociaa", sum := "890b3decc63a3c40c402f79bb981bf4879adc43a8bf576657a6d9ed3734504a1", func := "groundwork/groundworklaw.TokenScans", spec := "tokenScans", inPlace := ["internal/bytealg.IndexByteString", "internal/abi.NoEscape", "internal/bytealg.MakeNoZero"], unfollowed := true, recurses := true, plainKeys := false, apart := false, narrowed := true }
def TokenScansUptoSaid : Prop := tokenScansUptoRow.holds Try.pinned (OpenSpec.upto tokenScansSpec)

/-- 'groundworklaw.TokenJoins', WHERE WHAT IT READS IS OF BULK AT MOST 1048576: true; the input reads as it did. -/
def tokenJoinsUptoRow : OpenClaim := { program := "ytapciiffpnociaa", sum := "890b3decc63a3c40c402f79bb981bf4879adc43a8bf576657a6d9ed3734504a1", func := "groundwork/groundworklaw.TokenJoins", spec := "tokenJoins", inPlace := ["internal/bytealg.IndexByteString", "internal/abi.NoEscape", "internal/bytealg.MakeNoZero"], unfollowed := true, recurses := true, plainKeys := false, apart := false, narrowed := true }
def TokenJoinsUptoSaid : Prop := tokenJoinsUptoRow.holds Try.pinned (OpenSpec.upto tokenJoinsSpec)

/-- 'groundworklaw.TokenBack', WHERE WHAT IT READS IS OF BULK AT MOST 1048576: true; the input reads as it did. -/
def tokenBackUptoRow : OpenClaim := { program := "ytapciiffpnociaa", sum := "890b3decc63a3c40c402f79bb981bf4879adc43a8bf576657a6d9ed3734504a1", func := "groundwork/groundworklaw.TokenBack", spec := "tokenBack", inPlace := ["internal/bytealg.IndexByteString", "internal/abi.NoEscape", "internal/bytealg.MakeNoZero"], unfollowed := true, recurses := true, plainKeys := false, apart := false, narrowed := true }
def TokenBackUptoSaid : Prop := tokenBackUptoRow.holds Try.pinned (OpenSpec.upto tokenBackSpec)

/-- 'groundworklaw.TokenPlaces', WHERE WHAT IT READS IS OF BULK AT MOST 1048576: true; the input reads as it did. -/
def tokenPlacesUptoRow : OpenClaim := { program := "ytapciiffpnociaa", sum := "890b3decc63a3c40c402f79bb981bf4879adc43a8bf576657a6d9ed3734504a1", func := "groundwork/groundworklaw.TokenPlaces", spec := "tokenPlaces", inPlace := ["internal/bytealg.IndexByteString", "internal/abi.NoEscape", "internal/bytealg.MakeNoZero"], unfollowed := true, recurses := true, plainKeys := false, apart := false, narrowed := true }
def TokenPlacesUptoSaid : Prop := tokenPlacesUptoRow.holds Try.pinned (OpenSpec.upto tokenPlacesSpec)

/-- 'groundworklaw.WireTells', WHERE WHAT IT READS IS OF BULK AT MOST 1048576: true; the input reads as it did. -/
def wireTellsUptoRow : OpenClaim := { program := "ytapciiffpnociaa", sum := "890b3decc63a3c40c402f79bb981bf4879adc43a8bf576657a6d9ed3734504a1", func := "groundwork/groundworklaw.WireTells", spec := "wireTells", unfollowed := true, recurses := true, plainKeys := false, apart := false, narrowed := true }
def WireTellsUptoSaid : Prop := wireTellsUptoRow.holds Try.pinned (OpenSpec.upto wireTellsSpec)

/-- 'groundworklaw.WireBack', WHERE WHAT IT READS IS OF BULK AT MOST 1048576: true; the input reads as it did. -/
def wireBackUptoRow : OpenClaim := { program := "ytapciiffpnociaa", sum := "890b3decc63a3c40c402f79bb981bf4879adc43a8bf576657a6d9ed3734504a1", func := "groundwork/groundworklaw.WireBack", spec := "wireBack", unfollowed := true, recurses := true, plainKeys := false, apart := false, narrowed := true }
def WireBackUptoSaid : Prop := wireBackUptoRow.holds Try.pinned (OpenSpec.upto wireBackSpec)

/-- 'groundworklaw.StrataTells', WHERE WHAT IT READS IS OF BULK AT MOST 1048576: true; the input reads as it did. -/
def strataTellsUptoRow : OpenClaim := { program := "ytapciiffpnociaa", sum := "890b3decc63a3c40c402f79bb981bf4879adc43a8bf576657a6d9ed3734504a1", func := "groundwork/groundworklaw.StrataTells", spec := "strataTells", inPlace := ["internal/bytealg.IndexByteString"], unfollowed := true, recurses := true, plainKeys := false, apart := false, narrowed := true }
def StrataTellsUptoSaid : Prop := strataTellsUptoRow.holds Try.pinned (OpenSpec.upto strataTellsSpec)

/-- 'groundworklaw.StrataLeast', WHERE WHAT IT READS IS OF BULK AT MOST 1048576: true; the input reads as it did. -/
def strataLeastUptoRow : OpenClaim := { program := "ytapciiffpnociaa", sum := "890b3decc63a3c40c402f79bb981bf4879adc43a8bf576657a6d9ed3734504a1", func := "groundwork/groundworklaw.StrataLeast", spec := "strataLeast", inPlace := ["internal/bytealg.IndexByteString"], unfollowed := true, recurses := true, plainKeys := false, apart := false, narrowed := true }
def StrataLeastUptoSaid : Prop := strataLeastUptoRow.holds Try.pinned (OpenSpec.upto strataLeastSpec)

/-- 'groundworklaw.GossipTells', WHERE WHAT IT READS IS OF BULK AT MOST 1048576: true; the input reads as it did. -/
def gossipTellsUptoRow : OpenClaim := { program := "ytapciiffpnociaa", sum := "890b3decc63a3c40c402f79bb981bf4879adc43a8bf576657a6d9ed3734504a1", func := "groundwork/groundworklaw.GossipTells", spec := "gossipTells", inPlace := ["slices.overlaps[groundwork/api.Update]"], unfollowed := true, recurses := true, plainKeys := false, apart := false, narrowed := true }
def GossipTellsUptoSaid : Prop := gossipTellsUptoRow.holds Try.pinned (OpenSpec.upto gossipTellsSpec)

/-- 'groundworklaw.GossipMeets', WHERE WHAT IT READS IS OF BULK AT MOST 1048576: true; the input reads as it did. -/
def gossipMeetsUptoRow : OpenClaim := { program := "ytapciiffpnociaa", sum := "890b3decc63a3c40c402f79bb981bf4879adc43a8bf576657a6d9ed3734504a1", func := "groundwork/groundworklaw.GossipMeets", spec := "gossipMeets", inPlace := ["slices.overlaps[groundwork/api.Update]"], unfollowed := true, recurses := true, plainKeys := false, apart := false, narrowed := true }
def GossipMeetsUptoSaid : Prop := gossipMeetsUptoRow.holds Try.pinned (OpenSpec.upto gossipMeetsSpec)

/-- 'groundworklaw.RelationTells', WHERE WHAT IT READS IS OF BULK AT MOST 1048576: true; the input reads as it did. -/
def relationTellsUptoRow : OpenClaim := { program := "ytapciiffpnociaa", sum := "890b3decc63a3c40c402f79bb981bf4879adc43a8bf576657a6d9ed3734504a1", func := "groundwork/groundworklaw.RelationTells", spec := "relationTells", unfollowed := true, recurses := true, plainKeys := false, apart := false, narrowed := true }
def RelationTellsUptoSaid : Prop := relationTellsUptoRow.holds Try.pinned (OpenSpec.upto relationTellsSpec)

end Rows
end Go.Proofs.Ytapciiffpnociaa
