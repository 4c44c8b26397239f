/-
  No cell of these rows narrows 'for every input' (looked for: loops, veiled, ifaces, maps, wideKeys, modest, calm, conditions, laid).
  DERIVED. THE GIVEN ROWS OF THIS SEAT. 9 by the template 'for every input the law returns true; each argument reads behind the call as it read before'; 0 by the template 'total and deterministic' (their statements: YtapciiffpnociacGreatTotals.lean).
  GIVEN WITH THE SEED: the statements are not yours to turn. If you find one false, say at which input.
  Laid BY PROGRAM, IN A SANDBOX (cutbox-rows.mjs): the forced cells as the released guide's own fill.sh prints them over the translation 435bb4bcf90ab200… (all of the seat's roots in one cut). By AI agents, Wed Nov 11 2026. No macro, syntax, notation, axiom, sorry.
-/
import Derived.Test.YtapciiffpnociacGreatChecked
import GoSem.Claim
import GoSem.ClaimJoined
import GoSem.ClaimMapViews
import Derived.JoinedTies
import Derived.KernelRfl
namespace Go.Proofs.YtapciiffpnociacGreat
/- THE CELL 'sum', in the pinned program and in every row, IS THE sha256 OF THE DUMP (.gsa) THAT YtapciiffpnociacGreatProg.lean LOADS. Nothing in Lean hashes anything: it is a label: what it is worth is what the hold of that sum in a sandbox is worth. -/
noncomputable def Tryz.pinned : Pinned := { name := "ytapciiffpnociacgreat", sum := "435bb4bcf90ab200f90b66fdf79e6f8704e624a2f2cc2812c315f2e14ffce500", checked := Tryz.checked }
namespace Rows
def none {H : Type} : Left H := { results := [], args := [] }

/-- 'groundworklaw.RuleHolds': WHATEVER THE INPUT: true; the input reads as it did. -/
def ruleHoldsSpec : ChangeSpec := { name := "ruleHolds", fn := fun _ => fun
  | [d1, d2, d3, d4] => { results := [.lit (.bool true)], args := [d1, d2, d3, d4] }
  | _ => none }
def ruleHoldsRow : OpenClaim := { program := "ytapciiffpnociacgreat", sum := "435bb4bcf90ab200f90b66fdf79e6f8704e624a2f2cc2812c315f2e14ffce500", func := "groundwork/groundworklaw.RuleHolds", spec := "ruleHolds", inPlace := ["internal/bytealg.IndexByteString"], unfollowed := true, recurses := true, apart := false }
def RuleHoldsSaid : Prop := ruleHoldsRow.holds Tryz.pinned (OpenSpec.ofChange ruleHoldsSpec)

/-- ITS FALSE NEIGHBOUR: 'it returns false'. Refute it at one input. -/
def ruleHoldsWrong : ChangeSpec := { name := "ruleHolds", fn := fun _ => fun
  | [d1, d2, d3, d4] => { results := [.lit (.bool false)], args := [d1, d2, d3, d4] }
  | _ => none }
def RuleHoldsWrongFalsely : Prop := ruleHoldsRow.holds Tryz.pinned (OpenSpec.ofChange ruleHoldsWrong)

/-- 'groundworklaw.RuleMore': WHATEVER THE INPUT: true; the input reads as it did. -/
def ruleMoreSpec : ChangeSpec := { name := "ruleMore", fn := fun _ => fun
  | [d1, d2, d3, d4] => { results := [.lit (.bool true)], args := [d1, d2, d3, d4] }
  | _ => none }
def ruleMoreRow : OpenClaim := { program := "ytapciiffpnociacgreat", sum := "435bb4bcf90ab200f90b66fdf79e6f8704e624a2f2cc2812c315f2e14ffce500", func := "groundwork/groundworklaw.RuleMore", spec := "ruleMore", inPlace := ["internal/bytealg.IndexByteString"], unfollowed := true, recurses := true, apart := false }
def RuleMoreSaid : Prop := ruleMoreRow.holds Tryz.pinned (OpenSpec.ofChange ruleMoreSpec)

/-- ITS FALSE NEIGHBOUR: 'it returns false'. Refute it at one input. -/
def ruleMoreWrong : ChangeSpec := { name := "ruleMore", fn := fun _ => fun
  | [d1, d2, d3, d4] => { results := [.lit (.bool false)], args := [d1, d2, d3, d4] }
  | _ => none }
def RuleMoreWrongFalsely : Prop := ruleMoreRow.holds Tryz.pinned (OpenSpec.ofChange ruleMoreWrong)

/-- 'groundworklaw.ModelTells': WHATEVER THE INPUT: true; the input reads as it did. -/
def modelTellsSpec : ChangeSpec := { name := "modelTells", fn := fun _ => fun
  | [d1, d2, d3, d4, d5, d6] => { results := [.lit (.bool true)], args := [d1, d2, d3, d4, d5, d6] }
  | _ => none }
def modelTellsRow : OpenClaim := { program := "ytapciiffpnociacgreat", sum := "435bb4bcf90ab200f90b66fdf79e6f8704e624a2f2cc2812c315f2e14ffce500", func := "groundwork/groundworklaw.ModelTells", spec := "modelTells", inPlace := ["internal/bytealg.IndexByteString"], unfollowed := true, recurses := true, apart := false }
def ModelTellsSaid : Prop := modelTellsRow.holds Tryz.pinned (OpenSpec.ofChange modelTellsSpec)

/-- ITS FALSE NEIGHBOUR: 'it returns false'. Refute it at one input. -/
def modelTellsWrong : ChangeSpec := { name := "modelTells", fn := fun _ => fun
  | [d1, d2, d3, d4, d5, d6] => { results := [.lit (.bool false)], args := [d1, d2, d3, d4, d5, d6] }
  | _ => none }
def ModelTellsWrongFalsely : Prop := modelTellsRow.holds Tryz.pinned (OpenSpec.ofChange modelTellsWrong)

/-- 'groundworklaw.ChangeApplies': WHATEVER THE INPUT: true; the input reads as it did. -/
def changeAppliesSpec : ChangeSpec := { name := "changeApplies", fn := fun _ => fun
  | [d1, d2, d3, d4, d5] => { results := [.lit (.bool true)], args := [d1, d2, d3, d4, d5] }
  | _ => none }
def changeAppliesRow : OpenClaim := { program := "ytapciiffpnociacgreat", sum := "435bb4bcf90ab200f90b66fdf79e6f8704e624a2f2cc2812c315f2e14ffce500", func := "groundwork/groundworklaw.ChangeApplies", spec := "changeApplies", inPlace := ["internal/bytealg.IndexByteString"], unfollowed := true, recurses := true, apart := false }
def ChangeAppliesSaid : Prop := changeAppliesRow.holds Tryz.pinned (OpenSpec.ofChange changeAppliesSpec)

/-- ITS FALSE NEIGHBOUR: 'it returns false'. Refute it at one input. -/
def changeAppliesWrong : ChangeSpec := { name := "changeApplies", fn := fun _ => fun
  | [d1, d2, d3, d4, d5] => { results := [.lit (.bool false)], args := [d1, d2, d3, d4, d5] }
  | _ => none }
def ChangeAppliesWrongFalsely : Prop := changeAppliesRow.holds Tryz.pinned (OpenSpec.ofChange changeAppliesWrong)

/-- 'groundworklaw.ModelClosed': WHATEVER THE INPUT: true; the input reads as it did. -/
def modelClosedSpec : ChangeSpec := { name := "modelClosed", fn := fun _ => fun
  | [d1, d2] => { results := [.lit (.bool true)], args := [d1, d2] }
  | _ => none }
def modelClosedRow : OpenClaim := { program := "ytapciiffpnociacgreat", sum := "435bb4bcf90ab200f90b66fdf79e6f8704e624a2f2cc2812c315f2e14ffce500", func := "groundwork/groundworklaw.ModelClosed", spec := "modelClosed", inPlace := ["internal/bytealg.IndexByteString"], unfollowed := true, recurses := true, apart := false }
def ModelClosedSaid : Prop := modelClosedRow.holds Tryz.pinned (OpenSpec.ofChange modelClosedSpec)

/-- ITS FALSE NEIGHBOUR: 'it returns false'. Refute it at one input. -/
def modelClosedWrong : ChangeSpec := { name := "modelClosed", fn := fun _ => fun
  | [d1, d2] => { results := [.lit (.bool false)], args := [d1, d2] }
  | _ => none }
def ModelClosedWrongFalsely : Prop := modelClosedRow.holds Tryz.pinned (OpenSpec.ofChange modelClosedWrong)

/-- 'groundworklaw.ChangePlays': WHATEVER THE INPUT: true; the input reads as it did. -/
def changePlaysSpec : ChangeSpec := { name := "changePlays", fn := fun _ => fun
  | [d1, d2, d3, d4, d5, d6] => { results := [.lit (.bool true)], args := [d1, d2, d3, d4, d5, d6] }
  | _ => none }
def changePlaysRow : OpenClaim := { program := "ytapciiffpnociacgreat", sum := "435bb4bcf90ab200f90b66fdf79e6f8704e624a2f2cc2812c315f2e14ffce500", func := "groundwork/groundworklaw.ChangePlays", spec := "changePlays", inPlace := ["internal/bytealg.IndexByteString"], unfollowed := true, recurses := true, apart := false }
def ChangePlaysSaid : Prop := changePlaysRow.holds Tryz.pinned (OpenSpec.ofChange changePlaysSpec)

/-- ITS FALSE NEIGHBOUR: 'it returns false'. Refute it at one input. -/
def changePlaysWrong : ChangeSpec := { name := "changePlays", fn := fun _ => fun
  | [d1, d2, d3, d4, d5, d6] => { results := [.lit (.bool false)], args := [d1, d2, d3, d4, d5, d6] }
  | _ => none }
def ChangePlaysWrongFalsely : Prop := changePlaysRow.holds Tryz.pinned (OpenSpec.ofChange changePlaysWrong)

/-- 'groundworklaw.WhyChecks': WHATEVER THE INPUT: true; the input reads as it did. -/
def whyChecksSpec : ChangeSpec := { name := "whyChecks", fn := fun _ => fun
  | [d1, d2, d3] => { results := [.lit (.bool true)], args := [d1, d2, d3] }
  | _ => none }
def whyChecksRow : OpenClaim := { program := "ytapciiffpnociacgreat", sum := "435bb4bcf90ab200f90b66fdf79e6f8704e624a2f2cc2812c315f2e14ffce500", func := "groundwork/groundworklaw.WhyChecks", spec := "whyChecks", inPlace := ["internal/bytealg.IndexByteString"], unfollowed := true, recurses := true, apart := false }
def WhyChecksSaid : Prop := whyChecksRow.holds Tryz.pinned (OpenSpec.ofChange whyChecksSpec)

/-- ITS FALSE NEIGHBOUR: 'it returns false'. Refute it at one input. -/
def whyChecksWrong : ChangeSpec := { name := "whyChecks", fn := fun _ => fun
  | [d1, d2, d3] => { results := [.lit (.bool false)], args := [d1, d2, d3] }
  | _ => none }
def WhyChecksWrongFalsely : Prop := whyChecksRow.holds Tryz.pinned (OpenSpec.ofChange whyChecksWrong)

/-- 'groundworklaw.WhyProves': WHATEVER THE INPUT: true; the input reads as it did. -/
def whyProvesSpec : ChangeSpec := { name := "whyProves", fn := fun _ => fun
  | [d1, d2, d3] => { results := [.lit (.bool true)], args := [d1, d2, d3] }
  | _ => none }
def whyProvesRow : OpenClaim := { program := "ytapciiffpnociacgreat", sum := "435bb4bcf90ab200f90b66fdf79e6f8704e624a2f2cc2812c315f2e14ffce500", func := "groundwork/groundworklaw.WhyProves", spec := "whyProves", inPlace := ["internal/bytealg.IndexByteString"], unfollowed := true, recurses := true, apart := false }
def WhyProvesSaid : Prop := whyProvesRow.holds Tryz.pinned (OpenSpec.ofChange whyProvesSpec)

/-- ITS FALSE NEIGHBOUR: 'it returns false'. Refute it at one input. -/
def whyProvesWrong : ChangeSpec := { name := "whyProves", fn := fun _ => fun
  | [d1, d2, d3] => { results := [.lit (.bool false)], args := [d1, d2, d3] }
  | _ => none }
def WhyProvesWrongFalsely : Prop := whyProvesRow.holds Tryz.pinned (OpenSpec.ofChange whyProvesWrong)

/-- 'groundworklaw.ModelFocus': WHATEVER THE INPUT: true; the input reads as it did. -/
def modelFocusSpec : ChangeSpec := { name := "modelFocus", fn := fun _ => fun
  | [d1, d2, d3, d4, d5] => { results := [.lit (.bool true)], args := [d1, d2, d3, d4, d5] }
  | _ => none }
def modelFocusRow : OpenClaim := { program := "ytapciiffpnociacgreat", sum := "435bb4bcf90ab200f90b66fdf79e6f8704e624a2f2cc2812c315f2e14ffce500", func := "groundwork/groundworklaw.ModelFocus", spec := "modelFocus", inPlace := ["internal/bytealg.IndexByteString"], unfollowed := true, recurses := true, apart := false }
def ModelFocusSaid : Prop := modelFocusRow.holds Tryz.pinned (OpenSpec.ofChange modelFocusSpec)

/-- ITS FALSE NEIGHBOUR: 'it returns false'. Refute it at one input. -/
def modelFocusWrong : ChangeSpec := { name := "modelFocus", fn := fun _ => fun
  | [d1, d2, d3, d4, d5] => { results := [.lit (.bool false)], args := [d1, d2, d3, d4, d5] }
  | _ => none }
def ModelFocusWrongFalsely : Prop := modelFocusRow.holds Tryz.pinned (OpenSpec.ofChange modelFocusWrong)

/- THE SECOND FORM. 'bulk': how many values and letters a reading holds, each counted each time it is reached (what is shared counts as often as it is met; a slice's spare places count too). A statement '..UptoSaid' is the law's where the arguments, and the package variables that the reading takes, are together of bulk at most 1048576: NARROWER than '..Said'. Prove '..Said' where nothing that the law and all that it calls make is longer than what came in: it says more and counts as full. Else prove '..UptoSaid'. A law counts once. -/
mutual
def uptoBulk {H : Type} : DataW H → Nat
  | .lit (.string bytes) => bytes.length + 1
  | .lit _ => 1
  | .nil => 1
  | .ptr d => uptoBulk d + 1
  | .slice elems spare => uptoBulkAll elems + uptoBulkAll spare + 1
  | .agg parts => uptoBulkAll parts + 1
  | .iface _ d => uptoBulk d + 1
  | .map entries => uptoBulkEntries entries + 1
  | .held _ => 1
def uptoBulkAll {H : Type} : List (DataW H) → Nat
  | [] => 0
  | d :: r => uptoBulk d + uptoBulkAll r
def uptoBulkEntries {H : Type} : List (Lit × DataW H) → Nat
  | [] => 0
  | x :: r => uptoBulkEntry x + uptoBulkEntries r
def uptoBulkEntry {H : Type} : Lit × DataW H → Nat
  | (.string bytes, d) => bytes.length + uptoBulk d + 1
  | (_, d) => uptoBulk d + 1
 end
def uptoSmall : (H : Type) → List (DataW H) → Bool := fun _ ds => decide (uptoBulkAll ds ≤ 1048576)
def OpenSpec.upto (s : _root_.Go.ChangeSpec) : _root_.Go.OpenSpec := { _root_.Go.OpenSpec.ofChange s with cond := some uptoSmall }

/-- 'groundworklaw.RuleHolds', WHERE WHAT IT READS IS OF BULK AT MOST 1048576: true; the input reads as it did. -/
def ruleHoldsUptoRow : OpenClaim := { program := "ytapciiffpnociacgreat", sum := "435bb4bcf90ab200f90b66fdf79e6f8704e624a2f2cc2812c315f2e14ffce500", func := "groundwork/groundworklaw.RuleHolds", spec := "ruleHolds", inPlace := ["internal/bytealg.IndexByteString"], unfollowed := true, recurses := true, apart := false, narrowed := true }
def RuleHoldsUptoSaid : Prop := ruleHoldsUptoRow.holds Tryz.pinned (OpenSpec.upto ruleHoldsSpec)

/-- 'groundworklaw.RuleMore', WHERE WHAT IT READS IS OF BULK AT MOST 1048576: true; the input reads as it did. -/
def ruleMoreUptoRow : OpenClaim := { program := "ytapciiffpnociacgreat", sum := "435bb4bcf90ab200f90b66fdf79e6f8704e624a2f2cc2812c315f2e14ffce500", func := "groundwork/groundworklaw.RuleMore", spec := "ruleMore", inPlace := ["internal/bytealg.IndexByteString"], unfollowed := true, recurses := true, apart := false, narrowed := true }
def RuleMoreUptoSaid : Prop := ruleMoreUptoRow.holds Tryz.pinned (OpenSpec.upto ruleMoreSpec)

/-- 'groundworklaw.ModelTells', WHERE WHAT IT READS IS OF BULK AT MOST 1048576: true; the input reads as it did. -/
def modelTellsUptoRow : OpenClaim := { program := "ytapciiffpnociacgreat", sum := "435bb4bcf90ab200f90b66fdf79e6f8704e624a2f2cc2812c315f2e14ffce500", func := "groundwork/groundworklaw.ModelTells", spec := "modelTells", inPlace := ["internal/bytealg.IndexByteString"], unfollowed := true, recurses := true, apart := false, narrowed := true }
def ModelTellsUptoSaid : Prop := modelTellsUptoRow.holds Tryz.pinned (OpenSpec.upto modelTellsSpec)

/-- 'groundworklaw.ChangeApplies', WHERE WHAT IT READS IS OF BULK AT MOST 1048576: true; the input reads as it did. -/
def changeAppliesUptoRow : OpenClaim := { program := "ytapciiffpnociacgreat", sum := "435bb4bcf90ab200f90b66fdf79e6f8704e624a2f2cc2812c315f2e14ffce500", func := "groundwork/groundworklaw.ChangeApplies", spec := "changeApplies", inPlace := ["internal/bytealg.IndexByteString"], unfollowed := true, recurses := true, apart := false, narrowed := true }
def ChangeAppliesUptoSaid : Prop := changeAppliesUptoRow.holds Tryz.pinned (OpenSpec.upto changeAppliesSpec)

/-- 'groundworklaw.ModelClosed', WHERE WHAT IT READS IS OF BULK AT MOST 1048576: true; the input reads as it did. -/
def modelClosedUptoRow : OpenClaim := { program := "ytapciiffpnociacgreat", sum := "435bb4bcf90ab200f90b66fdf79e6f8704e624a2f2cc2812c315f2e14ffce500", func := "groundwork/groundworklaw.ModelClosed", spec := "modelClosed", inPlace := ["internal/bytealg.IndexByteString"], unfollowed := true, recurses := true, apart := false, narrowed := true }
def ModelClosedUptoSaid : Prop := modelClosedUptoRow.holds Tryz.pinned (OpenSpec.upto modelClosedSpec)

/-- 'groundworklaw.ChangePlays', WHERE WHAT IT READS IS OF BULK AT MOST 1048576: true; the input reads as it did. -/
def changePlaysUptoRow : OpenClaim := { program := "ytapciiffpnociacgreat", sum := "435bb4bcf90ab200f90b66fdf79e6f8704e624a2f2cc2812c315f2e14ffce500", func := "groundwork/groundworklaw.ChangePlays", spec := "changePlays", inPlace := ["internal/bytealg.IndexByteString"], unfollowed := true, recurses := true, apart := false, narrowed := true }
def ChangePlaysUptoSaid : Prop := changePlaysUptoRow.holds Tryz.pinned (OpenSpec.upto changePlaysSpec)

/-- 'groundworklaw.WhyChecks', WHERE WHAT IT READS IS OF BULK AT MOST 1048576: true; the input reads as it did. -/
def whyChecksUptoRow : OpenClaim := { program := "ytapciiffpnociacgreat", sum := "435bb4bcf90ab200f90b66fdf79e6f8704e624a2f2cc2812c315f2e14ffce500", func := "groundwork/groundworklaw.WhyChecks", spec := "whyChecks", inPlace := ["internal/bytealg.IndexByteString"], unfollowed := true, recurses := true, apart := false, narrowed := true }
def WhyChecksUptoSaid : Prop := whyChecksUptoRow.holds Tryz.pinned (OpenSpec.upto whyChecksSpec)

/-- 'groundworklaw.WhyProves', WHERE WHAT IT READS IS OF BULK AT MOST 1048576: true; the input reads as it did. -/
def whyProvesUptoRow : OpenClaim := { program := "ytapciiffpnociacgreat", sum := "435bb4bcf90ab200f90b66fdf79e6f8704e624a2f2cc2812c315f2e14ffce500", func := "groundwork/groundworklaw.WhyProves", spec := "whyProves", inPlace := ["internal/bytealg.IndexByteString"], unfollowed := true, recurses := true, apart := false, narrowed := true }
def WhyProvesUptoSaid : Prop := whyProvesUptoRow.holds Tryz.pinned (OpenSpec.upto whyProvesSpec)

/-- 'groundworklaw.ModelFocus', WHERE WHAT IT READS IS OF BULK AT MOST 1048576: true; the input reads as it did. -/
def modelFocusUptoRow : OpenClaim := { program := "ytapciiffpnociacgreat", sum := "435bb4bcf90ab200f90b66fdf79e6f8704e624a2f2cc2812c315f2e14ffce500", func := "groundwork/groundworklaw.ModelFocus", spec := "modelFocus", inPlace := ["internal/bytealg.IndexByteString"], unfollowed := true, recurses := true, apart := false, narrowed := true }
def ModelFocusUptoSaid : Prop := modelFocusUptoRow.holds Tryz.pinned (OpenSpec.upto modelFocusSpec)

end Rows
end Go.Proofs.YtapciiffpnociacGreat
