/-
  DERIVED. GIVEN WITH THE SEED: THE CARDS: each row of YtapciiffpnociacGreatDoorRows.lean that lists a variable, with what it lists TIED to the program's text (the seventh form; the later family's looks); each row that meets fmt, with fmt's text TOLD by the authors' own Lean function (tested against real Go, not proved from fmt's source: count such statements apart). THE CARD IS WHAT COUNTS. Prove the row's statement (the work); the ties are given (YtapciiffpnociacGreatDoorTie.lean); close each card by the builder's one call (the guide's Derived/Test/ToyasCard.lean, 'card_holds'). Laid BY PROGRAM, IN A SANDBOX (cutbox-door.mjs). By AI agents, Wed Nov 11 2026. No macro, syntax, notation, axiom, sorry.
-/
import Derived.Test.YtapciiffpnociacGreatDoorRows
import GoSem.ClaimSeven
namespace Go.Proofs.YtapciiffpnociacGreatDoor
namespace Rows

/-- THE TIED CARD OF 'groundworklaw.ScopeChecks'. -/
def scopeChecksCard : Claim7 := { stood := { row := scopeChecksRow, standIns := [], harness := (true, "eef7c97b8474381da5850fbe55dbfbc6deda5e3122b1f82edcd789f860f18fba"), looks := true }, kinds := [], alts := [], laidByText := true, laidKinds := [.data, .data, .data, .sentinel, .sentinel], laidTests := true, laidLooks := .later }
def ScopeChecksCardSaid : Prop := Claim7.holds Tryz.pinned (.plain (OpenSpec.ofChange scopeChecksSpec)) scopeChecksCard

/-- THE TIED CARD OF 'groundworklaw.ScopeResolves'. -/
def scopeResolvesCard : Claim7 := { stood := { row := scopeResolvesRow, standIns := [], harness := (true, "eef7c97b8474381da5850fbe55dbfbc6deda5e3122b1f82edcd789f860f18fba"), looks := true }, kinds := [], alts := [], laidByText := true, laidKinds := [.data, .data, .data, .sentinel, .sentinel], laidTests := true, laidLooks := .later }
def ScopeResolvesCardSaid : Prop := Claim7.holds Tryz.pinned (.plain (OpenSpec.ofChange scopeResolvesSpec)) scopeResolvesCard

/-- THE TIED CARD OF 'groundworklaw.ScopePrograms'. -/
def scopeProgramsCard : Claim7 := { stood := { row := scopeProgramsRow, standIns := [], harness := (true, "eef7c97b8474381da5850fbe55dbfbc6deda5e3122b1f82edcd789f860f18fba"), looks := true }, kinds := [], alts := [], laidByText := true, laidKinds := [.data, .data, .data, .sentinel, .sentinel], laidTests := true, laidLooks := .later }
def ScopeProgramsCardSaid : Prop := Claim7.holds Tryz.pinned (.plain (OpenSpec.ofChange scopeProgramsSpec)) scopeProgramsCard

/-- THE SECOND FORM's CARD OF 'groundworklaw.ScopeChecks'. -/
def scopeChecksUptoCard : Claim7 := { stood := { row := scopeChecksUptoRow, standIns := [], harness := (true, "eef7c97b8474381da5850fbe55dbfbc6deda5e3122b1f82edcd789f860f18fba"), looks := true }, kinds := [], alts := [], laidByText := true, laidKinds := [.data, .data, .data, .sentinel, .sentinel], laidTests := true, laidLooks := .later }
def ScopeChecksUptoCardSaid : Prop := Claim7.holds Tryz.pinned (.plain (OpenSpec.upto scopeChecksSpec)) scopeChecksUptoCard

/-- THE SECOND FORM's CARD OF 'groundworklaw.ScopeResolves'. -/
def scopeResolvesUptoCard : Claim7 := { stood := { row := scopeResolvesUptoRow, standIns := [], harness := (true, "eef7c97b8474381da5850fbe55dbfbc6deda5e3122b1f82edcd789f860f18fba"), looks := true }, kinds := [], alts := [], laidByText := true, laidKinds := [.data, .data, .data, .sentinel, .sentinel], laidTests := true, laidLooks := .later }
def ScopeResolvesUptoCardSaid : Prop := Claim7.holds Tryz.pinned (.plain (OpenSpec.upto scopeResolvesSpec)) scopeResolvesUptoCard

/-- THE SECOND FORM's CARD OF 'groundworklaw.ScopePrograms'. -/
def scopeProgramsUptoCard : Claim7 := { stood := { row := scopeProgramsUptoRow, standIns := [], harness := (true, "eef7c97b8474381da5850fbe55dbfbc6deda5e3122b1f82edcd789f860f18fba"), looks := true }, kinds := [], alts := [], laidByText := true, laidKinds := [.data, .data, .data, .sentinel, .sentinel], laidTests := true, laidLooks := .later }
def ScopeProgramsUptoCardSaid : Prop := Claim7.holds Tryz.pinned (.plain (OpenSpec.upto scopeProgramsSpec)) scopeProgramsUptoCard
end Rows
end Go.Proofs.YtapciiffpnociacGreatDoor
