/-
  DERIVED. GIVEN WITH THE SEED: THE CARDS: each row of YtkegncanmfmmmaaDoorRows.lean that lists a variable, with what it lists TIED to the program's text (the seventh form; the later family's looks); each row that meets fmt, with fmt's text TOLD by the authors' own Lean function (tested against real Go, not proved from fmt's source: count such statements apart). THE CARD IS WHAT COUNTS. Prove the row's statement (the work); the ties are given (YtkegncanmfmmmaaDoorTie.lean); close each card by the builder's one call (the guide's Derived/Test/ToyasCard.lean, 'card_holds'). Laid BY PROGRAM, IN A SANDBOX (cutbox-door.mjs). By AI agents, Wed Nov 11 2026. No macro, syntax, notation, axiom, sorry.
-/
import Derived.Test.YtkegncanmfmmmaaDoorRows
import GoSem.ClaimSeven
namespace Go.Proofs.YtkegncanmfmmmaaDoor
namespace Rows

/-- THE TIED CARD OF 'laws.FnHeaviest'. -/
def fnHeaviestCard : Claim7 := { stood := { row := fnHeaviestRow, standIns := [], harness := (true, "f92991056e73f9199c2abd681f77054ec7e9e1d50b0ae307109be06a60e8aadd"), looks := true }, kinds := [], alts := [], laidByText := true, laidKinds := [.data], laidTests := true, laidLooks := .later }
def FnHeaviestCardSaid : Prop := Claim7.holds Tryd.pinned (.plain (OpenSpec.ofChange fnHeaviestSpec)) fnHeaviestCard

/-- THE TIED CARD OF 'laws.FnExactReadClimbs'. -/
def fnExactReadClimbsCard : Claim7 := { stood := { row := fnExactReadClimbsRow, standIns := [], harness := (true, "f92991056e73f9199c2abd681f77054ec7e9e1d50b0ae307109be06a60e8aadd"), looks := true }, kinds := [], alts := [], laidByText := true, laidKinds := [.data, .data, .data, .sentinel, .sentinel], laidTests := true, laidLooks := .later }
def FnExactReadClimbsCardSaid : Prop := Claim7.holds Tryd.pinned (.plain (OpenSpec.ofChange fnExactReadClimbsSpec)) fnExactReadClimbsCard

/-- THE TIED CARD OF 'laws.FnExactReadPersons'. -/
def fnExactReadPersonsCard : Claim7 := { stood := { row := fnExactReadPersonsRow, standIns := [], harness := (true, "f92991056e73f9199c2abd681f77054ec7e9e1d50b0ae307109be06a60e8aadd"), looks := true }, kinds := [], alts := [], laidByText := true, laidKinds := [.data, .data, .data, .sentinel, .sentinel], laidTests := true, laidLooks := .later }
def FnExactReadPersonsCardSaid : Prop := Claim7.holds Tryd.pinned (.plain (OpenSpec.ofChange fnExactReadPersonsSpec)) fnExactReadPersonsCard

/-- THE TIED CARD OF 'laws.FnExactReadTasks'. -/
def fnExactReadTasksCard : Claim7 := { stood := { row := fnExactReadTasksRow, standIns := [], harness := (true, "f92991056e73f9199c2abd681f77054ec7e9e1d50b0ae307109be06a60e8aadd"), looks := true }, kinds := [], alts := [], laidByText := true, laidKinds := [.data, .data, .data, .sentinel, .sentinel], laidTests := true, laidLooks := .later }
def FnExactReadTasksCardSaid : Prop := Claim7.holds Tryd.pinned (.plain (OpenSpec.ofChange fnExactReadTasksSpec)) fnExactReadTasksCard

/-- THE SECOND FORM's CARD OF 'laws.FnHeaviest'. -/
def fnHeaviestUptoCard : Claim7 := { stood := { row := fnHeaviestUptoRow, standIns := [], harness := (true, "f92991056e73f9199c2abd681f77054ec7e9e1d50b0ae307109be06a60e8aadd"), looks := true }, kinds := [], alts := [], laidByText := true, laidKinds := [.data], laidTests := true, laidLooks := .later }
def FnHeaviestUptoCardSaid : Prop := Claim7.holds Tryd.pinned (.plain (OpenSpec.upto fnHeaviestSpec)) fnHeaviestUptoCard

/-- THE SECOND FORM's CARD OF 'laws.FnExactReadClimbs'. -/
def fnExactReadClimbsUptoCard : Claim7 := { stood := { row := fnExactReadClimbsUptoRow, standIns := [], harness := (true, "f92991056e73f9199c2abd681f77054ec7e9e1d50b0ae307109be06a60e8aadd"), looks := true }, kinds := [], alts := [], laidByText := true, laidKinds := [.data, .data, .data, .sentinel, .sentinel], laidTests := true, laidLooks := .later }
def FnExactReadClimbsUptoCardSaid : Prop := Claim7.holds Tryd.pinned (.plain (OpenSpec.upto fnExactReadClimbsSpec)) fnExactReadClimbsUptoCard

/-- THE SECOND FORM's CARD OF 'laws.FnExactReadPersons'. -/
def fnExactReadPersonsUptoCard : Claim7 := { stood := { row := fnExactReadPersonsUptoRow, standIns := [], harness := (true, "f92991056e73f9199c2abd681f77054ec7e9e1d50b0ae307109be06a60e8aadd"), looks := true }, kinds := [], alts := [], laidByText := true, laidKinds := [.data, .data, .data, .sentinel, .sentinel], laidTests := true, laidLooks := .later }
def FnExactReadPersonsUptoCardSaid : Prop := Claim7.holds Tryd.pinned (.plain (OpenSpec.upto fnExactReadPersonsSpec)) fnExactReadPersonsUptoCard

/-- THE SECOND FORM's CARD OF 'laws.FnExactReadTasks'. -/
def fnExactReadTasksUptoCard : Claim7 := { stood := { row := fnExactReadTasksUptoRow, standIns := [], harness := (true, "f92991056e73f9199c2abd681f77054ec7e9e1d50b0ae307109be06a60e8aadd"), looks := true }, kinds := [], alts := [], laidByText := true, laidKinds := [.data, .data, .data, .sentinel, .sentinel], laidTests := true, laidLooks := .later }
def FnExactReadTasksUptoCardSaid : Prop := Claim7.holds Tryd.pinned (.plain (OpenSpec.upto fnExactReadTasksSpec)) fnExactReadTasksUptoCard
end Rows
end Go.Proofs.YtkegncanmfmmmaaDoor
