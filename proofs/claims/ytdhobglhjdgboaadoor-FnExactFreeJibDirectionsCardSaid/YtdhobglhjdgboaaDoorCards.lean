/-
  DERIVED. GIVEN WITH THE SEED: THE CARDS: each row of YtdhobglhjdgboaaDoorRows.lean that lists a variable, with what it lists TIED to the program's text (the seventh form; the later family's looks); each row that meets fmt, with fmt's text TOLD by the authors' own Lean function (tested against real Go, not proved from fmt's source: count such statements apart). THE CARD IS WHAT COUNTS. Prove the row's statement (the work); the ties are given (YtdhobglhjdgboaaDoorTie.lean); close each card by the builder's one call (the guide's Derived/Test/ToyasCard.lean, 'card_holds'). Laid BY PROGRAM, IN A SANDBOX (cutbox-door.mjs). By AI agents, Wed Nov 11 2026. No macro, syntax, notation, axiom, sorry.
-/
import Derived.Test.YtdhobglhjdgboaaDoorRows
import GoSem.ClaimSeven
namespace Go.Proofs.YtdhobglhjdgboaaDoor
namespace Rows

/-- THE TIED CARD OF 'laws.FnExactLiftText'. -/
def fnExactLiftTextCard : Claim7 := { stood := { row := fnExactLiftTextRow, standIns := [], harness := (true, "69e3a4e7aa3b55f4c266c1c13ae8feb7b345a32740855838d6688e99329a90f9"), looks := true }, kinds := [], alts := [], laidByText := true, laidKinds := [.data, .data, .data], laidTests := true, laidLooks := .later }
def FnExactLiftTextCardSaid : Prop := Claim7.holds Tryd.pinned (.plain (OpenSpec.ofChange fnExactLiftTextSpec)) fnExactLiftTextCard

/-- THE TIED CARD OF 'laws.FnExactFreeJibDirections'. -/
def fnExactFreeJibDirectionsCard : Claim7 := { stood := { row := fnExactFreeJibDirectionsRow, standIns := [], harness := (true, "69e3a4e7aa3b55f4c266c1c13ae8feb7b345a32740855838d6688e99329a90f9"), looks := true }, kinds := [], alts := [], laidByText := true, laidKinds := [.data], laidTests := true, laidLooks := .later }
def FnExactFreeJibDirectionsCardSaid : Prop := Claim7.holds Tryd.pinned (.plain (OpenSpec.ofChange fnExactFreeJibDirectionsSpec)) fnExactFreeJibDirectionsCard

/-- THE TIED CARD OF 'laws.FnHeaviest'. -/
def fnHeaviestCard : Claim7 := { stood := { row := fnHeaviestRow, standIns := [], harness := (true, "69e3a4e7aa3b55f4c266c1c13ae8feb7b345a32740855838d6688e99329a90f9"), looks := true }, kinds := [], alts := [], laidByText := true, laidKinds := [.data], laidTests := true, laidLooks := .later }
def FnHeaviestCardSaid : Prop := Claim7.holds Tryd.pinned (.plain (OpenSpec.ofChange fnHeaviestSpec)) fnHeaviestCard

/-- THE TIED CARD OF 'laws.FnDistances'. -/
def fnDistancesCard : Claim7 := { stood := { row := fnDistancesRow, standIns := [], harness := (true, "69e3a4e7aa3b55f4c266c1c13ae8feb7b345a32740855838d6688e99329a90f9"), looks := true }, kinds := [], alts := [], laidByText := true, laidKinds := [.data, .data, .data], laidTests := true, laidLooks := .later }
def FnDistancesCardSaid : Prop := Claim7.holds Tryd.pinned (.plain (OpenSpec.ofChange fnDistancesSpec)) fnDistancesCard

/-- THE TIED CARD OF 'laws.FnExactReadClimbs'. -/
def fnExactReadClimbsCard : Claim7 := { stood := { row := fnExactReadClimbsRow, standIns := [], harness := (true, "69e3a4e7aa3b55f4c266c1c13ae8feb7b345a32740855838d6688e99329a90f9"), looks := true }, kinds := [], alts := [], laidByText := true, laidKinds := [.data, .data, .data, .sentinel, .sentinel], laidTests := true, laidLooks := .later }
def FnExactReadClimbsCardSaid : Prop := Claim7.holds Tryd.pinned (.plain (OpenSpec.ofChange fnExactReadClimbsSpec)) fnExactReadClimbsCard

/-- THE TIED CARD OF 'laws.FnExactReadPersons'. -/
def fnExactReadPersonsCard : Claim7 := { stood := { row := fnExactReadPersonsRow, standIns := [], harness := (true, "69e3a4e7aa3b55f4c266c1c13ae8feb7b345a32740855838d6688e99329a90f9"), looks := true }, kinds := [], alts := [], laidByText := true, laidKinds := [.data, .data, .data, .sentinel, .sentinel], laidTests := true, laidLooks := .later }
def FnExactReadPersonsCardSaid : Prop := Claim7.holds Tryd.pinned (.plain (OpenSpec.ofChange fnExactReadPersonsSpec)) fnExactReadPersonsCard

/-- THE TIED CARD OF 'laws.FnExactReadTasks'. -/
def fnExactReadTasksCard : Claim7 := { stood := { row := fnExactReadTasksRow, standIns := [], harness := (true, "69e3a4e7aa3b55f4c266c1c13ae8feb7b345a32740855838d6688e99329a90f9"), looks := true }, kinds := [], alts := [], laidByText := true, laidKinds := [.data, .data, .data, .sentinel, .sentinel], laidTests := true, laidLooks := .later }
def FnExactReadTasksCardSaid : Prop := Claim7.holds Tryd.pinned (.plain (OpenSpec.ofChange fnExactReadTasksSpec)) fnExactReadTasksCard

/-- THE SECOND FORM's CARD OF 'laws.FnExactLiftText'. -/
def fnExactLiftTextUptoCard : Claim7 := { stood := { row := fnExactLiftTextUptoRow, standIns := [], harness := (true, "69e3a4e7aa3b55f4c266c1c13ae8feb7b345a32740855838d6688e99329a90f9"), looks := true }, kinds := [], alts := [], laidByText := true, laidKinds := [.data, .data, .data], laidTests := true, laidLooks := .later }
def FnExactLiftTextUptoCardSaid : Prop := Claim7.holds Tryd.pinned (.plain (OpenSpec.upto fnExactLiftTextSpec)) fnExactLiftTextUptoCard

/-- THE SECOND FORM's CARD OF 'laws.FnExactFreeJibDirections'. -/
def fnExactFreeJibDirectionsUptoCard : Claim7 := { stood := { row := fnExactFreeJibDirectionsUptoRow, standIns := [], harness := (true, "69e3a4e7aa3b55f4c266c1c13ae8feb7b345a32740855838d6688e99329a90f9"), looks := true }, kinds := [], alts := [], laidByText := true, laidKinds := [.data], laidTests := true, laidLooks := .later }
def FnExactFreeJibDirectionsUptoCardSaid : Prop := Claim7.holds Tryd.pinned (.plain (OpenSpec.upto fnExactFreeJibDirectionsSpec)) fnExactFreeJibDirectionsUptoCard

/-- THE SECOND FORM's CARD OF 'laws.FnHeaviest'. -/
def fnHeaviestUptoCard : Claim7 := { stood := { row := fnHeaviestUptoRow, standIns := [], harness := (true, "69e3a4e7aa3b55f4c266c1c13ae8feb7b345a32740855838d6688e99329a90f9"), looks := true }, kinds := [], alts := [], laidByText := true, laidKinds := [.data], laidTests := true, laidLooks := .later }
def FnHeaviestUptoCardSaid : Prop := Claim7.holds Tryd.pinned (.plain (OpenSpec.upto fnHeaviestSpec)) fnHeaviestUptoCard

/-- THE SECOND FORM's CARD OF 'laws.FnDistances'. -/
def fnDistancesUptoCard : Claim7 := { stood := { row := fnDistancesUptoRow, standIns := [], harness := (true, "69e3a4e7aa3b55f4c266c1c13ae8feb7b345a32740855838d6688e99329a90f9"), looks := true }, kinds := [], alts := [], laidByText := true, laidKinds := [.data, .data, .data], laidTests := true, laidLooks := .later }
def FnDistancesUptoCardSaid : Prop := Claim7.holds Tryd.pinned (.plain (OpenSpec.upto fnDistancesSpec)) fnDistancesUptoCard

/-- THE SECOND FORM's CARD OF 'laws.FnExactReadClimbs'. -/
def fnExactReadClimbsUptoCard : Claim7 := { stood := { row := fnExactReadClimbsUptoRow, standIns := [], harness := (true, "69e3a4e7aa3b55f4c266c1c13ae8feb7b345a32740855838d6688e99329a90f9"), looks := true }, kinds := [], alts := [], laidByText := true, laidKinds := [.data, .data, .data, .sentinel, .sentinel], laidTests := true, laidLooks := .later }
def FnExactReadClimbsUptoCardSaid : Prop := Claim7.holds Tryd.pinned (.plain (OpenSpec.upto fnExactReadClimbsSpec)) fnExactReadClimbsUptoCard

/-- THE SECOND FORM's CARD OF 'laws.FnExactReadPersons'. -/
def fnExactReadPersonsUptoCard : Claim7 := { stood := { row := fnExactReadPersonsUptoRow, standIns := [], harness := (true, "69e3a4e7aa3b55f4c266c1c13ae8feb7b345a32740855838d6688e99329a90f9"), looks := true }, kinds := [], alts := [], laidByText := true, laidKinds := [.data, .data, .data, .sentinel, .sentinel], laidTests := true, laidLooks := .later }
def FnExactReadPersonsUptoCardSaid : Prop := Claim7.holds Tryd.pinned (.plain (OpenSpec.upto fnExactReadPersonsSpec)) fnExactReadPersonsUptoCard

/-- THE SECOND FORM's CARD OF 'laws.FnExactReadTasks'. -/
def fnExactReadTasksUptoCard : Claim7 := { stood := { row := fnExactReadTasksUptoRow, standIns := [], harness := (true, "69e3a4e7aa3b55f4c266c1c13ae8feb7b345a32740855838d6688e99329a90f9"), looks := true }, kinds := [], alts := [], laidByText := true, laidKinds := [.data, .data, .data, .sentinel, .sentinel], laidTests := true, laidLooks := .later }
def FnExactReadTasksUptoCardSaid : Prop := Claim7.holds Tryd.pinned (.plain (OpenSpec.upto fnExactReadTasksSpec)) fnExactReadTasksUptoCard
end Rows
end Go.Proofs.YtdhobglhjdgboaaDoor
