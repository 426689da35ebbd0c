/-
  DERIVED. GIVEN WITH THE SEED: THE CARDS: each row of YtencnldflnbdiaaDoorRows.lean that lists a variable, with what it lists TIED to the program's text (the seventh form; the later family's looks); each row that meets fmt, with fmt's text TOLD by the authors' own Lean function (tested against real Go, not proved from fmt's source: count such statements apart). THE CARD IS WHAT COUNTS. Prove the row's statement (the work); the ties are given (YtencnldflnbdiaaDoorTie.lean); close each card by the builder's one call (the guide's Derived/Test/ToyasCard.lean, 'card_holds'). Laid BY PROGRAM, IN A SANDBOX (cutbox-door.mjs). By AI agents, Wed Nov 11 2026. No macro, syntax, notation, axiom, sorry.
-/
import Derived.Test.YtencnldflnbdiaaDoorRows
import GoSem.ClaimSeven
namespace Go.Proofs.YtencnldflnbdiaaDoor
namespace Rows

/-- THE TIED CARD OF 'laws.FnDistances'. -/
def fnDistancesCard : Claim7 := { stood := { row := fnDistancesRow, standIns := [], harness := (true, "e2360a82ee1a87e31b41c63fb88beb317aa015b2d663c3ec8fcb5197c93c83f4"), looks := false }, kinds := [], alts := [], laidByText := true, laidKinds := [.data, .data, .data], laidTests := true, laidLooks := .later }
def FnDistancesCardSaid : Prop := Claim7.holds Tryd.pinned (.plain (OpenSpec.ofChange fnDistancesSpec)) fnDistancesCard

/-- THE TIED CARD OF 'laws.FnHeaviest'. -/
def fnHeaviestCard : Claim7 := { stood := { row := fnHeaviestRow, standIns := [], harness := (true, "e2360a82ee1a87e31b41c63fb88beb317aa015b2d663c3ec8fcb5197c93c83f4"), looks := false }, kinds := [], alts := [], laidByText := true, laidKinds := [.data], laidTests := true, laidLooks := .later }
def FnHeaviestCardSaid : Prop := Claim7.holds Tryd.pinned (.plain (OpenSpec.ofChange fnHeaviestSpec)) fnHeaviestCard

/-- THE TIED CARD OF 'laws.FnExactSignatureOf'. -/
def fnExactSignatureOfCard : Claim7 := { stood := { row := fnExactSignatureOfRow, standIns := [], harness := (true, "e2360a82ee1a87e31b41c63fb88beb317aa015b2d663c3ec8fcb5197c93c83f4"), looks := false }, kinds := [], alts := [], laidByText := true, laidKinds := [.data, .data, .data], laidTests := true, laidLooks := .later }
def FnExactSignatureOfCardSaid : Prop := Claim7.holds Tryd.pinned (.plain (OpenSpec.ofChange fnExactSignatureOfSpec)) fnExactSignatureOfCard

/-- THE TIED CARD OF 'laws.FnExactFractionText'. -/
def fnExactFractionTextCard : Claim7 := { stood := { row := fnExactFractionTextRow, standIns := [], harness := (true, "e2360a82ee1a87e31b41c63fb88beb317aa015b2d663c3ec8fcb5197c93c83f4"), looks := false }, kinds := [], alts := [], laidByText := true, laidKinds := [.data, .data, .data], laidTests := true, laidLooks := .later }
def FnExactFractionTextCardSaid : Prop := Claim7.holds Tryd.pinned (.plain (OpenSpec.ofChange fnExactFractionTextSpec)) fnExactFractionTextCard

/-- THE TIED CARD OF 'laws.FnExactLiftDirections'. -/
def fnExactLiftDirectionsCard : Claim7 := { stood := { row := fnExactLiftDirectionsRow, standIns := [], harness := (true, "e2360a82ee1a87e31b41c63fb88beb317aa015b2d663c3ec8fcb5197c93c83f4"), looks := false }, kinds := [], alts := [], laidByText := true, laidKinds := [.data], laidTests := true, laidLooks := .later }
def FnExactLiftDirectionsCardSaid : Prop := Claim7.holds Tryd.pinned (.plain (OpenSpec.ofChange fnExactLiftDirectionsSpec)) fnExactLiftDirectionsCard

/-- THE TIED CARD OF 'laws.FnExactPersonsText'. -/
def fnExactPersonsTextCard : Claim7 := { stood := { row := fnExactPersonsTextRow, standIns := [], harness := (true, "e2360a82ee1a87e31b41c63fb88beb317aa015b2d663c3ec8fcb5197c93c83f4"), looks := false }, kinds := [], alts := [], laidByText := true, laidKinds := [.data, .data, .data], laidTests := true, laidLooks := .later }
def FnExactPersonsTextCardSaid : Prop := Claim7.holds Tryd.pinned (.plain (OpenSpec.ofChange fnExactPersonsTextSpec)) fnExactPersonsTextCard

/-- THE TIED CARD OF 'laws.FnExactTasksText'. -/
def fnExactTasksTextCard : Claim7 := { stood := { row := fnExactTasksTextRow, standIns := [], harness := (true, "e2360a82ee1a87e31b41c63fb88beb317aa015b2d663c3ec8fcb5197c93c83f4"), looks := false }, kinds := [], alts := [], laidByText := true, laidKinds := [.data, .data, .data], laidTests := true, laidLooks := .later }
def FnExactTasksTextCardSaid : Prop := Claim7.holds Tryd.pinned (.plain (OpenSpec.ofChange fnExactTasksTextSpec)) fnExactTasksTextCard

/-- THE TIED CARD OF 'laws.FnExactClimbsText'. -/
def fnExactClimbsTextCard : Claim7 := { stood := { row := fnExactClimbsTextRow, standIns := [], harness := (true, "e2360a82ee1a87e31b41c63fb88beb317aa015b2d663c3ec8fcb5197c93c83f4"), looks := false }, kinds := [], alts := [], laidByText := true, laidKinds := [.data, .data, .data], laidTests := true, laidLooks := .later }
def FnExactClimbsTextCardSaid : Prop := Claim7.holds Tryd.pinned (.plain (OpenSpec.ofChange fnExactClimbsTextSpec)) fnExactClimbsTextCard

/-- THE SECOND FORM's CARD OF 'laws.FnDistances'. -/
def fnDistancesUptoCard : Claim7 := { stood := { row := fnDistancesUptoRow, standIns := [], harness := (true, "e2360a82ee1a87e31b41c63fb88beb317aa015b2d663c3ec8fcb5197c93c83f4"), looks := false }, kinds := [], alts := [], laidByText := true, laidKinds := [.data, .data, .data], laidTests := true, laidLooks := .later }
def FnDistancesUptoCardSaid : Prop := Claim7.holds Tryd.pinned (.plain (OpenSpec.upto fnDistancesSpec)) fnDistancesUptoCard

/-- THE SECOND FORM's CARD OF 'laws.FnHeaviest'. -/
def fnHeaviestUptoCard : Claim7 := { stood := { row := fnHeaviestUptoRow, standIns := [], harness := (true, "e2360a82ee1a87e31b41c63fb88beb317aa015b2d663c3ec8fcb5197c93c83f4"), looks := false }, kinds := [], alts := [], laidByText := true, laidKinds := [.data], laidTests := true, laidLooks := .later }
def FnHeaviestUptoCardSaid : Prop := Claim7.holds Tryd.pinned (.plain (OpenSpec.upto fnHeaviestSpec)) fnHeaviestUptoCard

/-- THE SECOND FORM's CARD OF 'laws.FnExactSignatureOf'. -/
def fnExactSignatureOfUptoCard : Claim7 := { stood := { row := fnExactSignatureOfUptoRow, standIns := [], harness := (true, "e2360a82ee1a87e31b41c63fb88beb317aa015b2d663c3ec8fcb5197c93c83f4"), looks := false }, kinds := [], alts := [], laidByText := true, laidKinds := [.data, .data, .data], laidTests := true, laidLooks := .later }
def FnExactSignatureOfUptoCardSaid : Prop := Claim7.holds Tryd.pinned (.plain (OpenSpec.upto fnExactSignatureOfSpec)) fnExactSignatureOfUptoCard

/-- THE SECOND FORM's CARD OF 'laws.FnExactFractionText'. -/
def fnExactFractionTextUptoCard : Claim7 := { stood := { row := fnExactFractionTextUptoRow, standIns := [], harness := (true, "e2360a82ee1a87e31b41c63fb88beb317aa015b2d663c3ec8fcb5197c93c83f4"), looks := false }, kinds := [], alts := [], laidByText := true, laidKinds := [.data, .data, .data], laidTests := true, laidLooks := .later }
def FnExactFractionTextUptoCardSaid : Prop := Claim7.holds Tryd.pinned (.plain (OpenSpec.upto fnExactFractionTextSpec)) fnExactFractionTextUptoCard

/-- THE SECOND FORM's CARD OF 'laws.FnExactLiftDirections'. -/
def fnExactLiftDirectionsUptoCard : Claim7 := { stood := { row := fnExactLiftDirectionsUptoRow, standIns := [], harness := (true, "e2360a82ee1a87e31b41c63fb88beb317aa015b2d663c3ec8fcb5197c93c83f4"), looks := false }, kinds := [], alts := [], laidByText := true, laidKinds := [.data], laidTests := true, laidLooks := .later }
def FnExactLiftDirectionsUptoCardSaid : Prop := Claim7.holds Tryd.pinned (.plain (OpenSpec.upto fnExactLiftDirectionsSpec)) fnExactLiftDirectionsUptoCard

/-- THE SECOND FORM's CARD OF 'laws.FnExactPersonsText'. -/
def fnExactPersonsTextUptoCard : Claim7 := { stood := { row := fnExactPersonsTextUptoRow, standIns := [], harness := (true, "e2360a82ee1a87e31b41c63fb88beb317aa015b2d663c3ec8fcb5197c93c83f4"), looks := false }, kinds := [], alts := [], laidByText := true, laidKinds := [.data, .data, .data], laidTests := true, laidLooks := .later }
def FnExactPersonsTextUptoCardSaid : Prop := Claim7.holds Tryd.pinned (.plain (OpenSpec.upto fnExactPersonsTextSpec)) fnExactPersonsTextUptoCard

/-- THE SECOND FORM's CARD OF 'laws.FnExactTasksText'. -/
def fnExactTasksTextUptoCard : Claim7 := { stood := { row := fnExactTasksTextUptoRow, standIns := [], harness := (true, "e2360a82ee1a87e31b41c63fb88beb317aa015b2d663c3ec8fcb5197c93c83f4"), looks := false }, kinds := [], alts := [], laidByText := true, laidKinds := [.data, .data, .data], laidTests := true, laidLooks := .later }
def FnExactTasksTextUptoCardSaid : Prop := Claim7.holds Tryd.pinned (.plain (OpenSpec.upto fnExactTasksTextSpec)) fnExactTasksTextUptoCard

/-- THE SECOND FORM's CARD OF 'laws.FnExactClimbsText'. -/
def fnExactClimbsTextUptoCard : Claim7 := { stood := { row := fnExactClimbsTextUptoRow, standIns := [], harness := (true, "e2360a82ee1a87e31b41c63fb88beb317aa015b2d663c3ec8fcb5197c93c83f4"), looks := false }, kinds := [], alts := [], laidByText := true, laidKinds := [.data, .data, .data], laidTests := true, laidLooks := .later }
def FnExactClimbsTextUptoCardSaid : Prop := Claim7.holds Tryd.pinned (.plain (OpenSpec.upto fnExactClimbsTextSpec)) fnExactClimbsTextUptoCard
end Rows
end Go.Proofs.YtencnldflnbdiaaDoor
