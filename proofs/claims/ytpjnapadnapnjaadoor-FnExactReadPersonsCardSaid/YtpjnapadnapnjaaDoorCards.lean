/-
  DERIVED. GIVEN WITH THE SEED: THE CARDS: each row of YtpjnapadnapnjaaDoorRows.lean that lists a variable, with what it lists TIED to the program's text (the seventh form; the later family's looks); each row that meets fmt, with fmt's text TOLD by the authors' own Lean function (tested against real Go, not proved from fmt's source: count such statements apart). THE CARD IS WHAT COUNTS. Prove the row's statement (the work); the ties are given (YtpjnapadnapnjaaDoorTie.lean); close each card by the builder's one call (the guide's Derived/Test/ToyasCard.lean, 'card_holds'). Laid BY PROGRAM, IN A SANDBOX (cutbox-door.mjs). By AI agents, Wed Nov 11 2026. No macro, syntax, notation, axiom, sorry.
-/
import Derived.Test.YtpjnapadnapnjaaDoorRows
import GoSem.ClaimSeven
namespace Go.Proofs.YtpjnapadnapnjaaDoor
namespace Rows

/-- THE TIED CARD OF 'laws.FnExactReadClimbs'. -/
def fnExactReadClimbsCard : Claim7 := { stood := { row := fnExactReadClimbsRow, standIns := [], harness := (true, "954963be412634884ed8d5ed536577ac7f35067c0bbed10cf58f4821a96e4ab9"), looks := true }, kinds := [], alts := [], laidByText := true, laidKinds := [.data, .data, .data, .sentinel, .sentinel], laidTests := true, laidLooks := .later }
def FnExactReadClimbsCardSaid : Prop := Claim7.holds Tryd.pinned (.plain (OpenSpec.ofChange fnExactReadClimbsSpec)) fnExactReadClimbsCard

/-- THE TIED CARD OF 'laws.FnExactReadPersons'. -/
def fnExactReadPersonsCard : Claim7 := { stood := { row := fnExactReadPersonsRow, standIns := [], harness := (true, "954963be412634884ed8d5ed536577ac7f35067c0bbed10cf58f4821a96e4ab9"), looks := true }, kinds := [], alts := [], laidByText := true, laidKinds := [.data, .data, .data, .sentinel, .sentinel], laidTests := true, laidLooks := .later }
def FnExactReadPersonsCardSaid : Prop := Claim7.holds Tryd.pinned (.plain (OpenSpec.ofChange fnExactReadPersonsSpec)) fnExactReadPersonsCard

/-- THE SECOND FORM's CARD OF 'laws.FnExactReadClimbs'. -/
def fnExactReadClimbsUptoCard : Claim7 := { stood := { row := fnExactReadClimbsUptoRow, standIns := [], harness := (true, "954963be412634884ed8d5ed536577ac7f35067c0bbed10cf58f4821a96e4ab9"), looks := true }, kinds := [], alts := [], laidByText := true, laidKinds := [.data, .data, .data, .sentinel, .sentinel], laidTests := true, laidLooks := .later }
def FnExactReadClimbsUptoCardSaid : Prop := Claim7.holds Tryd.pinned (.plain (OpenSpec.upto fnExactReadClimbsSpec)) fnExactReadClimbsUptoCard

/-- THE SECOND FORM's CARD OF 'laws.FnExactReadPersons'. -/
def fnExactReadPersonsUptoCard : Claim7 := { stood := { row := fnExactReadPersonsUptoRow, standIns := [], harness := (true, "954963be412634884ed8d5ed536577ac7f35067c0bbed10cf58f4821a96e4ab9"), looks := true }, kinds := [], alts := [], laidByText := true, laidKinds := [.data, .data, .data, .sentinel, .sentinel], laidTests := true, laidLooks := .later }
def FnExactReadPersonsUptoCardSaid : Prop := Claim7.holds Tryd.pinned (.plain (OpenSpec.upto fnExactReadPersonsSpec)) fnExactReadPersonsUptoCard
end Rows
end Go.Proofs.YtpjnapadnapnjaaDoor
