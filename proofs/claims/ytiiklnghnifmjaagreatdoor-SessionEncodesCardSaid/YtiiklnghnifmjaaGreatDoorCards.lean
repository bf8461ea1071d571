/-
  DERIVED. GIVEN WITH THE SEED: THE CARDS: each row of YtiiklnghnifmjaaGreatDoorRows.lean that lists a variable, with what it lists TIED to the program's text (the seventh form; the later family's looks); each row that meets fmt, with fmt's text TOLD by the authors' own Lean function (tested against real Go, not proved from fmt's source: count such statements apart). THE CARD IS WHAT COUNTS. Prove the row's statement (the work); the ties are given (YtiiklnghnifmjaaGreatDoorTie.lean); close each card by the builder's one call (the guide's Derived/Test/ToyasCard.lean, 'card_holds'). Laid BY PROGRAM, IN A SANDBOX (cutbox-door.mjs). By AI agents, Wed Nov 11 2026. No macro, syntax, notation, axiom, sorry.
-/
import Derived.Test.YtiiklnghnifmjaaGreatDoorRows
import GoSem.ClaimSeven
namespace Go.Proofs.YtiiklnghnifmjaaGreatDoor
namespace Rows

/-- THE TIED CARD OF 'belfrylaw16.MessageEncodes'. -/
def messageEncodesCard : Claim7 := { stood := { row := messageEncodesRow, standIns := [], harness := (true, "5640e52bce20bc0ffd7ff72c427af4a7d75dfcea1c3f5871d9a9e24762618c1e"), looks := true }, kinds := [], alts := [], laidByText := true, laidKinds := [.data, .data, .data, .sentinel, .sentinel], laidTests := true, laidLooks := .later }
def MessageEncodesCardSaid : Prop := Claim7.holds Tryz.pinned (.plain (OpenSpec.ofChange messageEncodesSpec)) messageEncodesCard

/-- THE TIED CARD OF 'belfrylaw22.SessionEncodes'. -/
def sessionEncodesCard : Claim7 := { stood := { row := sessionEncodesRow, standIns := [], harness := (true, "5640e52bce20bc0ffd7ff72c427af4a7d75dfcea1c3f5871d9a9e24762618c1e"), looks := true }, kinds := [], alts := [], laidByText := true, laidKinds := [.data, .data, .data, .sentinel, .sentinel], laidTests := true, laidLooks := .later }
def SessionEncodesCardSaid : Prop := Claim7.holds Tryz.pinned (.plain (OpenSpec.ofChange sessionEncodesSpec)) sessionEncodesCard

/-- THE SECOND FORM's CARD OF 'belfrylaw16.MessageEncodes'. -/
def messageEncodesUptoCard : Claim7 := { stood := { row := messageEncodesUptoRow, standIns := [], harness := (true, "5640e52bce20bc0ffd7ff72c427af4a7d75dfcea1c3f5871d9a9e24762618c1e"), looks := true }, kinds := [], alts := [], laidByText := true, laidKinds := [.data, .data, .data, .sentinel, .sentinel], laidTests := true, laidLooks := .later }
def MessageEncodesUptoCardSaid : Prop := Claim7.holds Tryz.pinned (.plain (OpenSpec.upto messageEncodesSpec)) messageEncodesUptoCard

/-- THE SECOND FORM's CARD OF 'belfrylaw22.SessionEncodes'. -/
def sessionEncodesUptoCard : Claim7 := { stood := { row := sessionEncodesUptoRow, standIns := [], harness := (true, "5640e52bce20bc0ffd7ff72c427af4a7d75dfcea1c3f5871d9a9e24762618c1e"), looks := true }, kinds := [], alts := [], laidByText := true, laidKinds := [.data, .data, .data, .sentinel, .sentinel], laidTests := true, laidLooks := .later }
def SessionEncodesUptoCardSaid : Prop := Claim7.holds Tryz.pinned (.plain (OpenSpec.upto sessionEncodesSpec)) sessionEncodesUptoCard
end Rows
end Go.Proofs.YtiiklnghnifmjaaGreatDoor
