/-
  DERIVED. GIVEN WITH THE SEED: THE CARDS: each row of YtlcnoibjhmflnaaDoorRows.lean that lists a variable, with what it lists TIED to the program's text (the seventh form; the later family's looks); each row that meets fmt, with fmt's text TOLD by the authors' own Lean function (tested against real Go, not proved from fmt's source: count such statements apart). THE CARD IS WHAT COUNTS. Prove the row's statement (the work); the ties are given (YtlcnoibjhmflnaaDoorTie.lean); close each card by the builder's one call (the guide's Derived/Test/ToyasCard.lean, 'card_holds'). Laid BY PROGRAM, IN A SANDBOX (cutbox-door.mjs). By AI agents, Wed Nov 11 2026. No macro, syntax, notation, axiom, sorry.
-/
import Derived.Test.YtlcnoibjhmflnaaDoorRows
import GoSem.ClaimSeven
namespace Go.Proofs.YtlcnoibjhmflnaaDoor
namespace Rows

/-- THE TIED CARD OF 'belfrylaw09.ActionSums'. -/
def actionSumsCard : Claim7 := { stood := { row := actionSumsRow, standIns := [], harness := (true, "34816eab76a2dd33e271af5ccfbbb6cff79025d599a8d6922a1ad8e05655c170"), looks := true }, kinds := [], alts := [], laidByText := true, laidKinds := [.data, .data, .data, .sentinel, .sentinel], laidTests := true, laidLooks := .later }
def ActionSumsCardSaid : Prop := Claim7.holds Tryd.pinned (.plain (OpenSpec.ofChange actionSumsSpec)) actionSumsCard

/-- THE TIED CARD OF 'belfrylaw09.ActionEncodes'. -/
def actionEncodesCard : Claim7 := { stood := { row := actionEncodesRow, standIns := [], harness := (true, "34816eab76a2dd33e271af5ccfbbb6cff79025d599a8d6922a1ad8e05655c170"), looks := true }, kinds := [], alts := [], laidByText := true, laidKinds := [.data, .data, .data, .sentinel, .sentinel], laidTests := true, laidLooks := .later }
def ActionEncodesCardSaid : Prop := Claim7.holds Tryd.pinned (.plain (OpenSpec.ofChange actionEncodesSpec)) actionEncodesCard

/-- THE TIED CARD OF 'belfrylaw09.ActionBack'. -/
def actionBackCard : Claim7 := { stood := { row := actionBackRow, standIns := [], harness := (true, "34816eab76a2dd33e271af5ccfbbb6cff79025d599a8d6922a1ad8e05655c170"), looks := true }, kinds := [], alts := [], laidByText := true, laidKinds := [.data, .data, .data, .sentinel, .sentinel], laidTests := true, laidLooks := .later }
def ActionBackCardSaid : Prop := Claim7.holds Tryd.pinned (.plain (OpenSpec.ofChange actionBackSpec)) actionBackCard

/-- THE TIED CARD OF 'belfrylaw09.ActionLast'. -/
def actionLastCard : Claim7 := { stood := { row := actionLastRow, standIns := [], harness := (true, "34816eab76a2dd33e271af5ccfbbb6cff79025d599a8d6922a1ad8e05655c170"), looks := true }, kinds := [], alts := [], laidByText := true, laidKinds := [.data, .data, .data, .sentinel, .sentinel], laidTests := true, laidLooks := .later }
def ActionLastCardSaid : Prop := Claim7.holds Tryd.pinned (.plain (OpenSpec.ofChange actionLastSpec)) actionLastCard

/-- THE TIED CARD OF 'belfrylaw09.ActionDoes'. -/
def actionDoesCard : Claim7 := { stood := { row := actionDoesRow, standIns := [], harness := (true, "34816eab76a2dd33e271af5ccfbbb6cff79025d599a8d6922a1ad8e05655c170"), looks := true }, kinds := [], alts := [], laidByText := true, laidKinds := [.data, .data, .data, .sentinel, .sentinel], laidTests := true, laidLooks := .later }
def ActionDoesCardSaid : Prop := Claim7.holds Tryd.pinned (.plain (OpenSpec.ofChange actionDoesSpec)) actionDoesCard

/-- THE TIED CARD OF 'belfrylaw09.ActionWhole'. -/
def actionWholeCard : Claim7 := { stood := { row := actionWholeRow, standIns := [], harness := (true, "34816eab76a2dd33e271af5ccfbbb6cff79025d599a8d6922a1ad8e05655c170"), looks := true }, kinds := [], alts := [], laidByText := true, laidKinds := [.data, .data, .data, .sentinel, .sentinel], laidTests := true, laidLooks := .later }
def ActionWholeCardSaid : Prop := Claim7.holds Tryd.pinned (.plain (OpenSpec.ofChange actionWholeSpec)) actionWholeCard

/-- THE SECOND FORM's CARD OF 'belfrylaw09.ActionSums'. -/
def actionSumsUptoCard : Claim7 := { stood := { row := actionSumsUptoRow, standIns := [], harness := (true, "34816eab76a2dd33e271af5ccfbbb6cff79025d599a8d6922a1ad8e05655c170"), looks := true }, kinds := [], alts := [], laidByText := true, laidKinds := [.data, .data, .data, .sentinel, .sentinel], laidTests := true, laidLooks := .later }
def ActionSumsUptoCardSaid : Prop := Claim7.holds Tryd.pinned (.plain (OpenSpec.upto actionSumsSpec)) actionSumsUptoCard

/-- THE SECOND FORM's CARD OF 'belfrylaw09.ActionEncodes'. -/
def actionEncodesUptoCard : Claim7 := { stood := { row := actionEncodesUptoRow, standIns := [], harness := (true, "34816eab76a2dd33e271af5ccfbbb6cff79025d599a8d6922a1ad8e05655c170"), looks := true }, kinds := [], alts := [], laidByText := true, laidKinds := [.data, .data, .data, .sentinel, .sentinel], laidTests := true, laidLooks := .later }
def ActionEncodesUptoCardSaid : Prop := Claim7.holds Tryd.pinned (.plain (OpenSpec.upto actionEncodesSpec)) actionEncodesUptoCard

/-- THE SECOND FORM's CARD OF 'belfrylaw09.ActionBack'. -/
def actionBackUptoCard : Claim7 := { stood := { row := actionBackUptoRow, standIns := [], harness := (true, "34816eab76a2dd33e271af5ccfbbb6cff79025d599a8d6922a1ad8e05655c170"), looks := true }, kinds := [], alts := [], laidByText := true, laidKinds := [.data, .data, .data, .sentinel, .sentinel], laidTests := true, laidLooks := .later }
def ActionBackUptoCardSaid : Prop := Claim7.holds Tryd.pinned (.plain (OpenSpec.upto actionBackSpec)) actionBackUptoCard

/-- THE SECOND FORM's CARD OF 'belfrylaw09.ActionLast'. -/
def actionLastUptoCard : Claim7 := { stood := { row := actionLastUptoRow, standIns := [], harness := (true, "34816eab76a2dd33e271af5ccfbbb6cff79025d599a8d6922a1ad8e05655c170"), looks := true }, kinds := [], alts := [], laidByText := true, laidKinds := [.data, .data, .data, .sentinel, .sentinel], laidTests := true, laidLooks := .later }
def ActionLastUptoCardSaid : Prop := Claim7.holds Tryd.pinned (.plain (OpenSpec.upto actionLastSpec)) actionLastUptoCard

/-- THE SECOND FORM's CARD OF 'belfrylaw09.ActionDoes'. -/
def actionDoesUptoCard : Claim7 := { stood := { row := actionDoesUptoRow, standIns := [], harness := (true, "34816eab76a2dd33e271af5ccfbbb6cff79025d599a8d6922a1ad8e05655c170"), looks := true }, kinds := [], alts := [], laidByText := true, laidKinds := [.data, .data, .data, .sentinel, .sentinel], laidTests := true, laidLooks := .later }
def ActionDoesUptoCardSaid : Prop := Claim7.holds Tryd.pinned (.plain (OpenSpec.upto actionDoesSpec)) actionDoesUptoCard

/-- THE SECOND FORM's CARD OF 'belfrylaw09.ActionWhole'. -/
def actionWholeUptoCard : Claim7 := { stood := { row := actionWholeUptoRow, standIns := [], harness := (true, "34816eab76a2dd33e271af5ccfbbb6cff79025d599a8d6922a1ad8e05655c170"), looks := true }, kinds := [], alts := [], laidByText := true, laidKinds := [.data, .data, .data, .sentinel, .sentinel], laidTests := true, laidLooks := .later }
def ActionWholeUptoCardSaid : Prop := Claim7.holds Tryd.pinned (.plain (OpenSpec.upto actionWholeSpec)) actionWholeUptoCard
end Rows
end Go.Proofs.YtlcnoibjhmflnaaDoor
