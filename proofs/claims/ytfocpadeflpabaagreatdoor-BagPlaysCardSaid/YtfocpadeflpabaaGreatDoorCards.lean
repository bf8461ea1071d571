/-
  DERIVED. GIVEN WITH THE SEED: THE CARDS: each row of YtfocpadeflpabaaGreatDoorRows.lean that lists a variable, with what it lists TIED to the program's text (the seventh form; the later family's looks); each row that meets fmt, with fmt's text TOLD by the authors' own Lean function (tested against real Go, not proved from fmt's source: count such statements apart). THE CARD IS WHAT COUNTS. Prove the row's statement (the work); the ties are given (YtfocpadeflpabaaGreatDoorTie.lean); close each card by the builder's one call (the guide's Derived/Test/ToyasCard.lean, 'card_holds'). Laid BY PROGRAM, IN A SANDBOX (cutbox-door.mjs). By AI agents, Wed Nov 11 2026. No macro, syntax, notation, axiom, sorry.
-/
import Derived.Test.YtfocpadeflpabaaGreatDoorRows
import GoSem.ClaimSeven
namespace Go.Proofs.YtfocpadeflpabaaGreatDoor
namespace Rows

/-- THE TIED CARD OF 'belfrylaw17.BagPlays'. -/
def bagPlaysCard : Claim7 := { stood := { row := bagPlaysRow, standIns := [], harness := (true, "38bb9f82e82dc0a8a7280707b57d6b0bff8835b14490173225f2590baeec51e3"), looks := true }, kinds := [], alts := [], laidByText := true, laidKinds := [.data, .data, .data, .sentinel, .sentinel], laidTests := true, laidLooks := .later }
def BagPlaysCardSaid : Prop := Claim7.holds Tryz.pinned (.plain (OpenSpec.ofChange bagPlaysSpec)) bagPlaysCard

/-- THE SECOND FORM's CARD OF 'belfrylaw17.BagPlays'. -/
def bagPlaysUptoCard : Claim7 := { stood := { row := bagPlaysUptoRow, standIns := [], harness := (true, "38bb9f82e82dc0a8a7280707b57d6b0bff8835b14490173225f2590baeec51e3"), looks := true }, kinds := [], alts := [], laidByText := true, laidKinds := [.data, .data, .data, .sentinel, .sentinel], laidTests := true, laidLooks := .later }
def BagPlaysUptoCardSaid : Prop := Claim7.holds Tryz.pinned (.plain (OpenSpec.upto bagPlaysSpec)) bagPlaysUptoCard
end Rows
end Go.Proofs.YtfocpadeflpabaaGreatDoor
