/-
  DERIVED. GIVEN WITH THE SEED: THE CARDS: each row of YtfocpadeflpabaaDoorRows.lean that lists a variable, with what it lists TIED to the program's text (the seventh form; the later family's looks); each row that meets fmt, with fmt's text TOLD by the authors' own Lean function (tested against real Go, not proved from fmt's source: count such statements apart). THE CARD IS WHAT COUNTS. Prove the row's statement (the work); the ties are given (YtfocpadeflpabaaDoorTie.lean); close each card by the builder's one call (the guide's Derived/Test/ToyasCard.lean, 'card_holds'). Laid BY PROGRAM, IN A SANDBOX (cutbox-door.mjs). By AI agents, Wed Nov 11 2026. No macro, syntax, notation, axiom, sorry.
-/
import Derived.Test.YtfocpadeflpabaaDoorRows
import GoSem.ClaimSeven
namespace Go.Proofs.YtfocpadeflpabaaDoor
namespace Rows

/-- THE TIED CARD OF 'belfrylaw17.BagOrder'. -/
def bagOrderCard : Claim7 := { stood := { row := bagOrderRow, standIns := [], harness := (true, "e69ca02330c3297dcd4f78ee44a70c4ed56cb7c7b3748e6010bbdb3d554213a6"), looks := true }, kinds := [], alts := [], laidByText := true, laidKinds := [.data, .data, .data, .sentinel, .sentinel], laidTests := true, laidLooks := .later }
def BagOrderCardSaid : Prop := Claim7.holds Tryd.pinned (.plain (OpenSpec.ofChange bagOrderSpec)) bagOrderCard

/-- THE TIED CARD OF 'belfrylaw17.BagFull'. -/
def bagFullCard : Claim7 := { stood := { row := bagFullRow, standIns := [], harness := (true, "e69ca02330c3297dcd4f78ee44a70c4ed56cb7c7b3748e6010bbdb3d554213a6"), looks := true }, kinds := [], alts := [], laidByText := true, laidKinds := [.data, .data, .data, .sentinel, .sentinel], laidTests := true, laidLooks := .later }
def BagFullCardSaid : Prop := Claim7.holds Tryd.pinned (.plain (OpenSpec.ofChange bagFullSpec)) bagFullCard

/-- THE TIED CARD OF 'belfrylaw17.BagWhole'. -/
def bagWholeCard : Claim7 := { stood := { row := bagWholeRow, standIns := [], harness := (true, "e69ca02330c3297dcd4f78ee44a70c4ed56cb7c7b3748e6010bbdb3d554213a6"), looks := true }, kinds := [], alts := [], laidByText := true, laidKinds := [.data, .data, .data, .sentinel, .sentinel], laidTests := true, laidLooks := .later }
def BagWholeCardSaid : Prop := Claim7.holds Tryd.pinned (.plain (OpenSpec.ofChange bagWholeSpec)) bagWholeCard

/-- THE TIED CARD OF 'belfrylaw17.BagNil'. -/
def bagNilCard : Claim7 := { stood := { row := bagNilRow, standIns := [], harness := (true, "e69ca02330c3297dcd4f78ee44a70c4ed56cb7c7b3748e6010bbdb3d554213a6"), looks := true }, kinds := [], alts := [], laidByText := true, laidKinds := [.data, .data, .data, .sentinel, .sentinel], laidTests := true, laidLooks := .later }
def BagNilCardSaid : Prop := Claim7.holds Tryd.pinned (.plain (OpenSpec.ofChange bagNilSpec)) bagNilCard

/-- THE SECOND FORM's CARD OF 'belfrylaw17.BagOrder'. -/
def bagOrderUptoCard : Claim7 := { stood := { row := bagOrderUptoRow, standIns := [], harness := (true, "e69ca02330c3297dcd4f78ee44a70c4ed56cb7c7b3748e6010bbdb3d554213a6"), looks := true }, kinds := [], alts := [], laidByText := true, laidKinds := [.data, .data, .data, .sentinel, .sentinel], laidTests := true, laidLooks := .later }
def BagOrderUptoCardSaid : Prop := Claim7.holds Tryd.pinned (.plain (OpenSpec.upto bagOrderSpec)) bagOrderUptoCard

/-- THE SECOND FORM's CARD OF 'belfrylaw17.BagFull'. -/
def bagFullUptoCard : Claim7 := { stood := { row := bagFullUptoRow, standIns := [], harness := (true, "e69ca02330c3297dcd4f78ee44a70c4ed56cb7c7b3748e6010bbdb3d554213a6"), looks := true }, kinds := [], alts := [], laidByText := true, laidKinds := [.data, .data, .data, .sentinel, .sentinel], laidTests := true, laidLooks := .later }
def BagFullUptoCardSaid : Prop := Claim7.holds Tryd.pinned (.plain (OpenSpec.upto bagFullSpec)) bagFullUptoCard

/-- THE SECOND FORM's CARD OF 'belfrylaw17.BagWhole'. -/
def bagWholeUptoCard : Claim7 := { stood := { row := bagWholeUptoRow, standIns := [], harness := (true, "e69ca02330c3297dcd4f78ee44a70c4ed56cb7c7b3748e6010bbdb3d554213a6"), looks := true }, kinds := [], alts := [], laidByText := true, laidKinds := [.data, .data, .data, .sentinel, .sentinel], laidTests := true, laidLooks := .later }
def BagWholeUptoCardSaid : Prop := Claim7.holds Tryd.pinned (.plain (OpenSpec.upto bagWholeSpec)) bagWholeUptoCard

/-- THE SECOND FORM's CARD OF 'belfrylaw17.BagNil'. -/
def bagNilUptoCard : Claim7 := { stood := { row := bagNilUptoRow, standIns := [], harness := (true, "e69ca02330c3297dcd4f78ee44a70c4ed56cb7c7b3748e6010bbdb3d554213a6"), looks := true }, kinds := [], alts := [], laidByText := true, laidKinds := [.data, .data, .data, .sentinel, .sentinel], laidTests := true, laidLooks := .later }
def BagNilUptoCardSaid : Prop := Claim7.holds Tryd.pinned (.plain (OpenSpec.upto bagNilSpec)) bagNilUptoCard
end Rows
end Go.Proofs.YtfocpadeflpabaaDoor
