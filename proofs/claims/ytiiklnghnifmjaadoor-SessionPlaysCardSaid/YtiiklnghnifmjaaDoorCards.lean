/-
  DERIVED. GIVEN WITH THE SEED: THE CARDS: each row of YtiiklnghnifmjaaDoorRows.lean that lists a variable, with what it lists TIED to the program's text (the seventh form; the later family's looks); each row that meets fmt, with fmt's text TOLD by the authors' own Lean function (tested against real Go, not proved from fmt's source: count such statements apart). THE CARD IS WHAT COUNTS. Prove the row's statement (the work); the ties are given (YtiiklnghnifmjaaDoorTie.lean); close each card by the builder's one call (the guide's Derived/Test/ToyasCard.lean, 'card_holds'). Laid BY PROGRAM, IN A SANDBOX (cutbox-door.mjs). By AI agents, Wed Nov 11 2026. No macro, syntax, notation, axiom, sorry.
-/
import Derived.Test.YtiiklnghnifmjaaDoorRows
import GoSem.ClaimSeven
namespace Go.Proofs.YtiiklnghnifmjaaDoor
namespace Rows

/-- THE TIED CARD OF 'belfrylaw16.MessageSizes'. -/
def messageSizesCard : Claim7 := { stood := { row := messageSizesRow, standIns := [], harness := (true, "ac837ab959882d9e9007251a1c2e9872b718796a1df04f0b0b198a40374db824"), looks := true }, kinds := [], alts := [], laidByText := true, laidKinds := [.data, .data, .data], laidTests := true, laidLooks := .later }
def MessageSizesCardSaid : Prop := Claim7.holds Tryd.pinned (.plain (OpenSpec.ofChange messageSizesSpec)) messageSizesCard

/-- THE TIED CARD OF 'belfrylaw16.MessageSame'. -/
def messageSameCard : Claim7 := { stood := { row := messageSameRow, standIns := [], harness := (true, "ac837ab959882d9e9007251a1c2e9872b718796a1df04f0b0b198a40374db824"), looks := true }, kinds := [], alts := [], laidByText := true, laidKinds := [.data, .data, .data], laidTests := true, laidLooks := .later }
def MessageSameCardSaid : Prop := Claim7.holds Tryd.pinned (.plain (OpenSpec.ofChange messageSameSpec)) messageSameCard

/-- THE TIED CARD OF 'belfrylaw22.SessionWraps'. -/
def sessionWrapsCard : Claim7 := { stood := { row := sessionWrapsRow, standIns := [], harness := (true, "ac837ab959882d9e9007251a1c2e9872b718796a1df04f0b0b198a40374db824"), looks := true }, kinds := [], alts := [], laidByText := true, laidKinds := [.data, .data, .data], laidTests := true, laidLooks := .later }
def SessionWrapsCardSaid : Prop := Claim7.holds Tryd.pinned (.plain (OpenSpec.ofChange sessionWrapsSpec)) sessionWrapsCard

/-- THE TIED CARD OF 'belfrylaw22.SessionOnce'. -/
def sessionOnceCard : Claim7 := { stood := { row := sessionOnceRow, standIns := [], harness := (true, "ac837ab959882d9e9007251a1c2e9872b718796a1df04f0b0b198a40374db824"), looks := true }, kinds := [], alts := [], laidByText := true, laidKinds := [.data, .data, .data], laidTests := true, laidLooks := .later }
def SessionOnceCardSaid : Prop := Claim7.holds Tryd.pinned (.plain (OpenSpec.ofChange sessionOnceSpec)) sessionOnceCard

/-- THE TIED CARD OF 'belfrylaw22.SessionNil'. -/
def sessionNilCard : Claim7 := { stood := { row := sessionNilRow, standIns := [], harness := (true, "ac837ab959882d9e9007251a1c2e9872b718796a1df04f0b0b198a40374db824"), looks := true }, kinds := [], alts := [], laidByText := true, laidKinds := [.data, .data, .data], laidTests := true, laidLooks := .later }
def SessionNilCardSaid : Prop := Claim7.holds Tryd.pinned (.plain (OpenSpec.ofChange sessionNilSpec)) sessionNilCard

/-- THE TIED CARD OF 'belfrylaw22.SessionPlays'. -/
def sessionPlaysCard : Claim7 := { stood := { row := sessionPlaysRow, standIns := [], harness := (true, "ac837ab959882d9e9007251a1c2e9872b718796a1df04f0b0b198a40374db824"), looks := true }, kinds := [], alts := [], laidByText := true, laidKinds := [.data, .data, .data], laidTests := true, laidLooks := .later }
def SessionPlaysCardSaid : Prop := Claim7.holds Tryd.pinned (.plain (OpenSpec.ofChange sessionPlaysSpec)) sessionPlaysCard

/-- THE TIED CARD OF 'belfrylaw16.MessageBack'. -/
def messageBackCard : Claim7 := { stood := { row := messageBackRow, standIns := [], harness := (true, "ac837ab959882d9e9007251a1c2e9872b718796a1df04f0b0b198a40374db824"), looks := true }, kinds := [], alts := [], laidByText := true, laidKinds := [.data, .data, .data, .sentinel, .sentinel], laidTests := true, laidLooks := .later }
def MessageBackCardSaid : Prop := Claim7.holds Tryd.pinned (.plain (OpenSpec.ofChange messageBackSpec)) messageBackCard

/-- THE TIED CARD OF 'belfrylaw22.SessionBack'. -/
def sessionBackCard : Claim7 := { stood := { row := sessionBackRow, standIns := [], harness := (true, "ac837ab959882d9e9007251a1c2e9872b718796a1df04f0b0b198a40374db824"), looks := true }, kinds := [], alts := [], laidByText := true, laidKinds := [.data, .data, .data, .sentinel, .sentinel], laidTests := true, laidLooks := .later }
def SessionBackCardSaid : Prop := Claim7.holds Tryd.pinned (.plain (OpenSpec.ofChange sessionBackSpec)) sessionBackCard

/-- THE SECOND FORM's CARD OF 'belfrylaw16.MessageSizes'. -/
def messageSizesUptoCard : Claim7 := { stood := { row := messageSizesUptoRow, standIns := [], harness := (true, "ac837ab959882d9e9007251a1c2e9872b718796a1df04f0b0b198a40374db824"), looks := true }, kinds := [], alts := [], laidByText := true, laidKinds := [.data, .data, .data], laidTests := true, laidLooks := .later }
def MessageSizesUptoCardSaid : Prop := Claim7.holds Tryd.pinned (.plain (OpenSpec.upto messageSizesSpec)) messageSizesUptoCard

/-- THE SECOND FORM's CARD OF 'belfrylaw16.MessageSame'. -/
def messageSameUptoCard : Claim7 := { stood := { row := messageSameUptoRow, standIns := [], harness := (true, "ac837ab959882d9e9007251a1c2e9872b718796a1df04f0b0b198a40374db824"), looks := true }, kinds := [], alts := [], laidByText := true, laidKinds := [.data, .data, .data], laidTests := true, laidLooks := .later }
def MessageSameUptoCardSaid : Prop := Claim7.holds Tryd.pinned (.plain (OpenSpec.upto messageSameSpec)) messageSameUptoCard

/-- THE SECOND FORM's CARD OF 'belfrylaw22.SessionWraps'. -/
def sessionWrapsUptoCard : Claim7 := { stood := { row := sessionWrapsUptoRow, standIns := [], harness := (true, "ac837ab959882d9e9007251a1c2e9872b718796a1df04f0b0b198a40374db824"), looks := true }, kinds := [], alts := [], laidByText := true, laidKinds := [.data, .data, .data], laidTests := true, laidLooks := .later }
def SessionWrapsUptoCardSaid : Prop := Claim7.holds Tryd.pinned (.plain (OpenSpec.upto sessionWrapsSpec)) sessionWrapsUptoCard

/-- THE SECOND FORM's CARD OF 'belfrylaw22.SessionOnce'. -/
def sessionOnceUptoCard : Claim7 := { stood := { row := sessionOnceUptoRow, standIns := [], harness := (true, "ac837ab959882d9e9007251a1c2e9872b718796a1df04f0b0b198a40374db824"), looks := true }, kinds := [], alts := [], laidByText := true, laidKinds := [.data, .data, .data], laidTests := true, laidLooks := .later }
def SessionOnceUptoCardSaid : Prop := Claim7.holds Tryd.pinned (.plain (OpenSpec.upto sessionOnceSpec)) sessionOnceUptoCard

/-- THE SECOND FORM's CARD OF 'belfrylaw22.SessionNil'. -/
def sessionNilUptoCard : Claim7 := { stood := { row := sessionNilUptoRow, standIns := [], harness := (true, "ac837ab959882d9e9007251a1c2e9872b718796a1df04f0b0b198a40374db824"), looks := true }, kinds := [], alts := [], laidByText := true, laidKinds := [.data, .data, .data], laidTests := true, laidLooks := .later }
def SessionNilUptoCardSaid : Prop := Claim7.holds Tryd.pinned (.plain (OpenSpec.upto sessionNilSpec)) sessionNilUptoCard

/-- THE SECOND FORM's CARD OF 'belfrylaw22.SessionPlays'. -/
def sessionPlaysUptoCard : Claim7 := { stood := { row := sessionPlaysUptoRow, standIns := [], harness := (true, "ac837ab959882d9e9007251a1c2e9872b718796a1df04f0b0b198a40374db824"), looks := true }, kinds := [], alts := [], laidByText := true, laidKinds := [.data, .data, .data], laidTests := true, laidLooks := .later }
def SessionPlaysUptoCardSaid : Prop := Claim7.holds Tryd.pinned (.plain (OpenSpec.upto sessionPlaysSpec)) sessionPlaysUptoCard

/-- THE SECOND FORM's CARD OF 'belfrylaw16.MessageBack'. -/
def messageBackUptoCard : Claim7 := { stood := { row := messageBackUptoRow, standIns := [], harness := (true, "ac837ab959882d9e9007251a1c2e9872b718796a1df04f0b0b198a40374db824"), looks := true }, kinds := [], alts := [], laidByText := true, laidKinds := [.data, .data, .data, .sentinel, .sentinel], laidTests := true, laidLooks := .later }
def MessageBackUptoCardSaid : Prop := Claim7.holds Tryd.pinned (.plain (OpenSpec.upto messageBackSpec)) messageBackUptoCard

/-- THE SECOND FORM's CARD OF 'belfrylaw22.SessionBack'. -/
def sessionBackUptoCard : Claim7 := { stood := { row := sessionBackUptoRow, standIns := [], harness := (true, "ac837ab959882d9e9007251a1c2e9872b718796a1df04f0b0b198a40374db824"), looks := true }, kinds := [], alts := [], laidByText := true, laidKinds := [.data, .data, .data, .sentinel, .sentinel], laidTests := true, laidLooks := .later }
def SessionBackUptoCardSaid : Prop := Claim7.holds Tryd.pinned (.plain (OpenSpec.upto sessionBackSpec)) sessionBackUptoCard
end Rows
end Go.Proofs.YtiiklnghnifmjaaDoor
