/-
  DERIVED. GIVEN WITH THE SEED: THE CARDS: each row of YtjcpjkdadigkpaaDoorRows.lean that lists a variable, with what it lists TIED to the program's text (the seventh form; the later family's looks); each row that meets fmt, with fmt's text TOLD by the authors' own Lean function (tested against real Go, not proved from fmt's source: count such statements apart). THE CARD IS WHAT COUNTS. Prove the row's statement (the work); the ties are given (YtjcpjkdadigkpaaDoorTie.lean); close each card by the builder's one call (the guide's Derived/Test/ToyasCard.lean, 'card_holds'). Laid BY PROGRAM, IN A SANDBOX (cutbox-door.mjs). By AI agents, Wed Nov 11 2026. No macro, syntax, notation, axiom, sorry.
-/
import Derived.Test.YtjcpjkdadigkpaaDoorRows
import GoSem.ClaimSeven
namespace Go.Proofs.YtjcpjkdadigkpaaDoor
namespace Rows

/-- THE TIED CARD OF 'belfrylaw02.CrcSums'. -/
def crcSumsCard : Claim7 := { stood := { row := crcSumsRow, standIns := [], harness := (true, "983352cbd0a319dfb2a67ad78592091c3fe648a321e5caa80bec54d44af68381"), looks := false }, kinds := [], alts := [], laidByText := true, laidKinds := [.data], laidTests := true, laidLooks := .later }
def CrcSumsCardSaid : Prop := Claim7.holds Tryd.pinned (.plain (OpenSpec.ofChange crcSumsSpec)) crcSumsCard

/-- THE TIED CARD OF 'belfrylaw02.CrcPieces'. -/
def crcPiecesCard : Claim7 := { stood := { row := crcPiecesRow, standIns := [], harness := (true, "983352cbd0a319dfb2a67ad78592091c3fe648a321e5caa80bec54d44af68381"), looks := false }, kinds := [], alts := [], laidByText := true, laidKinds := [.data], laidTests := true, laidLooks := .later }
def CrcPiecesCardSaid : Prop := Claim7.holds Tryd.pinned (.plain (OpenSpec.ofChange crcPiecesSpec)) crcPiecesCard

/-- THE TIED CARD OF 'belfrylaw02.CrcNoughts'. -/
def crcNoughtsCard : Claim7 := { stood := { row := crcNoughtsRow, standIns := [], harness := (true, "983352cbd0a319dfb2a67ad78592091c3fe648a321e5caa80bec54d44af68381"), looks := false }, kinds := [], alts := [], laidByText := true, laidKinds := [.data], laidTests := true, laidLooks := .later }
def CrcNoughtsCardSaid : Prop := Claim7.holds Tryd.pinned (.plain (OpenSpec.ofChange crcNoughtsSpec)) crcNoughtsCard

/-- THE SECOND FORM's CARD OF 'belfrylaw02.CrcSums'. -/
def crcSumsUptoCard : Claim7 := { stood := { row := crcSumsUptoRow, standIns := [], harness := (true, "983352cbd0a319dfb2a67ad78592091c3fe648a321e5caa80bec54d44af68381"), looks := false }, kinds := [], alts := [], laidByText := true, laidKinds := [.data], laidTests := true, laidLooks := .later }
def CrcSumsUptoCardSaid : Prop := Claim7.holds Tryd.pinned (.plain (OpenSpec.upto crcSumsSpec)) crcSumsUptoCard

/-- THE SECOND FORM's CARD OF 'belfrylaw02.CrcPieces'. -/
def crcPiecesUptoCard : Claim7 := { stood := { row := crcPiecesUptoRow, standIns := [], harness := (true, "983352cbd0a319dfb2a67ad78592091c3fe648a321e5caa80bec54d44af68381"), looks := false }, kinds := [], alts := [], laidByText := true, laidKinds := [.data], laidTests := true, laidLooks := .later }
def CrcPiecesUptoCardSaid : Prop := Claim7.holds Tryd.pinned (.plain (OpenSpec.upto crcPiecesSpec)) crcPiecesUptoCard

/-- THE SECOND FORM's CARD OF 'belfrylaw02.CrcNoughts'. -/
def crcNoughtsUptoCard : Claim7 := { stood := { row := crcNoughtsUptoRow, standIns := [], harness := (true, "983352cbd0a319dfb2a67ad78592091c3fe648a321e5caa80bec54d44af68381"), looks := false }, kinds := [], alts := [], laidByText := true, laidKinds := [.data], laidTests := true, laidLooks := .later }
def CrcNoughtsUptoCardSaid : Prop := Claim7.holds Tryd.pinned (.plain (OpenSpec.upto crcNoughtsSpec)) crcNoughtsUptoCard
end Rows
end Go.Proofs.YtjcpjkdadigkpaaDoor
