/-
  No cell of these rows narrows 'for every input' (looked for: loops, veiled, ifaces, maps, wideKeys, modest, calm, conditions, laid).
  DERIVED. THE GIVEN ROWS OF THIS SEAT. 11 by the template 'for every input the law returns true; each argument reads behind the call as it read before'; 0 by the template 'total and deterministic' (their statements: YtkocinnoncacgaaTotals.lean).
  GIVEN WITH THE SEED: the statements are not yours to turn. If you find one false, say at which input.
  Laid BY PROGRAM, IN A SANDBOX (cutbox-rows.mjs): the forced cells as the released guide's own fill.sh prints them over the translation cbac6b15da233ba7… (all of the seat's roots in one cut). By AI agents, Wed Nov 11 2026. No macro, syntax, notation, axiom, sorry.
-/
import Derived.Test.YtkocinnoncacgaaChecked
import GoSem.Claim
import GoSem.ClaimJoined
import GoSem.ClaimMapViews
import Derived.JoinedTies
import Derived.KernelRfl
namespace Go.Proofs.Ytkocinnoncacgaa
/- THE CELL 'sum', in the pinned program and in every row, IS THE sha256 OF THE DUMP (.gsa) THAT YtkocinnoncacgaaProg.lean LOADS. Nothing in Lean hashes anything: it is a label: what it is worth is what the hold of that sum in a sandbox is worth. -/
noncomputable def Try.pinned : Pinned := { name := "ytkocinnoncacgaa", sum := "cbac6b15da233ba7e0ea7a40a9d6649844dbd60dde551fc5ee4f4b053e270703", checked := Try.checked }
namespace Rows
def none {H : Type} : Left H := { results := [], args := [] }

/-- 'belfrylaw13.LockOrder': WHATEVER THE INPUT: true; the input reads as it did. -/
def lockOrderSpec : ChangeSpec := { name := "lockOrder", fn := fun _ => fun
  | [d] => { results := [.lit (.bool true)], args := [d] }
  | _ => none }
def lockOrderRow : OpenClaim := { program := "ytkocinnoncacgaa", sum := "cbac6b15da233ba7e0ea7a40a9d6649844dbd60dde551fc5ee4f4b053e270703", func := "belfry/belfrylaw13.LockOrder", spec := "lockOrder", inPlace := ["slices.overlaps[belfry/lock.Request]"], unfollowed := true, recurses := true, apart := false }
def LockOrderSaid : Prop := lockOrderRow.holds Try.pinned (OpenSpec.ofChange lockOrderSpec)

/-- ITS FALSE NEIGHBOUR: 'it returns false'. Refute it at one input. -/
def lockOrderWrong : ChangeSpec := { name := "lockOrder", fn := fun _ => fun
  | [d] => { results := [.lit (.bool false)], args := [d] }
  | _ => none }
def LockOrderWrongFalsely : Prop := lockOrderRow.holds Try.pinned (OpenSpec.ofChange lockOrderWrong)

/-- 'belfrylaw03.DiskPieces': WHATEVER THE INPUT: true; the input reads as it did. -/
def diskPiecesSpec : ChangeSpec := { name := "diskPieces", fn := fun _ => fun
  | [d1, d2, d3] => { results := [.lit (.bool true)], args := [d1, d2, d3] }
  | _ => none }
def diskPiecesRow : OpenClaim := { program := "ytkocinnoncacgaa", sum := "cbac6b15da233ba7e0ea7a40a9d6649844dbd60dde551fc5ee4f4b053e270703", func := "belfry/belfrylaw03.DiskPieces", spec := "diskPieces", unfollowed := true, recurses := true, apart := false }
def DiskPiecesSaid : Prop := diskPiecesRow.holds Try.pinned (OpenSpec.ofChange diskPiecesSpec)

/-- ITS FALSE NEIGHBOUR: 'it returns false'. Refute it at one input. -/
def diskPiecesWrong : ChangeSpec := { name := "diskPieces", fn := fun _ => fun
  | [d1, d2, d3] => { results := [.lit (.bool false)], args := [d1, d2, d3] }
  | _ => none }
def DiskPiecesWrongFalsely : Prop := diskPiecesRow.holds Try.pinned (OpenSpec.ofChange diskPiecesWrong)

/-- 'belfrylaw03.DiskSafe': WHATEVER THE INPUT: true; the input reads as it did. -/
def diskSafeSpec : ChangeSpec := { name := "diskSafe", fn := fun _ => fun
  | [d1, d2, d3] => { results := [.lit (.bool true)], args := [d1, d2, d3] }
  | _ => none }
def diskSafeRow : OpenClaim := { program := "ytkocinnoncacgaa", sum := "cbac6b15da233ba7e0ea7a40a9d6649844dbd60dde551fc5ee4f4b053e270703", func := "belfry/belfrylaw03.DiskSafe", spec := "diskSafe", unfollowed := true, recurses := true, apart := false }
def DiskSafeSaid : Prop := diskSafeRow.holds Try.pinned (OpenSpec.ofChange diskSafeSpec)

/-- ITS FALSE NEIGHBOUR: 'it returns false'. Refute it at one input. -/
def diskSafeWrong : ChangeSpec := { name := "diskSafe", fn := fun _ => fun
  | [d1, d2, d3] => { results := [.lit (.bool false)], args := [d1, d2, d3] }
  | _ => none }
def DiskSafeWrongFalsely : Prop := diskSafeRow.holds Try.pinned (OpenSpec.ofChange diskSafeWrong)

/-- 'belfrylaw03.DiskPlays': WHATEVER THE INPUT: true; the input reads as it did. -/
def diskPlaysSpec : ChangeSpec := { name := "diskPlays", fn := fun _ => fun
  | [d] => { results := [.lit (.bool true)], args := [d] }
  | _ => none }
def diskPlaysRow : OpenClaim := { program := "ytkocinnoncacgaa", sum := "cbac6b15da233ba7e0ea7a40a9d6649844dbd60dde551fc5ee4f4b053e270703", func := "belfry/belfrylaw03.DiskPlays", spec := "diskPlays", unfollowed := true, recurses := true, apart := false }
def DiskPlaysSaid : Prop := diskPlaysRow.holds Try.pinned (OpenSpec.ofChange diskPlaysSpec)

/-- ITS FALSE NEIGHBOUR: 'it returns false'. Refute it at one input. -/
def diskPlaysWrong : ChangeSpec := { name := "diskPlays", fn := fun _ => fun
  | [d] => { results := [.lit (.bool false)], args := [d] }
  | _ => none }
def DiskPlaysWrongFalsely : Prop := diskPlaysRow.holds Try.pinned (OpenSpec.ofChange diskPlaysWrong)

/-- 'belfrylaw03.DiskApart': WHATEVER THE INPUT: true; the input reads as it did. -/
def diskApartSpec : ChangeSpec := { name := "diskApart", fn := fun _ => fun
  | [d1, d2] => { results := [.lit (.bool true)], args := [d1, d2] }
  | _ => none }
def diskApartRow : OpenClaim := { program := "ytkocinnoncacgaa", sum := "cbac6b15da233ba7e0ea7a40a9d6649844dbd60dde551fc5ee4f4b053e270703", func := "belfry/belfrylaw03.DiskApart", spec := "diskApart", unfollowed := true, recurses := true, apart := false }
def DiskApartSaid : Prop := diskApartRow.holds Try.pinned (OpenSpec.ofChange diskApartSpec)

/-- ITS FALSE NEIGHBOUR: 'it returns false'. Refute it at one input. -/
def diskApartWrong : ChangeSpec := { name := "diskApart", fn := fun _ => fun
  | [d1, d2] => { results := [.lit (.bool false)], args := [d1, d2] }
  | _ => none }
def DiskApartWrongFalsely : Prop := diskApartRow.holds Try.pinned (OpenSpec.ofChange diskApartWrong)

/-- 'belfrylaw03.DiskNil': WHATEVER THE INPUT: true; the input reads as it did. -/
def diskNilSpec : ChangeSpec := { name := "diskNil", fn := fun _ => fun
  | [d] => { results := [.lit (.bool true)], args := [d] }
  | _ => none }
def diskNilRow : OpenClaim := { program := "ytkocinnoncacgaa", sum := "cbac6b15da233ba7e0ea7a40a9d6649844dbd60dde551fc5ee4f4b053e270703", func := "belfry/belfrylaw03.DiskNil", spec := "diskNil", unfollowed := true, recurses := true, apart := false }
def DiskNilSaid : Prop := diskNilRow.holds Try.pinned (OpenSpec.ofChange diskNilSpec)

/-- ITS FALSE NEIGHBOUR: 'it returns false'. Refute it at one input. -/
def diskNilWrong : ChangeSpec := { name := "diskNil", fn := fun _ => fun
  | [d] => { results := [.lit (.bool false)], args := [d] }
  | _ => none }
def DiskNilWrongFalsely : Prop := diskNilRow.holds Try.pinned (OpenSpec.ofChange diskNilWrong)

/-- 'belfrylaw13.LockOdds': WHATEVER THE INPUT: true; the input reads as it did. -/
def lockOddsSpec : ChangeSpec := { name := "lockOdds", fn := fun _ => fun
  | [d] => { results := [.lit (.bool true)], args := [d] }
  | _ => none }
def lockOddsRow : OpenClaim := { program := "ytkocinnoncacgaa", sum := "cbac6b15da233ba7e0ea7a40a9d6649844dbd60dde551fc5ee4f4b053e270703", func := "belfry/belfrylaw13.LockOdds", spec := "lockOdds", inPlace := ["slices.overlaps[belfry/lock.Request]"], unfollowed := true, recurses := true, apart := false }
def LockOddsSaid : Prop := lockOddsRow.holds Try.pinned (OpenSpec.ofChange lockOddsSpec)

/-- ITS FALSE NEIGHBOUR: 'it returns false'. Refute it at one input. -/
def lockOddsWrong : ChangeSpec := { name := "lockOdds", fn := fun _ => fun
  | [d] => { results := [.lit (.bool false)], args := [d] }
  | _ => none }
def LockOddsWrongFalsely : Prop := lockOddsRow.holds Try.pinned (OpenSpec.ofChange lockOddsWrong)

/-- 'belfrylaw13.LockEnds': WHATEVER THE INPUT: true; the input reads as it did. -/
def lockEndsSpec : ChangeSpec := { name := "lockEnds", fn := fun _ => fun
  | [d] => { results := [.lit (.bool true)], args := [d] }
  | _ => none }
def lockEndsRow : OpenClaim := { program := "ytkocinnoncacgaa", sum := "cbac6b15da233ba7e0ea7a40a9d6649844dbd60dde551fc5ee4f4b053e270703", func := "belfry/belfrylaw13.LockEnds", spec := "lockEnds", inPlace := ["slices.overlaps[belfry/lock.Request]"], unfollowed := true, recurses := true, apart := false }
def LockEndsSaid : Prop := lockEndsRow.holds Try.pinned (OpenSpec.ofChange lockEndsSpec)

/-- ITS FALSE NEIGHBOUR: 'it returns false'. Refute it at one input. -/
def lockEndsWrong : ChangeSpec := { name := "lockEnds", fn := fun _ => fun
  | [d] => { results := [.lit (.bool false)], args := [d] }
  | _ => none }
def LockEndsWrongFalsely : Prop := lockEndsRow.holds Try.pinned (OpenSpec.ofChange lockEndsWrong)

/-- 'belfrylaw13.LockUpgrades': WHATEVER THE INPUT: true; the input reads as it did. -/
def lockUpgradesSpec : ChangeSpec := { name := "lockUpgrades", fn := fun _ => fun
  | [d1, d2, d3] => { results := [.lit (.bool true)], args := [d1, d2, d3] }
  | _ => none }
def lockUpgradesRow : OpenClaim := { program := "ytkocinnoncacgaa", sum := "cbac6b15da233ba7e0ea7a40a9d6649844dbd60dde551fc5ee4f4b053e270703", func := "belfry/belfrylaw13.LockUpgrades", spec := "lockUpgrades", inPlace := ["slices.overlaps[belfry/lock.Request]"], unfollowed := true, recurses := true, apart := false }
def LockUpgradesSaid : Prop := lockUpgradesRow.holds Try.pinned (OpenSpec.ofChange lockUpgradesSpec)

/-- ITS FALSE NEIGHBOUR: 'it returns false'. Refute it at one input. -/
def lockUpgradesWrong : ChangeSpec := { name := "lockUpgrades", fn := fun _ => fun
  | [d1, d2, d3] => { results := [.lit (.bool false)], args := [d1, d2, d3] }
  | _ => none }
def LockUpgradesWrongFalsely : Prop := lockUpgradesRow.holds Try.pinned (OpenSpec.ofChange lockUpgradesWrong)

/-- 'belfrylaw13.LockPlays': WHATEVER THE INPUT: true; the input reads as it did. -/
def lockPlaysSpec : ChangeSpec := { name := "lockPlays", fn := fun _ => fun
  | [d] => { results := [.lit (.bool true)], args := [d] }
  | _ => none }
def lockPlaysRow : OpenClaim := { program := "ytkocinnoncacgaa", sum := "cbac6b15da233ba7e0ea7a40a9d6649844dbd60dde551fc5ee4f4b053e270703", func := "belfry/belfrylaw13.LockPlays", spec := "lockPlays", inPlace := ["slices.overlaps[belfry/lock.Request]"], unfollowed := true, recurses := true, apart := false }
def LockPlaysSaid : Prop := lockPlaysRow.holds Try.pinned (OpenSpec.ofChange lockPlaysSpec)

/-- ITS FALSE NEIGHBOUR: 'it returns false'. Refute it at one input. -/
def lockPlaysWrong : ChangeSpec := { name := "lockPlays", fn := fun _ => fun
  | [d] => { results := [.lit (.bool false)], args := [d] }
  | _ => none }
def LockPlaysWrongFalsely : Prop := lockPlaysRow.holds Try.pinned (OpenSpec.ofChange lockPlaysWrong)

/-- 'belfrylaw13.LockNil': WHATEVER THE INPUT: true; the input reads as it did. -/
def lockNilSpec : ChangeSpec := { name := "lockNil", fn := fun _ => fun
  | [d] => { results := [.lit (.bool true)], args := [d] }
  | _ => none }
def lockNilRow : OpenClaim := { program := "ytkocinnoncacgaa", sum := "cbac6b15da233ba7e0ea7a40a9d6649844dbd60dde551fc5ee4f4b053e270703", func := "belfry/belfrylaw13.LockNil", spec := "lockNil", inPlace := ["slices.overlaps[belfry/lock.Request]"], unfollowed := true, recurses := true, apart := false }
def LockNilSaid : Prop := lockNilRow.holds Try.pinned (OpenSpec.ofChange lockNilSpec)

/-- ITS FALSE NEIGHBOUR: 'it returns false'. Refute it at one input. -/
def lockNilWrong : ChangeSpec := { name := "lockNil", fn := fun _ => fun
  | [d] => { results := [.lit (.bool false)], args := [d] }
  | _ => none }
def LockNilWrongFalsely : Prop := lockNilRow.holds Try.pinned (OpenSpec.ofChange lockNilWrong)

/- THE SECOND FORM. 'bulk': how many values and letters a reading holds, each counted each time it is reached (what is shared counts as often as it is met; a slice's spare places count too). A statement '..UptoSaid' is the law's where the arguments, and the package variables that the reading takes, are together of bulk at most 1048576: NARROWER than '..Said'. Prove '..Said' where nothing that the law and all that it calls make is longer than what came in: it says more and counts as full. Else prove '..UptoSaid'. A law counts once. -/
mutual
def uptoBulk {H : Type} : DataW H → Nat
  | .lit (.string bytes) => bytes.length + 1
  | .lit _ => 1
  | .nil => 1
  | .ptr d => uptoBulk d + 1
  | .slice elems spare => uptoBulkAll elems + uptoBulkAll spare + 1
  | .agg parts => uptoBulkAll parts + 1
  | .iface _ d => uptoBulk d + 1
  | .map entries => uptoBulkEntries entries + 1
  | .held _ => 1
def uptoBulkAll {H : Type} : List (DataW H) → Nat
  | [] => 0
  | d :: r => uptoBulk d + uptoBulkAll r
def uptoBulkEntries {H : Type} : List (Lit × DataW H) → Nat
  | [] => 0
  | x :: r => uptoBulkEntry x + uptoBulkEntries r
def uptoBulkEntry {H : Type} : Lit × DataW H → Nat
  | (.string bytes, d) => bytes.length + uptoBulk d + 1
  | (_, d) => uptoBulk d + 1
 end
def uptoSmall : (H : Type) → List (DataW H) → Bool := fun _ ds => decide (uptoBulkAll ds ≤ 1048576)
def OpenSpec.upto (s : _root_.Go.ChangeSpec) : _root_.Go.OpenSpec := { _root_.Go.OpenSpec.ofChange s with cond := some uptoSmall }

/-- 'belfrylaw13.LockOrder', WHERE WHAT IT READS IS OF BULK AT MOST 1048576: true; the input reads as it did. -/
def lockOrderUptoRow : OpenClaim := { program := "ytkocinnoncacgaa", sum := "cbac6b15da233ba7e0ea7a40a9d6649844dbd60dde551fc5ee4f4b053e270703", func := "belfry/belfrylaw13.LockOrder", spec := "lockOrder", inPlace := ["slices.overlaps[belfry/lock.Request]"], unfollowed := true, recurses := true, apart := false, narrowed := true }
def LockOrderUptoSaid : Prop := lockOrderUptoRow.holds Try.pinned (OpenSpec.upto lockOrderSpec)

/-- 'belfrylaw03.DiskPieces', WHERE WHAT IT READS IS OF BULK AT MOST 1048576: true; the input reads as it did. -/
def diskPiecesUptoRow : OpenClaim := { program := "ytkocinnoncacgaa", sum := "cbac6b15da233ba7e0ea7a40a9d6649844dbd60dde551fc5ee4f4b053e270703", func := "belfry/belfrylaw03.DiskPieces", spec := "diskPieces", unfollowed := true, recurses := true, apart := false, narrowed := true }
def DiskPiecesUptoSaid : Prop := diskPiecesUptoRow.holds Try.pinned (OpenSpec.upto diskPiecesSpec)

/-- 'belfrylaw03.DiskSafe', WHERE WHAT IT READS IS OF BULK AT MOST 1048576: true; the input reads as it did. -/
def diskSafeUptoRow : OpenClaim := { program := "ytkocinnoncacgaa", sum := "cbac6b15da233ba7e0ea7a40a9d6649844dbd60dde551fc5ee4f4b053e270703", func := "belfry/belfrylaw03.DiskSafe", spec := "diskSafe", unfollowed := true, recurses := true, apart := false, narrowed := true }
def DiskSafeUptoSaid : Prop := diskSafeUptoRow.holds Try.pinned (OpenSpec.upto diskSafeSpec)

/-- 'belfrylaw03.DiskPlays', WHERE WHAT IT READS IS OF BULK AT MOST 1048576: true; the input reads as it did. -/
def diskPlaysUptoRow : OpenClaim := { program := "ytkocinnoncacgaa", sum := "cbac6b15da233ba7e0ea7a40a9d6649844dbd60dde551fc5ee4f4b053e270703", func := "belfry/belfrylaw03.DiskPlays", spec := "diskPlays", unfollowed := true, recurses := true, apart := false, narrowed := true }
def DiskPlaysUptoSaid : Prop := diskPlaysUptoRow.holds Try.pinned (OpenSpec.upto diskPlaysSpec)

/-- 'belfrylaw03.DiskApart', WHERE WHAT IT READS IS OF BULK AT MOST 1048576: true; the input reads as it did. -/
def diskApartUptoRow : OpenClaim := { program := "ytkocinnoncacgaa", sum := "cbac6b15da233ba7e0ea7a40a9d6649844dbd60dde551fc5ee4f4b053e270703", func := "belfry/belfrylaw03.DiskApart", spec := "diskApart", unfollowed := true, recurses := true, apart := false, narrowed := true }
def DiskApartUptoSaid : Prop := diskApartUptoRow.holds Try.pinned (OpenSpec.upto diskApartSpec)

/-- 'belfrylaw03.DiskNil', WHERE WHAT IT READS IS OF BULK AT MOST 1048576: true; the input reads as it did. -/
def diskNilUptoRow : OpenClaim := { program := "ytkocinnoncacgaa", sum := "cbac6b15da233ba7e0ea7a40a9d6649844dbd60dde551fc5ee4f4b053e270703", func := "belfry/belfrylaw03.DiskNil", spec := "diskNil", unfollowed := true, recurses := true, apart := false, narrowed := true }
def DiskNilUptoSaid : Prop := diskNilUptoRow.holds Try.pinned (OpenSpec.upto diskNilSpec)

/-- 'belfrylaw13.LockOdds', WHERE WHAT IT READS IS OF BULK AT MOST 1048576: true; the input reads as it did. -/
def lockOddsUptoRow : OpenClaim := { program := "ytkocinnoncacgaa", sum := "cbac6b15da233ba7e0ea7a40a9d6649844dbd60dde551fc5ee4f4b053e270703", func := "belfry/belfrylaw13.LockOdds", spec := "lockOdds", inPlace := ["slices.overlaps[belfry/lock.Request]"], unfollowed := true, recurses := true, apart := false, narrowed := true }
def LockOddsUptoSaid : Prop := lockOddsUptoRow.holds Try.pinned (OpenSpec.upto lockOddsSpec)

/-- 'belfrylaw13.LockEnds', WHERE WHAT IT READS IS OF BULK AT MOST 1048576: true; the input reads as it did. -/
def lockEndsUptoRow : OpenClaim := { program := "ytkocinnoncacgaa", sum := "cbac6b15da233ba7e0ea7a40a9d6649844dbd60dde551fc5ee4f4b053e270703", func := "belfry/belfrylaw13.LockEnds", spec := "lockEnds", inPlace := ["slices.overlaps[belfry/lock.Request]"], unfollowed := true, recurses := true, apart := false, narrowed := true }
def LockEndsUptoSaid : Prop := lockEndsUptoRow.holds Try.pinned (OpenSpec.upto lockEndsSpec)

/-- 'belfrylaw13.LockUpgrades', WHERE WHAT IT READS IS OF BULK AT MOST 1048576: true; the input reads as it did. -/
def lockUpgradesUptoRow : OpenClaim := { program := "ytkocinnoncacgaa", sum := "cbac6b15da233ba7e0ea7a40a9d6649844dbd60dde551fc5ee4f4b053e270703", func := "belfry/belfrylaw13.LockUpgrades", spec := "lockUpgrades", inPlace := ["slices.overlaps[belfry/lock.Request]"], unfollowed := true, recurses := true, apart := false, narrowed := true }
def LockUpgradesUptoSaid : Prop := lockUpgradesUptoRow.holds Try.pinned (OpenSpec.upto lockUpgradesSpec)

/-- 'belfrylaw13.LockPlays', WHERE WHAT IT READS IS OF BULK AT MOST 1048576: true; the input reads as it did. -/
def lockPlaysUptoRow : OpenClaim := { program := "ytkocinnoncacgaa", sum := "cbac6b15da233ba7e0ea7a40a9d6649844dbd60dde551fc5ee4f4b053e270703", func := "belfry/belfrylaw13.LockPlays", spec := "lockPlays", inPlace := ["slices.overlaps[belfry/lock.Request]"], unfollowed := true, recurses := true, apart := false, narrowed := true }
def LockPlaysUptoSaid : Prop := lockPlaysUptoRow.holds Try.pinned (OpenSpec.upto lockPlaysSpec)

/-- 'belfrylaw13.LockNil', WHERE WHAT IT READS IS OF BULK AT MOST 1048576: true; the input reads as it did. -/
def lockNilUptoRow : OpenClaim := { program := "ytkocinnoncacgaa", sum := "cbac6b15da233ba7e0ea7a40a9d6649844dbd60dde551fc5ee4f4b053e270703", func := "belfry/belfrylaw13.LockNil", spec := "lockNil", inPlace := ["slices.overlaps[belfry/lock.Request]"], unfollowed := true, recurses := true, apart := false, narrowed := true }
def LockNilUptoSaid : Prop := lockNilUptoRow.holds Try.pinned (OpenSpec.upto lockNilSpec)

end Rows
end Go.Proofs.Ytkocinnoncacgaa
