/- A piece taken out of a slice of one's own: append over itself, clear. -/
import Derived.Test.YtiiklnghnifmjaaGreatDoorFldZb
set_option linter.unusedVariables false
set_option linter.unusedSimpArgs false
namespace Go.Proofs.YtiiklnghnifmjaaGreatDoor.Sx
open Go.RowKit
section
variable {α : Type} {E : Rep α} {T : TypeId} {P : Program} {w w0 w' : World} {ok : Nat → Prop} {xs : List α} {A : Option Addr} {c : Nat} {t e : TypeId} {z : Value} {by' : Nat} {ag : Bool}
end
section
variable {ds : List Deferred} {P : Program} {a : Act} {w w0 w' : World} {Q : Exit → Act → World → Prop} {nt d : Nat} {L : List (Nat × Value)} {z : Value} {B : Nat → Prop} {H : List (Nat × Asn)} {ty : TypeId} {pos : String} {af : Array Edge} {x y lo : Operand} {t e : TypeId} {by' : Nat} {ag : Bool}
  {α : Type} {E : Rep α} {ok : Nat → Prop} {xs : List α} {A : Option Addr} {c : Nat} {gg : Option (Nat × Bool)} {K : Act → World → Prop} {dst : Option Tmp}
end
end Go.Proofs.YtiiklnghnifmjaaGreatDoor.Sx
