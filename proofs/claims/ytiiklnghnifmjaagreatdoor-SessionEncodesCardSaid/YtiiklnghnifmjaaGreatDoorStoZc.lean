/- Writing into an element of a row of one's own. -/
import Derived.Test.YtiiklnghnifmjaaGreatDoorFldZc
set_option linter.unusedVariables false
set_option linter.unusedSimpArgs false
namespace Go.Proofs.YtiiklnghnifmjaaGreatDoor.Sx
open Go.RowKit
section
variable {P : Program} {a : Act} {w w0 w' : World} {K : Act → World → Prop} {Q : Exit → Act → World → Prop} {v z : Value} {B : Nat → Prop} {H : List (Nat × Asn)} {ty : TypeId} {pos : String} {af : Array Edge} {x y : Operand} {t : TypeId} {n d : Nat} {by' : Nat} {ag : Bool} {gg : Option (Nat × Bool)} {α : Type} {E : Rep α} {xs : List α} {A : Option Addr} {m c : Nat} {ok : Nat → Prop} {T : TypeId}
end
end Go.Proofs.YtiiklnghnifmjaaGreatDoor.Sx
