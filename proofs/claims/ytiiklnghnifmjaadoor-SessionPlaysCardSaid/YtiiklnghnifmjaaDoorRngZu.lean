/- The round of a range over a function: what the walks' words need there. -/
import Derived.Test.YtiiklnghnifmjaaDoorFldZu
import Derived.CallsIn
import Derived.RangeFuncIn
import Derived.RangeFuncRecord
import Derived.OrdersIn
set_option linter.unusedVariables false
set_option linter.unusedSimpArgs false
namespace Go.Proofs.YtiiklnghnifmjaaDoor.Sx
open Go.RowKit
theorem x_mkfunc {P : Program} {a : Act} {w : World} {dst : Option Tmp} {ty : TypeId} {pos : String} {af : Array Edge} {gg : Option (Nat × Bool)} {fn : Fn} {cap : Array Operand} {vs : Array Value} (hc : cap.map a.eval = vs) : At P ⟨dst, .makeFunc fn #[] cap, ty, pos, af, gg⟩ a w (.func fn #[] vs) := by
  subst hc
  unfold At
  simp [execOp, Instr.makeFunc, go_sem]
end Go.Proofs.YtiiklnghnifmjaaDoor.Sx
