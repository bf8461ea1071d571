/- Clients' requests: what is right, their bytes, their transaction, plain. -/
import Derived.Test.YtiiklnghnifmjaaGreatDoorMsgDZb
set_option linter.unusedVariables false
set_option linter.unusedSimpArgs false
namespace Go.Proofs.YtiiklnghnifmjaaGreatDoor.Act
open Go.RowKit Go.Proofs.YtiiklnghnifmjaaGreatDoor.Sx Go.Proofs.YtiiklnghnifmjaaGreatDoor.Cod Go.Proofs.YtiiklnghnifmjaaGreatDoor.Num
structure OpB (o : OpD) : Prop where
  kind : Fits o.kind
  key : Byte o.key
  step : StepB o.step
  timer : TimerB o.timer
structure SReqB (r : SReqD) : Prop where
  client : Byte r.client
  num : Fits r.num
  ops : ∀ o ∈ r.ops, OpB o
def zT : TimerD := ⟨[], 0, 0, 0, []⟩
theorem zT_B : TimerB zT := ⟨Byte.nil, by decide, by decide, by decide, fun s h => nomatch h⟩
/-! ### which is a client's -/
/-! ### which request is right -/
/-! ### the bytes -/
/-! ### the transaction -/
end Go.Proofs.YtiiklnghnifmjaaGreatDoor.Act
