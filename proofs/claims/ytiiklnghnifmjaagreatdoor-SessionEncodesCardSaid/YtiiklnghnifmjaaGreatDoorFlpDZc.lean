/- A byte that is another one is always found, plain. -/
import Derived.Test.YtiiklnghnifmjaaGreatDoorSdcDZc
import Derived.Test.YtiiklnghnifmjaaGreatDoorCrcBZc
set_option linter.unusedVariables false
set_option linter.unusedSimpArgs false
namespace Go.Proofs.YtiiklnghnifmjaaGreatDoor.Act
open Go.RowKit Go.Proofs.YtiiklnghnifmjaaGreatDoor.Sx Go.Proofs.YtiiklnghnifmjaaGreatDoor.Cod Go.Proofs.YtiiklnghnifmjaaGreatDoor.Num
theorem sreq_same {x y : SReqD} : x = y ↔ x.client = y.client ∧ x.num = y.num ∧ x.ops = y.ops := by cases x; cases y; simp
end Go.Proofs.YtiiklnghnifmjaaGreatDoor.Act
