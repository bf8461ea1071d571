/- A request's transaction: what its law asks, plain. -/
import Derived.Test.YtiiklnghnifmjaaDoorSesDZs
set_option linter.unusedVariables false
namespace Go.Proofs.YtiiklnghnifmjaaDoor.Act
open Go.RowKit Go.Proofs.YtiiklnghnifmjaaDoor.Sx Go.Proofs.YtiiklnghnifmjaaDoor.Cod Go.Proofs.YtiiklnghnifmjaaDoor.Num
end Go.Proofs.YtiiklnghnifmjaaDoor.Act
