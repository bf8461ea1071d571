/- There and back. -/
import Derived.Test.YtiiklnghnifmjaaDoorCodGZu
set_option linter.unusedVariables false
set_option linter.unusedSimpArgs false
namespace Go.Proofs.YtiiklnghnifmjaaDoor.Cod
open Go.RowKit Go.Proofs.YtiiklnghnifmjaaDoor.Sx
end Go.Proofs.YtiiklnghnifmjaaDoor.Cod
