/- The walks of codec. -/
import Derived.Test.YtiiklnghnifmjaaDoorCodAZu
import Derived.Test.YtiiklnghnifmjaaDoorIterZu
import Derived.Test.YtiiklnghnifmjaaDoorCodGZu
set_option linter.unusedVariables false
set_option linter.unusedSimpArgs false
namespace Go.Proofs.YtiiklnghnifmjaaDoor.Cod
open Go.RowKit Go.Proofs.YtiiklnghnifmjaaDoor.Sx
theorem ty29 : TyI Tryd.prog 29 (.int .i64 0) 1 8 false := ⟨by kernel_rfl, _, Tryd.underlying29, rfl⟩
theorem ty100 : TyI Tryd.prog 100 (.slice none 0 0) 1 24 false := ⟨by kernel_rfl, _, Tryd.underlying100, rfl⟩
end Go.Proofs.YtiiklnghnifmjaaDoor.Cod
