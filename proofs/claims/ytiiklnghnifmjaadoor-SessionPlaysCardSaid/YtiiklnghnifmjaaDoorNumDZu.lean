/- Numbers' texts: what is a number's text, and which number. -/
import Derived.Test.YtiiklnghnifmjaaDoorStrZu
import Derived.Lib.ItoaNum
import Derived.Lib.ItoaMem
import Derived.Lib.ParseIntBCases
import Derived.Lib.ParseIntBTie
set_option linter.unusedVariables false
set_option linter.unusedSimpArgs false
namespace Go.Proofs.YtiiklnghnifmjaaDoor.Num
open Go.RowKit Go.Proofs.YtiiklnghnifmjaaDoor.Sx Go.Lib
abbrev U8s := List UInt8
def Fits (n : Int) : Prop := -9223372036854775808 ≤ n ∧ n < 9223372036854775808
instance (n : Int) : Decidable (Fits n) := by unfold Fits; infer_instance
/-! ### digits -/
theorem dig8 {d : Nat} (h : d < 10) : (UInt8.ofNat (48 + d)).toNat = 48 + d := by
  rw [UInt8.toNat_ofNat']; omega
/-! ### ParseUint behind itself -/
/-! ### the number of a text -/
def numT (s : U8s) : Option Int := match parseIntB 64 s with | .ok v => if itoa v = s then some v else none | _ => none
/-! ### sums -/
/-! ### the sign of the bits -/
end Go.Proofs.YtiiklnghnifmjaaDoor.Num
