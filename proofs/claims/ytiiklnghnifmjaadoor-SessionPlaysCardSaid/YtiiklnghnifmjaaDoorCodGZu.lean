/- Bytes as fields: what Decode says. -/
import Derived.Test.YtiiklnghnifmjaaDoorCodEZu
set_option linter.unusedVariables false
set_option linter.unusedSimpArgs false
namespace Go.Proofs.YtiiklnghnifmjaaDoor.Cod
open Go.RowKit Go.Proofs.YtiiklnghnifmjaaDoor.Sx
def Byt (bs : List Int) : Prop := ∀ n ∈ bs, 0 ≤ n ∧ n < 256
theorem Byt.gi {bs : List Int} (h : Byt bs) (i : Int) : 0 ≤ gi bs i ∧ gi bs i < 256 := by
  unfold Sx.gi
  rw [List.getD_eq_getElem?_getD]
  cases hh : bs[i.toNat]? with
  | none => simp
  | some x => exact h x (List.mem_of_getElem? hh)
theorem Byt.drop {bs : List Int} (h : Byt bs) (m : Nat) : Byt (bs.drop m) := fun n hn => h n (List.mem_of_mem_drop hn)
end Go.Proofs.YtiiklnghnifmjaaDoor.Cod
