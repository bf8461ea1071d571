/- Fields: the laws over lists of fields. -/
import Derived.Test.YtiiklnghnifmjaaGreatDoorCodDZc
import Derived.Test.YtiiklnghnifmjaaGreatDoorStoZc
set_option linter.unusedVariables false
set_option linter.unusedSimpArgs false
namespace Go.Proofs.YtiiklnghnifmjaaGreatDoor.Cod
open Go.RowKit Go.Proofs.YtiiklnghnifmjaaGreatDoor.Sx
/-! ### How long a list is -/
/-! ### Same -/
def sameP (xs ys : List Fld) (i : Nat) : Bool := decide ((gf xs (i : Int)).1 = (gf ys (i : Int)).1) && decide (strOfNums (gf xs (i : Int)).2 = strOfNums (gf ys (i : Int)).2)
def sameI (xs ys : List Fld) : Bool := decide (xs.length = ys.length) && (List.range xs.length).all (sameP xs ys)
theorem same_len {xs ys : List Fld} (h : ¬ (xs.length : Int) = ys.length) : sameI xs ys = false := by unfold sameI; rw [decide_eq_false (by omega)]; rfl
theorem same_step {xs ys : List Fld} {k : Nat} (h : (List.range k).all (sameP xs ys) = true) (h2 : sameP xs ys k = true) : (List.range (k + 1)).all (sameP xs ys) = true := by
  rw [List.range_succ, List.all_append, h]; simp [h2]
theorem same_yes {xs ys : List Fld} (h : (xs.length : Int) = ys.length) (h2 : (List.range xs.length).all (sameP xs ys) = true) : sameI xs ys = true := by
  unfold sameI; rw [decide_eq_true (by omega), h2]; rfl
theorem quo256i {n : Nat} (h : n < 9223372036854775808) : IntKind.i64.wrap ((n : Int).tdiv 256) = (n : Int) / 256 := by
  rw [Int.tdiv_eq_ediv_of_nonneg (by omega), IntKind.wrap_i64]
  omega
theorem rem256i (n : Nat) : (n : Int).tmod 256 = (n : Int) % 256 := Int.tmod_eq_emod_of_nonneg (by omega)
end Go.Proofs.YtiiklnghnifmjaaGreatDoor.Cod
