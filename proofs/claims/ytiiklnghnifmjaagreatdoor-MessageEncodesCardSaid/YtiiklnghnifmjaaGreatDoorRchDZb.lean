/- Changes and messages as the document has them: which are right. -/
import Derived.Test.YtiiklnghnifmjaaGreatDoorRefDZb
set_option linter.unusedVariables false
set_option linter.unusedSimpArgs false
namespace Go.Proofs.YtiiklnghnifmjaaGreatDoor.Act
open Go.RowKit Go.Proofs.YtiiklnghnifmjaaGreatDoor.Sx Go.Proofs.YtiiklnghnifmjaaGreatDoor.Cod Go.Proofs.YtiiklnghnifmjaaGreatDoor.Num
def riC (c : ChangeD) : Bool :=
  if c.kind = 1 then nameI c.key && (decide (c.value.length ≤ 60) && decide (c.timer = zT))
  else if c.kind = 2 ∨ c.kind = 4 then nameI c.key && (decide (c.value.length = 0) && decide (c.timer = zT))
  else if c.kind = 3 then decide (c.key.length = 0) && (decide (c.value.length = 0) && rightT c.timer)
  else false
theorem rightC_ref (c : ChangeD) : rightC c = riC c := by
  unfold rightC riC
  rw [bareT_z]
  split
  · cases nameI c.key <;> cases decide (c.timer = zT) <;> simp
  · split
    · cases nameI c.key <;> cases decide (c.timer = zT) <;> simp
    · split
      · rw [Bool.and_assoc]
      · rfl
/-- The nodes, one behind the other. -/
def prevI (l : List Int) (k : Nat) : Int := if k = 0 then -1 else gi l ((k : Int) - 1)
theorem drop_giN {l : List Int} {k : Nat} (hk : k < l.length) : l.drop k = gi l (k : Int) :: l.drop (k + 1) := by
  rw [List.drop_eq_getElem_cons hk]
  congr 1
  have := gi_some (xs := l) (i := (k : Int)) (by omega) (by omega)
  rw [Int.toNat_natCast, List.getElem?_eq_getElem hk] at this
  exact Option.some.inj this
theorem prev_next (l : List Int) (k : Nat) : prevI l (k + 1) = gi l (k : Int) := by
  unfold prevI; rw [if_neg (by omega)]; congr 1; omega
theorem nodes_at {l : List Int} {k : Nat} (hk : k < l.length) : nodesFrom (prevI l k) (l.drop k) = ((decide (prevI l k < gi l (k : Int)) && nodeI (gi l (k : Int))) && nodesFrom (prevI l (k + 1)) (l.drop (k + 1))) := by
  rw [prev_next, drop_giN hk]; rfl
theorem nodes_step {l : List Int} {k : Nat} (hk : k < l.length) (h : nodesFrom (-1) l = nodesFrom (prevI l k) (l.drop k)) (h0 : ¬ gi l (k : Int) < 0) (h1 : ¬ 8 ≤ gi l (k : Int)) (h2 : (k : Int) ≤ 0 ∨ ¬ gi l (k : Int) ≤ gi l ((k : Int) - 1)) : nodesFrom (-1) l = nodesFrom (prevI l (k + 1)) (l.drop (k + 1)) := by
  have hp : prevI l k < gi l (k : Int) := by unfold prevI; split <;> omega
  rw [h, nodes_at hk, decide_eq_true hp]
  unfold nodeI
  rw [decide_eq_true (show 0 ≤ gi l (k : Int) by omega), decide_eq_true (show gi l (k : Int) < 8 by omega)]
  rfl
theorem nodes_bad {l : List Int} {k : Nat} (hk : k < l.length) (h : nodesFrom (-1) l = nodesFrom (prevI l k) (l.drop k)) (hb : gi l (k : Int) < 0 ∨ 8 ≤ gi l (k : Int) ∨ (0 < (k : Int) ∧ gi l (k : Int) ≤ gi l ((k : Int) - 1))) : nodesFrom (-1) l = false := by
  rw [h, nodes_at hk]
  unfold nodeI
  rcases hb with hb | hb | ⟨h1, hb⟩
  · rw [decide_eq_false (show ¬ 0 ≤ gi l (k : Int) by omega)]; simp
  · rw [decide_eq_false (show ¬ gi l (k : Int) < 8 by omega)]; simp
  · have hp : ¬ prevI l k < gi l (k : Int) := by unfold prevI; rw [if_neg (by omega)]; omega
    rw [decide_eq_false hp]; simp
theorem nodes_end {l : List Int} {k : Nat} (hk : k = l.length) (h : nodesFrom (-1) l = nodesFrom (prevI l k) (l.drop k)) : nodesFrom (-1) l = true := by
  subst hk; rw [h, List.drop_length]; rfl
end Go.Proofs.YtiiklnghnifmjaaGreatDoor.Act
