/- Requests as the document has them: what its words say. -/
import Derived.Test.YtiiklnghnifmjaaGreatDoorSesDZb
set_option linter.unusedVariables false
set_option linter.unusedSimpArgs false
namespace Go.Proofs.YtiiklnghnifmjaaGreatDoor.Act
open Go.RowKit Go.Proofs.YtiiklnghnifmjaaGreatDoor.Sx Go.Proofs.YtiiklnghnifmjaaGreatDoor.Cod Go.Proofs.YtiiklnghnifmjaaGreatDoor.Num
theorem bareT_z (t : TimerD) : bareT t = decide (t = zT) := by
  obtain ⟨n, v, k, e, s⟩ := t
  rw [Bool.eq_iff_iff, decide_eq_true_iff]
  simp [bareT, zT, List.length_eq_zero_iff, and_assoc]
theorem rightT_ref (t : TimerD) : rightT t = (nameI t.name && (decide (1 ≤ t.ver) && (decide (t.ver ≤ 1099511627776) && (decide (t.tick ≤ 4611686018427387904) && (decide (t.every ≤ 4611686018427387904) && decide (encE t.steps = 0)))))) := by
  unfold rightT nameI
  rw [Bool.eq_iff_iff]
  simp only [Bool.and_eq_true, decide_eq_true_eq]
  constructor
  · rintro ⟨h1, h2, h3, h4, h5, h6, h7⟩; exact ⟨⟨h2, h3⟩, h4, h5, h6, h7, h1⟩
  · rintro ⟨⟨h2, h3⟩, h4, h5, h6, h7, h1⟩; exact ⟨h1, h2, h3, h4, h5, h6, h7⟩
end Go.Proofs.YtiiklnghnifmjaaGreatDoor.Act
