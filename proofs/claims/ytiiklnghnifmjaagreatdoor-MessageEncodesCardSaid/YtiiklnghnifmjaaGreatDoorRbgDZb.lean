/- The bag as the document has it: what lies in memory. -/
import Derived.Test.YtiiklnghnifmjaaGreatDoorBagDZb
set_option linter.unusedVariables false
set_option linter.unusedSimpArgs false
namespace Go.Proofs.YtiiklnghnifmjaaGreatDoor.Act
open Go.RowKit Go.Proofs.YtiiklnghnifmjaaGreatDoor.Sx Go.Proofs.YtiiklnghnifmjaaGreatDoor.Cod Go.Proofs.YtiiklnghnifmjaaGreatDoor.Num
structure RWayD where
  m : MessageD
  epoch : Int
deriving DecidableEq
def RWayD.tup (x : RWayD) : MessageD × Int := (x.m, x.epoch)
/-! ### Which messages are right, from what was looked at -/
theorem in_step {l : List Int} {d : Int} {k : Nat} (hk : (k : Int) < l.length) : decide (d ∈ l.take (k + 1)) = (decide (d ∈ l.take k) || decide (gi l (k : Int) = d)) := by
  have hk' : k < l.length := by omega
  have hg : l[k] = gi l (k : Int) := by
    have := gi_some (xs := l) (i := (k : Int)) (by omega) hk
    rw [Int.toNat_natCast, List.getElem?_eq_getElem hk'] at this
    exact Option.some.inj this
  rw [List.take_succ_eq_append_getElem hk', hg, Bool.eq_iff_iff]
  simp only [List.mem_append, List.mem_singleton, Bool.or_eq_true, decide_eq_true_eq]
  constructor
  · rintro (h | h)
    · exact .inl h
    · exact .inr h.symm
  · rintro (h | h)
    · exact .inl h
    · exact .inr h.symm
section
variable {m : MessageD}
theorem rightM_out (h : m.kind < 1 ∨ 7 < m.kind ∨ m.src < 0 ∨ 8 ≤ m.src ∨ m.dst < 0 ∨ 8 ≤ m.dst ∨ m.tx < 1 ∨ 1099511627776 < m.tx) : rightM m = false := by
  cases hr : rightM m with
  | false => rfl
  | true => have R := rightM_parts hr; have := R.kind; have := R.src; have := R.dst; have := R.tx; omega
theorem rightM_in (h : 1 ≤ m.kind ∧ m.kind ≤ 7 ∧ 0 ≤ m.src ∧ m.src < 8 ∧ 0 ≤ m.dst ∧ m.dst < 8 ∧ 1 ≤ m.tx ∧ m.tx ≤ 1099511627776) :
    rightM m = (if m.kind = 1 then (decide (m.dst ∈ m.nodes) && nodesFrom (-1) m.nodes) && (decide (m.changes.length ≤ 32) && m.changes.all rightC) else decide (m.nodes.length = 0) && decide (m.changes.length = 0)) := by
  obtain ⟨h1, h2, h3, h4, h5, h6, h7, h8⟩ := h
  unfold rightM nodeI
  rw [decide_eq_true h1, decide_eq_true h2, decide_eq_true h3, decide_eq_true h4, decide_eq_true h5, decide_eq_true h6, decide_eq_true h7, decide_eq_true h8]
  rfl
theorem rightM_no1 (hk : m.kind = 1) (h : (nodesFrom (-1) m.nodes && decide ((0 : Int) < (m.nodes.length : Int))) = false) : rightM m = false := by
  cases hr : rightM m with
  | false => rfl
  | true =>
    obtain ⟨h1, h2, _⟩ := (rightM_parts hr).prep hk
    have := List.length_pos_of_mem h1
    rw [h2, decide_eq_true (by omega)] at h; cases h
theorem rightM_no2 (hk : m.kind = 1) {b : Bool} (hb : b = decide (m.dst ∈ m.nodes)) (h : b = false) : rightM m = false := by
  cases hr : rightM m with
  | false => rfl
  | true => obtain ⟨h1, h2, _⟩ := (rightM_parts hr).prep hk; rw [hb, decide_eq_true h1] at h; cases h
theorem rightM_no3 (hk : m.kind = 1) (h : (32 : Int) < (m.changes.length : Int)) : rightM m = false := by
  cases hr : rightM m with
  | false => rfl
  | true => obtain ⟨_, _, h3, _⟩ := (rightM_parts hr).prep hk; omega
theorem rightM_no4 (hk : m.kind = 1) {j : Nat} (hj : (j : Int) < m.changes.length) (h : rightC (gchg m.changes (j : Int)) = false) : rightM m = false := by
  cases hr : rightM m with
  | false => rfl
  | true => obtain ⟨_, _, _, h4⟩ := (rightM_parts hr).prep hk; rw [right_bad hj h] at h4; cases h4
theorem rightM_yes (h : 1 ≤ m.kind ∧ m.kind ≤ 7 ∧ 0 ≤ m.src ∧ m.src < 8 ∧ 0 ≤ m.dst ∧ m.dst < 8 ∧ 1 ≤ m.tx ∧ m.tx ≤ 1099511627776) (hk : m.kind = 1) (h1 : (nodesFrom (-1) m.nodes && decide ((0 : Int) < (m.nodes.length : Int))) = true) {b : Bool} (hb : b = decide (m.dst ∈ m.nodes)) (h2 : b = true) (h3 : ¬ (32 : Int) < (m.changes.length : Int)) (h4 : m.changes.all rightC = true) : rightM m = true := by
  rw [Bool.and_eq_true] at h1
  rw [rightM_in h, if_pos hk, ← hb, h2, h1.1, h4, decide_eq_true (show m.changes.length ≤ 32 by omega)]
  rfl
end
end Go.Proofs.YtiiklnghnifmjaaGreatDoor.Act
