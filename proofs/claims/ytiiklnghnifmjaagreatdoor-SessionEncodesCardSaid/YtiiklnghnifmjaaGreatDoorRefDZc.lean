/- Requests as the document has them: what its words say. -/
import Derived.Test.YtiiklnghnifmjaaGreatDoorSesDZc
set_option linter.unusedVariables false
set_option linter.unusedSimpArgs false
namespace Go.Proofs.YtiiklnghnifmjaaGreatDoor.Act
open Go.RowKit Go.Proofs.YtiiklnghnifmjaaGreatDoor.Sx Go.Proofs.YtiiklnghnifmjaaGreatDoor.Cod Go.Proofs.YtiiklnghnifmjaaGreatDoor.Num
theorem bareT_z (t : TimerD) : bareT t = decide (t = zT) := by
  obtain ⟨n, v, k, e, s⟩ := t
  rw [Bool.eq_iff_iff, decide_eq_true_iff]
  simp [bareT, zT, List.length_eq_zero_iff, and_assoc]
theorem wrap_up {n : Int} (h : Fits n) : decide (IntKind.i64.wrap (n + 1) = 1) = decide (n = 0) := by
  rw [Bool.eq_iff_iff, decide_eq_true_iff, decide_eq_true_iff]
  obtain ⟨h1, h2⟩ := h
  constructor
  · intro hw
    by_cases hn : n + 1 < 9223372036854775808
    · rw [w64 (by omega) (by omega)] at hw; omega
    · have : n = 9223372036854775807 := by omega
      subst this
      exact absurd hw (by decide)
  · rintro rfl; decide
def ovR (o : OpD) : Bool :=
  if o.kind = 1 ∨ o.kind = 4 then nameI o.key && (decide (o.step = zS) && decide (o.timer = zT))
  else if o.kind = 2 then decide (o.key.length = 0) && (decide (o.timer = zT) && rightS o.step)
  else if o.kind = 3 then decide (o.key.length = 0) && (decide (o.step = zS) && (decide (o.timer.ver = 0) && rightT (verOne o.timer)))
  else false
theorem overO_ref {o : OpD} (hb : OpB o) : overO o = ovR o := by
  unfold overO ovR
  rw [bareT_z, wrap_up hb.timer.ver]
  by_cases hv : o.timer.ver = 0
  · rw [verUp_one hv]
  · rw [decide_eq_false hv]; simp
theorem rightT_ref (t : TimerD) : rightT t = (nameI t.name && (decide (1 ≤ t.ver) && (decide (t.ver ≤ 1099511627776) && (decide (t.tick ≤ 4611686018427387904) && (decide (t.every ≤ 4611686018427387904) && decide (encE t.steps = 0)))))) := by
  unfold rightT nameI
  rw [Bool.eq_iff_iff]
  simp only [Bool.and_eq_true, decide_eq_true_eq]
  constructor
  · rintro ⟨h1, h2, h3, h4, h5, h6, h7⟩; exact ⟨⟨h2, h3⟩, h4, h5, h6, h7, h1⟩
  · rintro ⟨⟨h2, h3⟩, h4, h5, h6, h7, h1⟩; exact ⟨h1, h2, h3, h4, h5, h6, h7⟩
theorem ours_gi {xs : List Int} (h : 1 ≤ xs.length) : oursI xs = decide (gi xs 0 = 64) := by
  cases xs with
  | nil => simp at h
  | cons x xs => simp [oursI, gi]
theorem ours_gi1 {xs : List Int} (h : 2 ≤ xs.length) : oursI (xs.drop 1) = decide (gi xs 1 = 64) := by
  rcases xs with _ | ⟨x, _ | ⟨y, ys⟩⟩
  · simp at h
  · simp at h
  · simp [oursI, gi]
theorem wrongO_short {o : OpD} (hb : OpB o) (h : ((lockT o).length : Int) < 2) : wrongO o = true := by
  have : lockT o = [] := by
    cases ho : overO o with
    | false => exact lockT_no ho
    | true => have := (lockT_len hb ho).1; omega
  unfold wrongO; rw [this]; rfl
theorem wrongO_name {o : OpD} (h0 : ¬ ((lockT o).length : Int) < 2) (h : gi (lockT o) 1 = 64) : wrongO o = true := by
  unfold wrongO; rw [ours_gi1 (by omega), decide_eq_true h]; simp
theorem wrongO_step {o : OpD} {s : StepD} (hs : s ∈ o.timer.steps) (h1 : 1 ≤ s.2.1.length) (h : gi s.2.1 0 = 64) : wrongO o = true := by
  have : (o.timer.steps.any fun s => oursI s.2.1) = true := List.any_eq_true.2 ⟨s, hs, by rw [ours_gi h1]; exact decide_eq_true h⟩
  unfold wrongO; rw [this]; simp
theorem wrongO_right {o : OpD} (h0 : ¬ ((lockT o).length : Int) < 2) (h : ¬ gi (lockT o) 1 = 64) (hs : (o.timer.steps.any fun s => oursI s.2.1) = false) : wrongO o = false := by
  unfold wrongO; rw [hs, ours_gi1 (by omega), decide_eq_false h, decide_eq_false (fun e => by rw [e] at h0; simp at h0)]; rfl
theorem rightQ_all {r : SReqD} (h1 : ¬ (r.client.length : Int) < 1) (h2 : ¬ (15 : Int) < r.client.length) (h3 : ¬ r.num < 1) (h4 : ¬ 1099511627776 < r.num) (h5 : ¬ (r.ops.length : Int) < 1) (h6 : ¬ (14 : Int) < r.ops.length) : rightQ r = !r.ops.any wrongO := by
  unfold rightQ
  cases r.ops.any wrongO <;> (rw [Bool.eq_iff_iff]; simp [-List.length_eq_zero_iff]) <;> omega
theorem rightQ_not {r : SReqD} (h : (r.client.length : Int) < 1 ∨ (15 : Int) < r.client.length ∨ r.num < 1 ∨ 1099511627776 < r.num ∨ (r.ops.length : Int) < 1 ∨ (14 : Int) < r.ops.length) : rightQ r = false := by
  cases hr : rightQ r with
  | false => rfl
  | true => obtain ⟨a1, a2, a3, a4, a5, a6, _⟩ := rightQ_parts hr; omega
theorem rightQ_bad {r : SReqD} {o : OpD} (h : o ∈ r.ops) (hw : wrongO o = true) : rightQ r = false := by
  cases hr : rightQ r with
  | false => rfl
  | true => have := (rightQ_parts hr).2.2.2.2.2.2 o h; rw [this] at hw; cases hw
end Go.Proofs.YtiiklnghnifmjaaGreatDoor.Act
