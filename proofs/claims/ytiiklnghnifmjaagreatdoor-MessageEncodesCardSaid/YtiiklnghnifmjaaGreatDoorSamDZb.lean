/- Lists alike, messages alike, plain. -/
import Derived.Test.YtiiklnghnifmjaaGreatDoorMsgDZb
set_option linter.unusedVariables false
namespace Go.Proofs.YtiiklnghnifmjaaGreatDoor.Act
open Go.RowKit Go.Proofs.YtiiklnghnifmjaaGreatDoor.Sx Go.Proofs.YtiiklnghnifmjaaGreatDoor.Cod Go.Proofs.YtiiklnghnifmjaaGreatDoor.Num
theorem same_len {α : Type} [DecidableEq α] {xs ys : List α} (h : ¬ (xs.length : Int) = ys.length) : decide (xs = ys) = false :=
  decide_eq_false (fun e => h (by rw [e]))
theorem same_at {α β : Type} [DecidableEq α] {xs ys : List α} (f : List α → β) (h : ¬ f xs = f ys) : decide (xs = ys) = false :=
  decide_eq_false (fun e => h (by rw [e]))
theorem same_step {α : Type} {xs ys : List α} {k : Nat} {x y : α} (hx : xs[k]? = some x) (hy : ys[k]? = some y) (h : xs.take k = ys.take k) (e : x = y) : xs.take (k + 1) = ys.take (k + 1) := by
  rw [List.take_add_one, List.take_add_one, h, hx, hy, e]
theorem same_yes {α : Type} [DecidableEq α] {xs ys : List α} {k : Nat} (h1 : k = xs.length) (hl : (xs.length : Int) = ys.length) (h : xs.take k = ys.take k) : decide (xs = ys) = true := by
  subst h1
  rw [List.take_length, show xs.length = ys.length by omega, List.take_length] at h
  exact decide_eq_true h
theorem tim_same {a b : TimerD} : (a = b) = (a.name = b.name ∧ a.ver = b.ver ∧ a.tick = b.tick ∧ a.every = b.every ∧ a.steps = b.steps) := by
  cases a; cases b; simp
theorem chg_same {a b : ChangeD} : (a = b) = (a.kind = b.kind ∧ a.key = b.key ∧ a.value = b.value ∧ a.timer = b.timer) := by
  cases a; cases b; simp
theorem msg_same {a b : MessageD} : (a = b) = (a.kind = b.kind ∧ a.src = b.src ∧ a.dst = b.dst ∧ a.tx = b.tx ∧ a.nodes = b.nodes ∧ a.changes = b.changes) := by
  cases a; cases b; simp
theorem msg_not {x y : MessageD} (h : ¬ x.kind = y.kind ∨ ¬ x.src = y.src ∨ ¬ x.dst = y.dst ∨ ¬ x.tx = y.tx ∨ ¬ (x.nodes.length : Int) = y.nodes.length) : decide (x = y) = false :=
  decide_eq_false (fun e => by subst e; simp at h)
theorem msg_nodes {x y : MessageD} (h : decide (x.nodes = y.nodes) = false) : decide (x = y) = false :=
  decide_eq_false (fun e => by subst e; simp at h)
end Go.Proofs.YtiiklnghnifmjaaGreatDoor.Act
