/- Structs that are compared. -/
import Derived.Test.YtlcnoibjhmflnaaSn
import Derived.Laws.StructEq
set_option linter.unusedVariables false
set_option linter.unusedSimpArgs false
namespace Go.Proofs.Ytlcnoibjhmflnaa.Sx
open Go.RowKit
theorem tl_eq (p q : ByteArray) : (p.toList = q.toList) = (p = q) := by
  have := str_eq p q
  rw [Bool.eq_iff_iff] at this
  simp only [beq_iff_eq, decide_eq_true_eq] at this
  exact propext this
section
variable {P : Program} {a : Act} {w : World} {dst : Option Tmp} {ty : TypeId} {pos : String} {af : Array Edge} {gg : Option (Nat × Bool)} {x y : Operand} {t t' : TypeId} {xs ys : Array Value} {b : Bool}
theorem x_eqS (hm : P.eqGuardType P.depth t = false) (hp : P.stoodInHeld t = false) (ht : P.underlying t = some (.struct (P.fieldsOf t))) (hx : a.eval x = .agg xs) (hy : a.eval y = .agg ys) (he : (Op.eqFields 9999 xs ys (P.fieldsOf t).toList).run P w = .ok b w) : At P ⟨dst, .binOp .eql t x y t', ty, pos, af, gg⟩ a w (.bool b) := by
  have he' : (Op.equalIn 10000 t (.agg xs) (.agg ys)).run P w = .ok b w := (run_equalIn_struct w 9999 t xs ys ht hp).trans he
  unfold At; generalize a.eval = ρ at *
  simp only [execOp, hx, hy, Sem.run_bind, run_eqGuard_agg w .eql t x y xs ys hm, Result.andThen_ok, run_eql_struct, he', Sem.run_pure]
theorem x_neS (hm : P.eqGuardType P.depth t = false) (hp : P.stoodInHeld t = false) (ht : P.underlying t = some (.struct (P.fieldsOf t))) (hx : a.eval x = .agg xs) (hy : a.eval y = .agg ys) (he : (Op.eqFields 9999 xs ys (P.fieldsOf t).toList).run P w = .ok b w) : At P ⟨dst, .binOp .neq t x y t', ty, pos, af, gg⟩ a w (.bool (!b)) := by
  have he' : (Op.equalIn 10000 t (.agg xs) (.agg ys)).run P w = .ok b w := (run_equalIn_struct w 9999 t xs ys ht hp).trans he
  unfold At; generalize a.eval = ρ at *
  simp only [execOp, hx, hy, Sem.run_bind, run_eqGuard_agg w .neq t x y xs ys hm, Result.andThen_ok, run_neq_struct, he', Sem.run_pure]
end
end Go.Proofs.Ytlcnoibjhmflnaa.Sx
