/- Numbers' texts: what is a number's text, and which number. -/
import Derived.Test.YtiiklnghnifmjaaGreatDoorStrZc
import Derived.Lib.ItoaNum
import Derived.Lib.ItoaMem
import Derived.Lib.ParseIntBCases
import Derived.Lib.ParseIntBTie
set_option linter.unusedVariables false
set_option linter.unusedSimpArgs false
namespace Go.Proofs.YtiiklnghnifmjaaGreatDoor.Num
open Go.RowKit Go.Proofs.YtiiklnghnifmjaaGreatDoor.Sx Go.Lib
abbrev U8s := List UInt8
def Fits (n : Int) : Prop := -9223372036854775808 ≤ n ∧ n < 9223372036854775808
instance (n : Int) : Decidable (Fits n) := by unfold Fits; infer_instance
/-! ### digits -/
theorem dig8 {d : Nat} (h : d < 10) : (UInt8.ofNat (48 + d)).toNat = 48 + d := by
  rw [UInt8.toNat_ofNat']; omega
theorem dec_all (u : Nat) : ∀ c ∈ decDigits u, 48 ≤ c.toNat ∧ c.toNat ≤ 57 := by
  induction u using decDigits.induct with
  | case1 u h => rw [decDigits, dif_pos h]; intro c hc; rw [List.mem_singleton] at hc; subst hc; rw [dig8 h]; omega
  | case2 u h ih =>
    rw [decDigits, dif_neg h]
    intro c hc
    rcases List.mem_append.1 hc with hc | hc
    · exact ih c hc
    · rw [List.mem_singleton] at hc; subst hc; rw [dig8 (by omega)]; omega
theorem dec_ne (u : Nat) : decDigits u ≠ [] := by
  rw [decDigits]; split <;> simp
/-! ### ParseUint behind itself -/
theorem parse_app (M : Nat) : ∀ (l r : U8s) (acc : Nat), parseUintM M acc (l ++ r) = match parseUintM M acc l with | .ok v => parseUintM M v r | e => e
  | [], r, acc => by simp [parseUintM]
  | c :: l, r, acc => by
    rw [List.cons_append]
    rw [parseUintM, parseUintM]
    split
    · split
      · rfl
      · split
        · rfl
        · exact parse_app M l r _
    · rfl
theorem parse_dec (u : Nat) (h : u ≤ 18446744073709551615) : parseUintM 18446744073709551615 0 (decDigits u) = .ok u := by
  induction u using decDigits.induct with
  | case1 u h1 =>
    rw [decDigits, dif_pos h1]
    unfold parseUintM
    rw [dig8 h1, if_pos (by omega), if_neg (by omega), if_neg (by omega)]
    unfold parseUintM
    congr 1; omega
  | case2 u h1 ih =>
    rw [decDigits, dif_neg h1, parse_app, ih (by omega)]
    dsimp only
    unfold parseUintM
    rw [dig8 (by omega), if_pos (by omega), if_neg (by omega), if_neg (by omega)]
    unfold parseUintM
    congr 1; omega
theorem parse_decB (u : Nat) (h : u ≤ 18446744073709551615) : parseUintB 64 (decDigits u) = .ok u := by
  unfold parseUintB
  rw [if_neg (dec_ne u)]
  exact parse_dec u h
theorem parse_itoa {n : Int} (h : Fits n) : parseIntB 64 (itoa n) = .ok n := by
  unfold Fits at h
  by_cases hn : n < 0
  · unfold itoa
    rw [if_pos hn]
    unfold parseIntB
    dsimp only
    rw [if_pos (.inr rfl), parse_decB _ (by omega)]
    dsimp only
    rw [if_neg (by simp), if_neg (by omega), if_pos (show UInt8.toNat 45 = 45 from rfl)]
    congr 1; omega
  · unfold itoa
    rw [if_neg hn]
    cases hd : decDigits n.toNat with
    | nil => exact absurd hd (dec_ne _)
    | cons c r =>
      have hc := dec_all n.toNat c (by rw [hd]; simp)
      unfold parseIntB
      dsimp only
      rw [if_neg (by omega), ← hd, parse_decB _ (by omega)]
      dsimp only
      rw [if_neg (by omega), if_neg (by omega), if_neg (by omega)]
      congr 1; omega
/-! ### the number of a text -/
def numT (s : U8s) : Option Int := match parseIntB 64 s with | .ok v => if itoa v = s then some v else none | _ => none
theorem parse_fits {s : U8s} {v : Int} (h : parseIntB 64 s = .ok v) : Fits v := by
  have := parseIntB_bounds h
  unfold Fits
  rw [show (2 ^ (64 - 1) : Nat) = 9223372036854775808 by decide] at this
  omega
theorem numT_itoa {n : Int} (h : Fits n) : numT (itoa n) = some n := by unfold numT; rw [parse_itoa h]; simp
theorem numT_some {s : U8s} {v : Int} (h : numT s = some v) : s = itoa v ∧ Fits v := by
  unfold numT at h
  rcases hp : parseIntB 64 s with u | _ | _
  · rw [hp] at h
    dsimp only at h
    split at h
    · rename_i e; cases h; exact ⟨e.symm, parse_fits hp⟩
    · cases h
  · rw [hp] at h; cases h
  · rw [hp] at h; cases h
/-! ### sums -/
/-! ### the sign of the bits -/
end Go.Proofs.YtiiklnghnifmjaaGreatDoor.Num
