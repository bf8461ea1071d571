/- Numbers' texts: what is a number's text, and which number. -/
import Derived.Test.YtiiklnghnifmjaaDoorStr
import Derived.Lib.ItoaNum
import Derived.Lib.ItoaMem
import Derived.Lib.ParseIntBCases
import Derived.Lib.ParseIntBTie
set_option linter.unusedVariables false
set_option linter.unusedSimpArgs false
namespace Go.Proofs.YtiiklnghnifmjaaDoor.Num
open Go.RowKit Go.Proofs.YtiiklnghnifmjaaDoor.Sx Go.Lib
abbrev U8s := List UInt8
def Fits (n : Int) : Prop := -9223372036854775808 ≤ n ∧ n < 9223372036854775808
instance (n : Int) : Decidable (Fits n) := by unfold Fits; infer_instance
/-! ### digits -/
theorem dig8 {d : Nat} (h : d < 10) : (UInt8.ofNat (48 + d)).toNat = 48 + d := by
  rw [UInt8.toNat_ofNat']; omega
theorem dec_all (u : Nat) : ∀ c ∈ decDigits u, 48 ≤ c.toNat ∧ c.toNat ≤ 57 := by
  induction u using decDigits.induct with
  | case1 u h => rw [decDigits, dif_pos h]; intro c hc; rw [List.mem_singleton] at hc; subst hc; rw [dig8 h]; omega
  | case2 u h ih =>
    rw [decDigits, dif_neg h]
    intro c hc
    rcases List.mem_append.1 hc with hc | hc
    · exact ih c hc
    · rw [List.mem_singleton] at hc; subst hc; rw [dig8 (by omega)]; omega
theorem dec_ne (u : Nat) : decDigits u ≠ [] := by
  rw [decDigits]; split <;> simp
theorem dec_head0 (u : Nat) (h0 : u ≠ 0) : ∀ c r, decDigits u = c :: r → c.toNat ≠ 48 := by
  induction u using decDigits.induct with
  | case1 u h =>
    rw [decDigits, dif_pos h]
    intro c r hc
    cases hc
    rw [dig8 h]; omega
  | case2 u h ih =>
    rw [decDigits, dif_neg h]
    intro c r hc
    cases hd : decDigits (u / 10) with
    | nil => exact absurd hd (dec_ne _)
    | cons x t =>
      rw [hd, List.cons_append] at hc
      cases hc
      exact ih (by omega) c t hd
/-! ### ParseUint behind itself -/
theorem parse_app (M : Nat) : ∀ (l r : U8s) (acc : Nat), parseUintM M acc (l ++ r) = match parseUintM M acc l with | .ok v => parseUintM M v r | e => e
  | [], r, acc => by simp [parseUintM]
  | c :: l, r, acc => by
    rw [List.cons_append]
    rw [parseUintM, parseUintM]
    split
    · split
      · rfl
      · split
        · rfl
        · exact parse_app M l r _
    · rfl
theorem parse_dec (u : Nat) (h : u ≤ 18446744073709551615) : parseUintM 18446744073709551615 0 (decDigits u) = .ok u := by
  induction u using decDigits.induct with
  | case1 u h1 =>
    rw [decDigits, dif_pos h1]
    unfold parseUintM
    rw [dig8 h1, if_pos (by omega), if_neg (by omega), if_neg (by omega)]
    unfold parseUintM
    congr 1; omega
  | case2 u h1 ih =>
    rw [decDigits, dif_neg h1, parse_app, ih (by omega)]
    dsimp only
    unfold parseUintM
    rw [dig8 (by omega), if_pos (by omega), if_neg (by omega), if_neg (by omega)]
    unfold parseUintM
    congr 1; omega
theorem parse_decB (u : Nat) (h : u ≤ 18446744073709551615) : parseUintB 64 (decDigits u) = .ok u := by
  unfold parseUintB
  rw [if_neg (dec_ne u)]
  exact parse_dec u h
theorem parse_itoa {n : Int} (h : Fits n) : parseIntB 64 (itoa n) = .ok n := by
  unfold Fits at h
  by_cases hn : n < 0
  · unfold itoa
    rw [if_pos hn]
    unfold parseIntB
    dsimp only
    rw [if_pos (.inr rfl), parse_decB _ (by omega)]
    dsimp only
    rw [if_neg (by simp), if_neg (by omega), if_pos (show UInt8.toNat 45 = 45 from rfl)]
    congr 1; omega
  · unfold itoa
    rw [if_neg hn]
    cases hd : decDigits n.toNat with
    | nil => exact absurd hd (dec_ne _)
    | cons c r =>
      have hc := dec_all n.toNat c (by rw [hd]; simp)
      unfold parseIntB
      dsimp only
      rw [if_neg (by omega), ← hd, parse_decB _ (by omega)]
      dsimp only
      rw [if_neg (by omega), if_neg (by omega), if_neg (by omega)]
      congr 1; omega
theorem itoa_inj {a b : Int} (ha : Fits a) (hb : Fits b) (h : itoa a = itoa b) : a = b := by
  have := parse_itoa ha
  rw [h, parse_itoa hb] at this
  cases this; rfl
theorem itoa_ne (n : Int) : itoa n ≠ [] := by unfold itoa; split; simp; exact dec_ne _
theorem itoa_all (n : Int) : ∀ c ∈ itoa n, c.toNat = 45 ∨ 48 ≤ c.toNat ∧ c.toNat ≤ 57 := by
  unfold itoa
  split
  · intro c hc
    rcases List.mem_cons.1 hc with rfl | hc
    · exact .inl rfl
    · exact .inr (dec_all _ c hc)
  · intro c hc; exact .inr (dec_all _ c hc)
/-! ### the number of a text -/
def numT (s : U8s) : Option Int := match parseIntB 64 s with | .ok v => if itoa v = s then some v else none | _ => none
theorem parse_fits {s : U8s} {v : Int} (h : parseIntB 64 s = .ok v) : Fits v := by
  have := parseIntB_bounds h
  unfold Fits
  rw [show (2 ^ (64 - 1) : Nat) = 9223372036854775808 by decide] at this
  omega
theorem numT_itoa {n : Int} (h : Fits n) : numT (itoa n) = some n := by unfold numT; rw [parse_itoa h]; simp
theorem numT_some {s : U8s} {v : Int} (h : numT s = some v) : s = itoa v ∧ Fits v := by
  unfold numT at h
  rcases hp : parseIntB 64 s with u | _ | _
  · rw [hp] at h
    dsimp only at h
    split at h
    · rename_i e; cases h; exact ⟨e.symm, parse_fits hp⟩
    · cases h
  · rw [hp] at h; cases h
  · rw [hp] at h; cases h
theorem numT_x (n : Int) : numT (itoa n ++ [120]) = none := by
  cases h : numT (itoa n ++ [120]) with
  | none => rfl
  | some v =>
    exfalso
    have := itoa_all v 120 (by rw [← (numT_some h).1]; simp)
    revert this; decide
theorem numT_0 (n : Int) : numT (48 :: itoa n) = none := by
  cases h : numT (48 :: itoa n) with
  | none => rfl
  | some v =>
    exfalso
    obtain ⟨e, hf⟩ := numT_some h
    by_cases hv : v < 0
    · unfold itoa at e
      rw [if_pos hv] at e
      cases e
    · by_cases h0 : v = 0
      · subst h0
        have : itoa 0 = [48] := by unfold itoa; rw [if_neg (by omega)]; unfold decDigits; decide
        rw [this] at e
        exact itoa_ne n (List.cons.inj e).2
      · have e2 : itoa v = decDigits v.toNat := by unfold itoa; rw [if_neg hv]
        rw [e2] at e
        exact dec_head0 v.toNat (by omega) 48 (itoa n) e.symm rfl
/-! ### sums -/
def sumV (s : U8s) (n : Int) : Option Int := match numT s with | some x => if Fits (x + n) then some (x + n) else none | none => none
def sumE (s : U8s) (n : Int) : Int := match numT s with | some x => if Fits (x + n) then 0 else 93 | none => 92
def sumT (s : U8s) (n : Int) : U8s := match sumV s n with | some y => itoa y | none => []
theorem sum_no {s : U8s} {n : Int} (h : numT s = none) : sumE s n = 92 ∧ sumT s n = [] := by unfold sumE sumT sumV; rw [h]; exact ⟨rfl, rfl⟩
theorem sum_big {s : U8s} {n x : Int} (h : numT s = some x) (hf : ¬ Fits (x + n)) : sumE s n = 93 ∧ sumT s n = [] := by unfold sumE sumT sumV; rw [h]; dsimp only; rw [if_neg hf, if_neg hf]; exact ⟨rfl, rfl⟩
theorem sum_yes {s : U8s} {n x : Int} (h : numT s = some x) (hf : Fits (x + n)) : sumE s n = 0 ∧ sumT s n = itoa (x + n) := by unfold sumE sumT sumV; rw [h]; dsimp only; rw [if_pos hf, if_pos hf]; exact ⟨rfl, rfl⟩
/-! ### the sign of the bits -/
theorem wrap_toInt (V : BitVec 64) : IntKind.i64.wrap (V.toNat : Int) = V.toInt := by
  rw [IntKind.wrap_i64, BitVec.toInt_eq_toNat_cond]
  have := V.isLt
  split <;> omega
theorem bits_xor (a b : Int) : bits .xor .i64 a b = (BitVec.ofInt 64 a ^^^ BitVec.ofInt 64 b).toInt := wrap_toInt _
theorem bits_and (a b : Int) : bits .and .i64 a b = (BitVec.ofInt 64 a &&& BitVec.ofInt 64 b).toInt := wrap_toInt _
theorem msb_of {a : Int} (h : Fits a) : (BitVec.ofInt 64 a).msb = decide (a < 0) := by
  unfold Fits at h
  rw [BitVec.msb_eq_toInt]
  have : (BitVec.ofInt 64 a).toInt = a := by
    rw [BitVec.toInt_ofInt, Int.bmod_def]
    omega
  rw [this]
theorem over_bits {x n : Int} (hx : Fits x) (hn : Fits n) : decide (bits .and .i64 (bits .xor .i64 x (IntKind.i64.wrap (x + n))) (bits .xor .i64 n (IntKind.i64.wrap (x + n))) < 0) = !decide (Fits (x + n)) := by
  have hy : Fits (IntKind.i64.wrap (x + n)) := by unfold Fits; rw [IntKind.wrap_i64]; omega
  have e : ∀ V : BitVec 64, BitVec.ofInt 64 V.toInt = V := fun V => BitVec.ofInt_toInt
  rw [bits_xor, bits_xor, bits_and, e, e]
  have hm : ∀ V : BitVec 64, decide (V.toInt < 0) = V.msb := fun V => (BitVec.msb_eq_toInt).symm
  rw [hm, BitVec.msb_and, BitVec.msb_xor, BitVec.msb_xor, msb_of hx, msb_of hn, msb_of hy]
  have hc : (Fits (x + n) ∧ IntKind.i64.wrap (x + n) = x + n) ∨ (¬ Fits (x + n) ∧ 0 ≤ x ∧ 0 ≤ n ∧ IntKind.i64.wrap (x + n) < 0) ∨ (¬ Fits (x + n) ∧ x < 0 ∧ n < 0 ∧ 0 ≤ IntKind.i64.wrap (x + n)) := by
    rw [IntKind.wrap_i64]; unfold Fits at *; omega
  generalize IntKind.i64.wrap (x + n) = y at *
  rcases hc with ⟨h1, rfl⟩ | ⟨h1, h2, h3, h4⟩ | ⟨h1, h2, h3, h4⟩
  · rw [decide_eq_true h1]
    by_cases h2 : x < 0 <;> by_cases h3 : n < 0 <;> by_cases h4 : x + n < 0 <;> first | (exfalso; omega) | simp [h2, h3, h4]
  · rw [decide_eq_false h1, decide_eq_false (p := x < 0) (by omega), decide_eq_false (p := n < 0) (by omega), decide_eq_true h4]; rfl
  · rw [decide_eq_false h1, decide_eq_true h2, decide_eq_true h3, decide_eq_false (p := y < 0) (by omega)]; rfl
end Go.Proofs.YtiiklnghnifmjaaDoor.Num
