/- A burst of up to four bytes is always found. -/
import Derived.Test.YtiiklnghnifmjaaGreatDoorCrcDZc
set_option linter.unusedVariables false
set_option linter.unusedSimpArgs false
namespace Go.Proofs.YtiiklnghnifmjaaGreatDoor.Crc
open Go.RowKit Go.Proofs.YtiiklnghnifmjaaGreatDoor.Sx
abbrev B32 := BitVec 32
def poly : B32 := 3988292384#32
def bitB (c : B32) : B32 := (c >>> 1) ^^^ (if c.getLsbD 0 then poly else 0#32)
def stpB : Nat → B32 → B32
  | 0, c => c
  | i + 1, c => bitB (stpB i c)
def nibB (c : B32) : B32 := (c >>> 4) ^^^ stpB 4 (c &&& 15#32)
def byteB (c x : B32) : B32 := nibB (nibB (c ^^^ x))
def moreB (c : B32) (xs : List B32) : B32 := ~~~ (xs.foldl byteB (~~~ c))
theorem bxor (a b : B32) : bits .xor .u32 (a.toNat : Int) (b.toNat : Int) = ((a ^^^ b).toNat : Int) := by
  show IntKind.u32.wrap ((BitVec.ofInt 32 (a.toNat : Int) ^^^ BitVec.ofInt 32 (b.toNat : Int)).toNat : Int) = _
  rw [BitVec.ofInt_natCast, BitVec.ofInt_natCast, BitVec.ofNat_toNat, BitVec.ofNat_toNat, IntKind.wrap_u32]
  simp only [BitVec.setWidth_eq]
  have := (a ^^^ b).isLt
  omega
theorem band (a b : B32) : bits .and .u32 (a.toNat : Int) (b.toNat : Int) = ((a &&& b).toNat : Int) := by
  show IntKind.u32.wrap ((BitVec.ofInt 32 (a.toNat : Int) &&& BitVec.ofInt 32 (b.toNat : Int)).toNat : Int) = _
  rw [BitVec.ofInt_natCast, BitVec.ofInt_natCast, BitVec.ofNat_toNat, BitVec.ofNat_toNat, IntKind.wrap_u32]
  simp only [BitVec.setWidth_eq]
  have := (a &&& b).isLt
  omega
theorem and_one (c : B32) : c &&& 1#32 = if c.getLsbD 0 then 1#32 else 0#32 := by
  apply BitVec.eq_of_getLsbD_eq
  intro i hi
  rw [BitVec.getLsbD_and]
  by_cases h0 : i = 0
  · subst h0
    cases h : c.getLsbD 0 <;> simp
  · have h1 : (1#32).getLsbD i = false := by
      rw [BitVec.getLsbD_one]
      simp [h0]
    rw [h1, Bool.and_false]
    split
    · rw [h1]
    · simp
theorem bitI_B (c : B32) : bitI (c.toNat : Int) = ((bitB c).toNat : Int) := by
  unfold bitI bitB
  have e1 : (c.toNat : Int).fdiv (2 ^ (min (Int.toNat 1) 32)) = ((c >>> 1).toNat : Int) := by
    rw [show (2 : Int) ^ (min (Int.toNat 1) 32) = 2 by decide, Int.fdiv_eq_ediv_of_nonneg _ (by decide), BitVec.toNat_ushiftRight, Nat.shiftRight_eq_div_pow]
    omega
  have e2 : bits .and .u32 (c.toNat : Int) 1 = ((c &&& 1#32).toNat : Int) := band c 1#32
  rw [e1, e2, and_one]
  cases h : c.getLsbD 0
  · simp only [Bool.false_eq_true, if_false]
    have e3 : bits .and .u32 (IntKind.u32.wrap (0 - ((0#32 : B32).toNat : Int))) 3988292384 = ((0#32 : B32).toNat : Int) := by decide +kernel
    rw [e3]
    exact bxor _ _
  · simp only [if_true]
    have e3 : bits .and .u32 (IntKind.u32.wrap (0 - ((1#32 : B32).toNat : Int))) 3988292384 = ((poly : B32).toNat : Int) := by decide +kernel
    rw [e3]
    exact bxor _ _
theorem stp_B (i : Nat) (c : B32) : stp i (c.toNat : Int) = ((stpB i c).toNat : Int) := by
  induction i with
  | zero => rfl
  | succ i ih => rw [stp, ih, bitI_B]; rfl
theorem nib_B (c : B32) : nib (c.toNat : Int) = ((nibB c).toNat : Int) := by
  unfold nib nibB
  have e1 : (c.toNat : Int).fdiv (2 ^ (min (Int.toNat 4) 32)) = ((c >>> 4).toNat : Int) := by
    rw [show (2 : Int) ^ (min (Int.toNat 4) 32) = 16 by decide, Int.fdiv_eq_ediv_of_nonneg _ (by decide), BitVec.toNat_ushiftRight, Nat.shiftRight_eq_div_pow]
    omega
  have e2 : bits .and .u32 (c.toNat : Int) 15 = ((c &&& 15#32).toNat : Int) := band c 15#32
  rw [e1, e2, stp_B, bxor]
/-- A byte as 32 bits. -/
def bv (x : Int) : B32 := BitVec.ofInt 32 x
theorem wrap_bv (x : Int) : IntKind.u32.wrap x = ((bv x).toNat : Int) := by
  rw [IntKind.wrap_u32, bv, BitVec.toNat_ofInt]
  omega
theorem byte_B (c : B32) (x : Int) : byteI (c.toNat : Int) x = ((byteB c (bv x)).toNat : Int) := by
  unfold byteI byteB
  rw [wrap_bv, bxor, nib_B, nib_B]
theorem fold_B (xs : List Int) : ∀ c : B32, xs.foldl byteI (c.toNat : Int) = (((xs.map bv).foldl byteB c).toNat : Int) := by
  induction xs with
  | nil => intro c; rfl
  | cons x xs ih => intro c; rw [List.foldl_cons, byte_B, ih]; rfl
theorem cpl_B (c : B32) : cpl (c.toNat : Int) = ((~~~ c).toNat : Int) := by
  unfold cpl
  rw [show (if IntKind.u32.signed then (-1 : Int) else IntKind.u32.max) = ((BitVec.allOnes 32).toNat : Int) by decide, bxor]
  rw [BitVec.allOnes_xor]
theorem more_B (c : B32) (xs : List Int) : moreI (c.toNat : Int) xs = ((moreB c (xs.map bv)).toNat : Int) := by
  unfold moreI moreB
  rw [cpl_B, fold_B, cpl_B]
/-! ### linear -/
theorem xor4 (a b c d : B32) : (a ^^^ b) ^^^ (c ^^^ d) = (a ^^^ c) ^^^ (b ^^^ d) := by
  rw [BitVec.xor_assoc, BitVec.xor_assoc]
  congr 1
  rw [← BitVec.xor_assoc, ← BitVec.xor_assoc, BitVec.xor_comm b c]
theorem bit_lin (a b : B32) : bitB (a ^^^ b) = bitB a ^^^ bitB b := by
  unfold bitB
  rw [BitVec.ushiftRight_xor_distrib, xor4]
  congr 1
  rw [BitVec.getLsbD_xor]
  cases a.getLsbD 0 <;> cases b.getLsbD 0 <;> simp
theorem stp_lin (i : Nat) (a b : B32) : stpB i (a ^^^ b) = stpB i a ^^^ stpB i b := by
  induction i with
  | zero => rfl
  | succ i ih => rw [stpB, ih, bit_lin]; rfl
def Bytes (xs : List Int) : Prop := ∀ x ∈ xs, 0 ≤ x ∧ x < 256
theorem Bytes.gi {xs : List Int} (h : Bytes xs) (i : Int) : 0 ≤ gi xs i ∧ gi xs i < 256 := by
  unfold Sx.gi
  rw [List.getD_eq_getElem?_getD]
  cases hx : xs[i.toNat]? with
  | none => simp
  | some x => exact h x (List.mem_of_getElem? hx)
end Go.Proofs.YtiiklnghnifmjaaGreatDoor.Crc
set_option linter.unusedVariables false
set_option linter.unusedSimpArgs false
namespace Go.Proofs.YtiiklnghnifmjaaGreatDoor.Crc
open Go.RowKit Go.Proofs.YtiiklnghnifmjaaGreatDoor.Sx
theorem bit_even (y : B32) (h : y.getLsbD 0 = false) : bitB y = y >>> 1 := by
  unfold bitB; rw [h]; simp
theorem stp4_hi (c : B32) : stpB 4 (c ^^^ (c &&& 15#32)) = c >>> 4 := by
  have hb : ∀ i, (c ^^^ (c &&& 15#32)).getLsbD i = (c.getLsbD i && decide (4 ≤ i)) := by
    intro i
    rw [BitVec.getLsbD_xor, BitVec.getLsbD_and]
    by_cases h : i < 4
    · have : (15#32).getLsbD i = true := by
        have : i = 0 ∨ i = 1 ∨ i = 2 ∨ i = 3 := by omega
        rcases this with rfl | rfl | rfl | rfl <;> decide
      rw [this]
      have h2 : decide (4 ≤ i) = false := by simp; omega
      rw [h2]; cases c.getLsbD i <;> rfl
    · have : (15#32).getLsbD i = false := by
        by_cases h32 : i < 32
        · rw [BitVec.getLsbD_ofNat]
          have : Nat.testBit 15 i = false := Nat.testBit_lt_two_pow (Nat.lt_of_lt_of_le (by decide : 15 < 2 ^ 4) (Nat.pow_le_pow_right (by decide) (by omega)))
          rw [this]; simp
        · exact BitVec.getLsbD_of_ge _ _ (by omega)
      rw [this]
      have h2 : decide (4 ≤ i) = true := by simp; omega
      rw [h2]; cases c.getLsbD i <;> rfl
  generalize c ^^^ (c &&& 15#32) = y at hb
  have e1 : bitB y = y >>> 1 := bit_even _ (by rw [hb]; simp)
  have e2 : bitB (y >>> 1) = y >>> 1 >>> 1 := bit_even _ (by rw [BitVec.getLsbD_ushiftRight, hb]; simp)
  have e3 : bitB (y >>> 1 >>> 1) = y >>> 1 >>> 1 >>> 1 := bit_even _ (by rw [BitVec.getLsbD_ushiftRight, BitVec.getLsbD_ushiftRight, hb]; simp)
  have e4 : bitB (y >>> 1 >>> 1 >>> 1) = y >>> 1 >>> 1 >>> 1 >>> 1 := bit_even _ (by rw [BitVec.getLsbD_ushiftRight, BitVec.getLsbD_ushiftRight, BitVec.getLsbD_ushiftRight, hb]; simp)
  show bitB (bitB (bitB (bitB y))) = _
  rw [e1, e2, e3, e4]
  apply BitVec.eq_of_getLsbD_eq
  intro i hi
  simp only [BitVec.getLsbD_ushiftRight, hb]
  rw [show 1 + (1 + (1 + (1 + i))) = 4 + i by omega]
  simp
theorem nib_stp (c : B32) : nibB c = stpB 4 c := by
  unfold nibB
  rw [← stp4_hi, ← stp_lin]
  congr 1
  rw [BitVec.xor_assoc, BitVec.xor_self, BitVec.xor_zero]
theorem stp_add (i j : Nat) (c : B32) : stpB i (stpB j c) = stpB (i + j) c := by
  induction i with
  | zero => simp [stpB]
  | succ i ih => rw [stpB, ih, show i + 1 + j = (i + j) + 1 by omega, stpB]
theorem byte_stp (s x : B32) : byteB s x = stpB 8 (s ^^^ x) := by
  unfold byteB
  rw [nib_stp, nib_stp, stp_add]
end Go.Proofs.YtiiklnghnifmjaaGreatDoor.Crc
