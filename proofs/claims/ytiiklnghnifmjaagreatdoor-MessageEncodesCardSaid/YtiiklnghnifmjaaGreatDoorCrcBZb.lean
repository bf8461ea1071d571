/- A burst of up to four bytes is always found. -/
import Derived.Test.YtiiklnghnifmjaaGreatDoorCrcPZb
set_option linter.unusedVariables false
set_option linter.unusedSimpArgs false
namespace Go.Proofs.YtiiklnghnifmjaaGreatDoor.Crc
open Go.RowKit Go.Proofs.YtiiklnghnifmjaaGreatDoor.Sx
theorem bit_even (y : B32) (h : y.getLsbD 0 = false) : bitB y = y >>> 1 := by
  unfold bitB; rw [h]; simp
theorem stp4_hi (c : B32) : stpB 4 (c ^^^ (c &&& 15#32)) = c >>> 4 := by
  have hb : ∀ i, (c ^^^ (c &&& 15#32)).getLsbD i = (c.getLsbD i && decide (4 ≤ i)) := by
    intro i
    rw [BitVec.getLsbD_xor, BitVec.getLsbD_and]
    by_cases h : i < 4
    · have : (15#32).getLsbD i = true := by
        have : i = 0 ∨ i = 1 ∨ i = 2 ∨ i = 3 := by omega
        rcases this with rfl | rfl | rfl | rfl <;> decide
      rw [this]
      have h2 : decide (4 ≤ i) = false := by simp; omega
      rw [h2]; cases c.getLsbD i <;> rfl
    · have : (15#32).getLsbD i = false := by
        by_cases h32 : i < 32
        · rw [BitVec.getLsbD_ofNat]
          have : Nat.testBit 15 i = false := Nat.testBit_lt_two_pow (Nat.lt_of_lt_of_le (by decide : 15 < 2 ^ 4) (Nat.pow_le_pow_right (by decide) (by omega)))
          rw [this]; simp
        · exact BitVec.getLsbD_of_ge _ _ (by omega)
      rw [this]
      have h2 : decide (4 ≤ i) = true := by simp; omega
      rw [h2]; cases c.getLsbD i <;> rfl
  generalize c ^^^ (c &&& 15#32) = y at hb
  have e1 : bitB y = y >>> 1 := bit_even _ (by rw [hb]; simp)
  have e2 : bitB (y >>> 1) = y >>> 1 >>> 1 := bit_even _ (by rw [BitVec.getLsbD_ushiftRight, hb]; simp)
  have e3 : bitB (y >>> 1 >>> 1) = y >>> 1 >>> 1 >>> 1 := bit_even _ (by rw [BitVec.getLsbD_ushiftRight, BitVec.getLsbD_ushiftRight, hb]; simp)
  have e4 : bitB (y >>> 1 >>> 1 >>> 1) = y >>> 1 >>> 1 >>> 1 >>> 1 := bit_even _ (by rw [BitVec.getLsbD_ushiftRight, BitVec.getLsbD_ushiftRight, BitVec.getLsbD_ushiftRight, hb]; simp)
  show bitB (bitB (bitB (bitB y))) = _
  rw [e1, e2, e3, e4]
  apply BitVec.eq_of_getLsbD_eq
  intro i hi
  simp only [BitVec.getLsbD_ushiftRight, hb]
  rw [show 1 + (1 + (1 + (1 + i))) = 4 + i by omega]
  simp
theorem nib_stp (c : B32) : nibB c = stpB 4 c := by
  unfold nibB
  rw [← stp4_hi, ← stp_lin]
  congr 1
  rw [BitVec.xor_assoc, BitVec.xor_self, BitVec.xor_zero]
theorem stp_add (i j : Nat) (c : B32) : stpB i (stpB j c) = stpB (i + j) c := by
  induction i with
  | zero => simp [stpB]
  | succ i ih => rw [stpB, ih, show i + 1 + j = (i + j) + 1 by omega, stpB]
theorem byte_stp (s x : B32) : byteB s x = stpB 8 (s ^^^ x) := by
  unfold byteB
  rw [nib_stp, nib_stp, stp_add]
end Go.Proofs.YtiiklnghnifmjaaGreatDoor.Crc
