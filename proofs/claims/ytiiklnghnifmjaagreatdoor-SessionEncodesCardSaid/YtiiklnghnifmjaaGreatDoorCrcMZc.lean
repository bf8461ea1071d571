/- The check sum's ways over 32 bits: a linear way, bit by bit; noughts behind; sums joined. -/
import Derived.Test.YtiiklnghnifmjaaGreatDoorCrcBZc
import Derived.Lib.TrailingZeros
set_option linter.unusedVariables false
set_option linter.unusedSimpArgs false
namespace Go.Proofs.YtiiklnghnifmjaaGreatDoor.Crc
open Go.RowKit Go.Proofs.YtiiklnghnifmjaaGreatDoor.Sx
/-! ### the lowest bit -/
/-! ### linear ways -/
def Lin (f : B32 → B32) : Prop := ∀ a b, f (a ^^^ b) = f a ^^^ f b
theorem Lin.zero {f : B32 → B32} (h : Lin f) : f 0#32 = 0#32 := by
  have := h 0#32 0#32
  rw [BitVec.xor_self, BitVec.xor_self] at this
  exact this
/-! ### noughts, and sums joined -/
/-! ### words for the walks -/
theorem xorF (s : B32) : bits .xor .u32 (s.toNat : Int) 4294967295 = ((~~~ s).toNat : Int) := by
  rw [show (4294967295 : Int) = ((BitVec.allOnes 32).toNat : Int) by decide, bxor, BitVec.xor_allOnes]
theorem low_rem (c : B32) : (c.toNat : Int).tmod 2 = (c.toNat : Int) % 2 := Int.tmod_eq_emod_of_nonneg (by omega)
theorem quo2 (c : B32) : IntKind.u32.wrap ((c.toNat : Int).tdiv 2) = (c.toNat : Int) / 2 := by
  rw [Int.tdiv_eq_ediv_of_nonneg (by omega), IntKind.wrap_u32]
  have := c.isLt
  omega
theorem half_B (c : B32) : (c.toNat : Int) / (2 : Int) = ((c >>> 1).toNat : Int) := by
  rw [BitVec.toNat_ushiftRight, Nat.shiftRight_eq_div_pow]; omega
theorem low_bit_of (c : B32) : c.getLsbD 0 = decide ((c.toNat : Int) % 2 = 1) := by
  show c.toNat.testBit 0 = _
  rw [Nat.testBit_zero]
  have : (c.toNat % 2 = 1) ↔ ((c.toNat : Int) % 2 = 1) := by omega
  simp only [this]
theorem ref_odd (c : B32) (h : (c.toNat : Int) % 2 = 1) : bits .xor .u32 ((c.toNat : Int) / 2) 3988292384 = ((bitB c).toNat : Int) := by
  rw [half_B]
  unfold bitB
  rw [low_bit_of, decide_eq_true h, if_pos rfl]
  exact bxor _ poly
theorem ref_even (c : B32) (h : ¬ (c.toNat : Int) % 2 = 1) : (c.toNat : Int) / 2 = ((bitB c).toNat : Int) := by
  rw [half_B, bit_even]
  rw [low_bit_of, decide_eq_false h]
theorem foldB_step {xs : List Int} {i : Nat} (h : (i : Int) < xs.length) (c : B32) : stpB 8 ((((xs.take i).map bv).foldl byteB c) ^^^ bv (gi xs i)) = ((xs.take (i + 1)).map bv).foldl byteB c := by
  have hi : i < xs.length := by omega
  rw [List.take_succ_eq_append_getElem hi, List.map_append, List.foldl_append, List.map_cons, List.map_nil, List.foldl_cons, List.foldl_nil, byte_stp]
  simp [gi, List.getD_eq_getElem?_getD, List.getElem?_eq_getElem hi]
end Go.Proofs.YtiiklnghnifmjaaGreatDoor.Crc
