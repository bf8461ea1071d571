import Derived.Test.YtiiklnghnifmjaaGreatDoorSxZc
set_option linter.unusedVariables false
set_option linter.unusedSimpArgs false
namespace Go.Proofs.YtiiklnghnifmjaaGreatDoor.Crc
open Go.RowKit Go.Proofs.YtiiklnghnifmjaaGreatDoor.Sx
/-- One bit of the division. -/
def bitI (c : Int) : Int := bits .xor .u32 (c.fdiv (2 ^ (min (Int.toNat 1) 32))) (bits .and .u32 (IntKind.u32.wrap (0 - bits .and .u32 c 1)) 3988292384)
def stp : Nat → Int → Int
  | 0, c => c
  | i + 1, c => bitI (stp i c)
def tabAt (k j : Nat) : Value := if j < k then .int .u32 (stp 4 j) else .int .u32 0
def tabArr (k : Nat) : Array Value := ((List.range 16).map (tabAt k)).toArray
def tabZ : Array Value := #[.int .u32 0, .int .u32 0, .int .u32 0, .int .u32 0, .int .u32 0, .int .u32 0, .int .u32 0, .int .u32 0, .int .u32 0, .int .u32 0, .int .u32 0, .int .u32 0, .int .u32 0, .int .u32 0, .int .u32 0, .int .u32 0]
theorem tabArr_size (k : Nat) : (tabArr k).size = 16 := by simp [tabArr]
theorem tab_one (k : Nat) : ∀ u ∈ (tabArr k).toList, u.oneCell' = true := by
  intro u hu
  simp only [tabArr, List.toList_toArray, List.mem_map] at hu
  obtain ⟨j, _, rfl⟩ := hu
  unfold tabAt
  split <;> rfl
theorem tab_step (k : Nat) (hk : (k : Int) < 16) : spl (tabArr k) (0 + (k : Int).toNat * 1) #[.int .u32 (stp 4 k)] = tabArr (k + 1) := by
  have hk' : k < 16 := by omega
  rw [spl_one _ _ _ (by rw [tabArr_size]; simpa using hk')]
  apply Array.ext
  · simp [tabArr]
  · intro i h1 h2
    have hi : i < 16 := by rw [tabArr_size] at h2; exact h2
    rw [Array.getElem_setIfInBounds]
    · simp only [tabArr, List.getElem_toArray, List.getElem_map, List.getElem_range, Int.toNat_natCast, Nat.zero_add, Nat.mul_one]
      unfold tabAt
      by_cases e : k = i
      · subst e; simp
      · rw [if_neg e]
        by_cases h : i < k
        · rw [if_pos h, if_pos (by omega)]
        · rw [if_neg h, if_neg (by omega)]
    · rw [tabArr_size]; exact hi
theorem and_range (x y : Int) (hy : 0 ≤ y) (hy2 : y < 4294967296) : 0 ≤ bits .and .u32 x y ∧ bits .and .u32 x y ≤ y := by
  obtain ⟨b, rfl⟩ := Int.eq_ofNat_of_zero_le hy
  have hb : (BitVec.ofInt 32 (b : Int)).toNat = b := by simp; omega
  have h := @Nat.and_le_right (BitVec.ofInt 32 x).toNat b
  have e : bits .and .u32 x (b : Int) = (((BitVec.ofInt 32 x).toNat &&& b : Nat) : Int) := by
    show IntKind.u32.wrap ((BitVec.ofInt 32 x &&& BitVec.ofInt 32 (b : Int)).toNat : Int) = _
    rw [BitVec.toNat_and, hb, IntKind.wrap_u32]
    omega
  rw [e]
  omega
theorem and15_lo (x : Int) : 0 ≤ bits .and .u32 x 15 := (and_range x 15 (by decide) (by decide)).1
theorem and15_hi (x : Int) : bits .and .u32 x 15 < ((16 : Nat) : Int) := by have := (and_range x 15 (by decide) (by decide)).2; omega
theorem tabArr_at {j : Int} (h0 : 0 ≤ j) (h1 : j < ((16 : Nat) : Int)) : (tabArr 16)[0 + j.toNat * 1]? = some (.int .u32 (stp 4 j)) := by
  obtain ⟨k, rfl⟩ := Int.eq_ofNat_of_zero_le h0
  have hk : k < 16 := by omega
  simp only [Int.toNat_natCast, Nat.mul_one, Nat.zero_add, tabArr, List.getElem?_toArray, List.getElem?_map]
  rw [List.getElem?_range hk]
  simp [tabAt, hk]
/-- Four bits by the table. -/
def nib (c : Int) : Int := bits .xor .u32 (c.fdiv (2 ^ (min (Int.toNat 4) 32))) (stp 4 (bits .and .u32 c 15))
def byteI (c x : Int) : Int := nib (nib (bits .xor .u32 c (IntKind.u32.wrap x)))
def cpl (x : Int) : Int := bits .xor .u32 (if IntKind.u32.signed then -1 else IntKind.u32.max) x
/-- A sum with bytes behind. -/
def moreI (sum : Int) (xs : List Int) : Int := cpl (xs.foldl byteI (cpl sum))
theorem fold_step {xs : List Int} {i : Nat} (h : (i : Int) < xs.length) (c : Int) : (xs.take (i + 1)).foldl byteI c = byteI ((xs.take i).foldl byteI c) (gi xs i) := by
  have hi : i < xs.length := by omega
  rw [List.take_succ_eq_append_getElem hi, List.foldl_append]
  simp [gi, List.getD_eq_getElem?_getD, List.getElem?_eq_getElem hi]
theorem sum_nil : moreI 0 [] = 0 := by decide +kernel
end Go.Proofs.YtiiklnghnifmjaaGreatDoor.Crc
