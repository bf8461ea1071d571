/- A burst of up to four bytes is always found. -/
import Derived.Test.YtiiklnghnifmjaaDoorCrcPZs
set_option linter.unusedVariables false
set_option linter.unusedSimpArgs false
namespace Go.Proofs.YtiiklnghnifmjaaDoor.Crc
open Go.RowKit Go.Proofs.YtiiklnghnifmjaaDoor.Sx
theorem bit_even (y : B32) (h : y.getLsbD 0 = false) : bitB y = y >>> 1 := by
  unfold bitB; rw [h]; simp
theorem stp4_hi (c : B32) : stpB 4 (c ^^^ (c &&& 15#32)) = c >>> 4 := by
  have hb : ∀ i, (c ^^^ (c &&& 15#32)).getLsbD i = (c.getLsbD i && decide (4 ≤ i)) := by
    intro i
    rw [BitVec.getLsbD_xor, BitVec.getLsbD_and]
    by_cases h : i < 4
    · have : (15#32).getLsbD i = true := by
        have : i = 0 ∨ i = 1 ∨ i = 2 ∨ i = 3 := by omega
        rcases this with rfl | rfl | rfl | rfl <;> decide
      rw [this]
      have h2 : decide (4 ≤ i) = false := by simp; omega
      rw [h2]; cases c.getLsbD i <;> rfl
    · have : (15#32).getLsbD i = false := by
        by_cases h32 : i < 32
        · rw [BitVec.getLsbD_ofNat]
          have : Nat.testBit 15 i = false := Nat.testBit_lt_two_pow (Nat.lt_of_lt_of_le (by decide : 15 < 2 ^ 4) (Nat.pow_le_pow_right (by decide) (by omega)))
          rw [this]; simp
        · exact BitVec.getLsbD_of_ge _ _ (by omega)
      rw [this]
      have h2 : decide (4 ≤ i) = true := by simp; omega
      rw [h2]; cases c.getLsbD i <;> rfl
  generalize c ^^^ (c &&& 15#32) = y at hb
  have e1 : bitB y = y >>> 1 := bit_even _ (by rw [hb]; simp)
  have e2 : bitB (y >>> 1) = y >>> 1 >>> 1 := bit_even _ (by rw [BitVec.getLsbD_ushiftRight, hb]; simp)
  have e3 : bitB (y >>> 1 >>> 1) = y >>> 1 >>> 1 >>> 1 := bit_even _ (by rw [BitVec.getLsbD_ushiftRight, BitVec.getLsbD_ushiftRight, hb]; simp)
  have e4 : bitB (y >>> 1 >>> 1 >>> 1) = y >>> 1 >>> 1 >>> 1 >>> 1 := bit_even _ (by rw [BitVec.getLsbD_ushiftRight, BitVec.getLsbD_ushiftRight, BitVec.getLsbD_ushiftRight, hb]; simp)
  show bitB (bitB (bitB (bitB y))) = _
  rw [e1, e2, e3, e4]
  apply BitVec.eq_of_getLsbD_eq
  intro i hi
  simp only [BitVec.getLsbD_ushiftRight, hb]
  rw [show 1 + (1 + (1 + (1 + i))) = 4 + i by omega]
  simp
theorem nib_stp (c : B32) : nibB c = stpB 4 c := by
  unfold nibB
  rw [← stp4_hi, ← stp_lin]
  congr 1
  rw [BitVec.xor_assoc, BitVec.xor_self, BitVec.xor_zero]
theorem stp_add (i j : Nat) (c : B32) : stpB i (stpB j c) = stpB (i + j) c := by
  induction i with
  | zero => simp [stpB]
  | succ i ih => rw [stpB, ih, show i + 1 + j = (i + j) + 1 by omega, stpB]
theorem byte_stp (s x : B32) : byteB s x = stpB 8 (s ^^^ x) := by
  unfold byteB
  rw [nib_stp, nib_stp, stp_add]
theorem bit_back (u : B32) (h : (bitB u).toNat < 2 ^ 31) : u.toNat = 2 * (bitB u).toNat := by
  have hu := u.isLt
  have hs : (u >>> 1).toNat = u.toNat / 2 := by rw [BitVec.toNat_ushiftRight, Nat.shiftRight_eq_div_pow]
  cases hl : u.getLsbD 0
  · rw [bit_even u hl] at h ⊢
    rw [hs]
    have : u.toNat.testBit 0 = false := hl
    rw [Nat.testBit_zero] at this
    have : u.toNat % 2 = 0 := by simpa using this
    omega
  · exfalso
    have h1 : (bitB u).getLsbD 31 = true := by
      unfold bitB
      rw [hl, if_pos rfl, BitVec.getLsbD_xor, BitVec.getLsbD_ushiftRight]
      rw [show u.getLsbD (1 + 31) = false from BitVec.getLsbD_of_ge _ _ (by omega)]
      decide
    have h2 := Nat.testBit_lt_two_pow h
    rw [BitVec.testBit_toNat] at h2
    rw [h1] at h2
    cases h2
theorem stp_back (i : Nat) : ∀ (u : B32), (stpB i u).toNat * 2 ^ i < 2 ^ 32 → i ≤ 32 → u.toNat = 2 ^ i * (stpB i u).toNat := by
  induction i with
  | zero => intro u _ _; simp [stpB]
  | succ i ih =>
    intro u h hi
    rw [stpB] at h ⊢
    have hp : 0 < 2 ^ i := Nat.pow_pos (by decide)
    have hp1 : 2 ^ (i + 1) = 2 * 2 ^ i := by rw [Nat.pow_succ, Nat.mul_comm]
    have hb : (bitB (stpB i u)).toNat < 2 ^ 31 := by
      by_cases hz : (bitB (stpB i u)).toNat < 2 ^ 31
      · exact hz
      · exfalso
        have : 2 ^ 31 * (2 * 2 ^ i) ≤ (bitB (stpB i u)).toNat * 2 ^ (i + 1) := by rw [hp1]; exact Nat.mul_le_mul_right _ (by omega)
        have h32 : 2 ^ 31 * (2 * 2 ^ i) = 2 ^ 32 * 2 ^ i := by rw [← Nat.mul_assoc]
        have : 2 ^ 32 * 1 ≤ 2 ^ 32 * 2 ^ i := Nat.mul_le_mul_left _ hp
        omega
    have hbb := bit_back _ hb
    have h3 : (stpB i u).toNat * 2 ^ i < 2 ^ 32 := by
      rw [hbb, Nat.mul_comm 2, Nat.mul_assoc, ← hp1]; exact h
    rw [ih u h3 (by omega), hbb, hp1, ← Nat.mul_assoc, Nat.mul_comm (2 ^ i) 2]
theorem stp8_back (u : B32) (h : (stpB 8 u).toNat < 2 ^ 24) : u.toNat = 256 * (stpB 8 u).toNat := stp_back 8 u (by omega) (by decide)
def pack : List B32 → Nat
  | [] => 0
  | d :: ds => d.toNat + 256 * pack ds
def Small (ds : List B32) : Prop := ∀ d ∈ ds, d.toNat < 256
theorem pack_lt : ∀ (ds : List B32), Small ds → pack ds < 256 ^ ds.length
  | [], _ => by simp [pack]
  | d :: ds, h => by
    have h1 := pack_lt ds fun x hx => h x (List.mem_cons_of_mem _ hx)
    have h2 := h d (List.mem_cons_self ..)
    rw [List.length_cons, Nat.pow_succ, pack]
    omega
theorem xor_add (s d : B32) (n : Nat) (h : (s ^^^ d).toNat = 256 * n) (hd : d.toNat < 256) : s.toNat = d.toNat + 256 * n := by
  have hs : s = (s ^^^ d) ^^^ d := by rw [BitVec.xor_assoc, BitVec.xor_self, BitVec.xor_zero]
  have hn := Nat.two_pow_add_eq_or_of_lt (i := 8) (b := d.toNat) (by omega) n
  rw [show d.toNat + 256 * n = 2 ^ 8 * n ||| d.toNat by rw [← hn]; omega]
  rw [hs, BitVec.toNat_xor, h, show 256 * n = 2 ^ 8 * n from rfl]
  apply Nat.eq_of_testBit_eq
  intro i
  rw [Nat.testBit_xor, Nat.testBit_or, Nat.testBit_two_pow_mul]
  by_cases hi : i < 8
  · have : decide (i ≥ 8) = false := by simp; omega
    rw [this]; simp
  · rw [Nat.testBit_lt_two_pow (Nat.lt_of_lt_of_le hd (Nat.pow_le_pow_right (by decide : 0 < 2) (by omega : 8 ≤ i)))]
    simp
theorem fold_back : ∀ (ds : List B32) (s : B32), Small ds → ds.length ≤ 4 → ds.foldl byteB s = 0#32 → s.toNat = pack ds
  | [], s, _, _, h => by rw [show s = 0#32 from h]; rfl
  | d :: ds, s, hs, hl, h => by
    rw [List.foldl_cons, byte_stp] at h
    have hs' : Small ds := fun x hx => hs x (List.mem_cons_of_mem _ hx)
    have hl' : ds.length ≤ 3 := by simpa using hl
    have h1 := fold_back ds _ hs' (by omega) h
    have h2 := pack_lt ds hs'
    have h3 : 256 ^ ds.length ≤ 256 ^ 3 := Nat.pow_le_pow_right (by decide) hl'
    have h4 := stp8_back (s ^^^ d) (by rw [h1]; omega)
    rw [h1] at h4
    exact xor_add s d _ h4 (hs d (List.mem_cons_self ..))
theorem pack_zero : ∀ (ds : List B32), pack ds = 0 → ∀ d ∈ ds, d = 0#32
  | [], _, d, h => by cases h
  | x :: ds, h, d, hd => by
    rw [pack] at h
    rcases List.mem_cons.1 hd with rfl | hd
    · apply BitVec.eq_of_toNat_eq; simp; omega
    · exact pack_zero ds (by omega) d hd
theorem fold_lin2 : ∀ (xs ys : List B32) (a b : B32), xs.length = ys.length → (List.zipWith (fun p q => p ^^^ q) xs ys).foldl byteB (a ^^^ b) = xs.foldl byteB a ^^^ ys.foldl byteB b
  | [], [], a, b, _ => rfl
  | x :: xs, y :: ys, a, b, h => by
    simp only [List.zipWith_cons_cons, List.foldl_cons]
    rw [byte_lin]
    exact fold_lin2 xs ys _ _ (by simpa using h)
theorem xor_eq_zero {a b : B32} (h : a ^^^ b = 0#32) : a = b := by
  have : a = (a ^^^ b) ^^^ b := by rw [BitVec.xor_assoc, BitVec.xor_self, BitVec.xor_zero]
  rw [this, h, BitVec.zero_xor]
theorem fold_inj (xs : List B32) : ∀ (a b : B32), xs.foldl byteB a = xs.foldl byteB b → a = b := by
  induction xs with
  | nil => intro a b h; exact h
  | cons x xs ih =>
    intro a b h
    have h1 := ih _ _ h
    rw [byte_stp, byte_stp] at h1
    have h2 : stpB 8 ((a ^^^ x) ^^^ (b ^^^ x)) = 0#32 := by rw [stp_lin, h1, BitVec.xor_self]
    have h3 := stp8_back ((a ^^^ x) ^^^ (b ^^^ x)) (by rw [h2]; decide)
    rw [h2] at h3
    have h4 : (a ^^^ x) ^^^ (b ^^^ x) = 0#32 := by apply BitVec.eq_of_toNat_eq; rw [h3]; rfl
    have h5 := xor_eq_zero h4
    have h6 : (a ^^^ x) ^^^ x = (b ^^^ x) ^^^ x := by rw [h5]
    simpa [BitVec.xor_assoc] using h6
theorem zip_zero : ∀ (xs ys : List B32), xs.length = ys.length → (∀ d ∈ List.zipWith (fun p q => p ^^^ q) xs ys, d = 0#32) → xs = ys
  | [], [], _, _ => rfl
  | x :: xs, y :: ys, h, hz => by
    have h1 : x = y := xor_eq_zero (hz _ (by simp))
    have h2 := zip_zero xs ys (by simpa using h) fun d hd => hz d (by simp only [List.zipWith_cons_cons]; exact List.mem_cons_of_mem _ hd)
    rw [h1, h2]
theorem zip_small : ∀ (xs ys : List B32), Small xs → Small ys → Small (List.zipWith (fun p q => p ^^^ q) xs ys)
  | [], _, _, _ => by intro d hd; simp at hd
  | _ :: _, [], _, _ => by intro d hd; simp at hd
  | x :: xs, y :: ys, hx, hy => by
    intro d hd
    simp only [List.zipWith_cons_cons] at hd
    rcases List.mem_cons.1 hd with rfl | hd
    · rw [BitVec.toNat_xor]
      exact Nat.xor_lt_two_pow (n := 8) (hx x (by simp)) (hy y (by simp))
    · exact zip_small xs ys (fun z hz => hx z (List.mem_cons_of_mem _ hz)) (fun z hz => hy z (List.mem_cons_of_mem _ hz)) d hd
theorem fold_burst (xs ys : List B32) (a : B32) (hx : Small xs) (hy : Small ys) (h : xs.length = ys.length) (h4 : xs.length ≤ 4) (he : xs.foldl byteB a = ys.foldl byteB a) : xs = ys := by
  have h1 := fold_lin2 xs ys a a h
  rw [he, BitVec.xor_self, BitVec.xor_self] at h1
  have h2 := fold_back _ _ (zip_small xs ys hx hy) (by simp; omega) h1
  exact zip_zero xs ys h (pack_zero _ (by rw [← h2]; rfl))
theorem bv_toNat {x : Int} (h : 0 ≤ x ∧ x < 256) : (bv x).toNat = x.toNat := by
  unfold bv
  rw [BitVec.toNat_ofInt]
  omega
theorem Bytes.small {xs : List Int} (h : Bytes xs) : Small (xs.map bv) := by
  intro d hd
  obtain ⟨x, hx, rfl⟩ := List.mem_map.1 hd
  have := h x hx
  rw [bv_toNat this]
  omega
theorem map_bv_inj : ∀ (xs ys : List Int), Bytes xs → Bytes ys → xs.map bv = ys.map bv → xs = ys
  | [], [], _, _, _ => rfl
  | x :: xs, y :: ys, hx, hy, h => by
    rw [List.map_cons, List.map_cons] at h
    injection h with h1 h2
    have k1 := hx x (by simp)
    have k2 := hy y (by simp)
    have h3 : x = y := by
      have := congrArg BitVec.toNat h1
      rw [bv_toNat k1, bv_toNat k2] at this
      omega
    rw [h3, map_bv_inj xs ys (fun z hz => hx z (List.mem_cons_of_mem _ hz)) (fun z hz => hy z (List.mem_cons_of_mem _ hz)) h2]
  | [], _ :: _, _, _, h => by cases h
  | _ :: _, [], _, _, h => by cases h
theorem cpl_not (a b : B32) (h : ~~~ a = ~~~ b) : a = b := by
  have := congrArg (fun x => ~~~ x) h
  simpa using this
end Go.Proofs.YtiiklnghnifmjaaDoor.Crc
