/- The check sum's ways over 32 bits: a linear way, bit by bit; noughts behind; sums joined. -/
import Derived.Test.YtjcpjkdadigkpaaDoorCrcB
import Derived.Lib.TrailingZeros
set_option linter.unusedVariables false
set_option linter.unusedSimpArgs false
namespace Go.Proofs.YtjcpjkdadigkpaaDoor.Crc
open Go.RowKit Go.Proofs.YtjcpjkdadigkpaaDoor.Sx

def one32 (k : Nat) : B32 := 1#32 <<< k
/-- What each bit alone comes to. -/
def colI (f : B32 → B32) : List Int := (List.range 32).map fun k => ((f (one32 k)).toNat : Int)
def colV (f : B32 → B32) (k : Nat) : Value := .int .u32 ((f (one32 k)).toNat : Int)
def colN (f : B32 → B32) (n : Nat) : Array Value := ((List.range 32).map fun j => if j < n then colV f j else .int .u32 0).toArray
theorem colN_size (f : B32 → B32) (n : Nat) : (colN f n).size = 32 := by simp [colN]
theorem colI_length (f : B32 → B32) : (colI f).length = 32 := by simp [colI]
theorem colI_at (f : B32 → B32) {k : Nat} (h : k < 32) : (colI f)[k]? = some ((f (one32 k)).toNat : Int) := by
  simp [colI, List.getElem?_map, List.getElem?_range h]
theorem colN_all (f : B32 → B32) : (colN f 32).toList = (colI f).map (Value.int .u32) := by
  simp only [colN, colI, List.toList_toArray, List.map_map]
  apply List.map_congr_left
  intro j hj
  rw [if_pos (by simpa using hj)]
  rfl
theorem colN_step (f : B32 → B32) (k : Nat) (hk : k < 32) : spl (colN f k) (0 + (k : Int).toNat * 1) #[colV f k] = colN f (k + 1) := by
  rw [spl_one _ _ _ (by rw [colN_size]; simpa using hk)]
  apply Array.ext
  · simp [colN]
  · intro i h1 h2
    have hi : i < 32 := by rw [colN_size] at h2; exact h2
    rw [Array.getElem_setIfInBounds (by rw [colN_size]; exact hi)]
    simp only [colN, List.getElem_toArray, List.getElem_map, List.getElem_range, Int.toNat_natCast, Nat.zero_add, Nat.mul_one]
    by_cases e : k = i
    · subst e; simp
    · rw [if_neg e]
      by_cases h : i < k
      · rw [if_pos h, if_pos (by omega)]
      · rw [if_neg h, if_neg (by omega)]
theorem colN_zero (f : B32 → B32) : colN f 0 = (List.replicate 32 (Value.int .u32 0)).toArray := by
  unfold colN
  congr 1
theorem stpB_one (c : B32) : stpB 1 c = bitB c := rfl
theorem bit_one_zero : bitB (one32 0) = poly := by decide +kernel
theorem bit_one (k : Nat) (h : 0 < k) (hk : k < 32) : (((bitB (one32 k)).toNat : Nat) : Int) = IntKind.u32.wrap (1 * 2 ^ (min (((k : Int) - 1).toNat) 32)) := by
  have : ∀ k, k < 32 → 0 < k → (((bitB (one32 k)).toNat : Nat) : Int) = IntKind.u32.wrap (1 * 2 ^ (min (((k : Int) - 1).toNat) 32)) := by decide +kernel
  exact this k hk h
theorem col_first : #[Value.int .u32 3988292384] ++ (List.replicate 31 (Value.int .u32 0)).toArray = colN (stpB 1) 1 := by
  have : (((stpB 1 (one32 0)).toNat : Nat) : Int) = 3988292384 := by decide +kernel
  unfold colN
  simp only [List.range, List.range.loop, List.map_cons, List.map_nil]
  simp [colV, this]

/-! ### the lowest bit -/
theorem low_bit (y : B32) (h : y ≠ 0#32) : ∃ k, k < 32 ∧ k = Lib.ctz 32 y.toNat ∧ y &&& (y - 1#32) = y ^^^ one32 k ∧ (y &&& (y - 1#32)).toNat < y.toNat := by
  have h0 : 0 < y.toNat := by
    apply Nat.pos_of_ne_zero
    intro e
    exact h (BitVec.eq_of_toNat_eq (by simpa using e))
  obtain ⟨m, hm, hk⟩ := Lib.ctzFrom_spec 32 y.toNat h0 y.isLt
  have hc : Lib.ctz 32 y.toNat = Lib.ctzFrom 32 y.toNat := by unfold Lib.ctz; rw [if_neg (by omega)]
  refine ⟨_, hk, hc.symm, ?_⟩
  generalize Lib.ctzFrom 32 y.toNat = k at hm hk
  have hp : 0 < 2 ^ k := Nat.pow_pos (by decide)
  have hy : y.toNat = 2 ^ k * (2 * m + 1) + 0 := hm
  have hy2 : 2 ^ k * (2 * m + 1) = 2 ^ k * (2 * m) + 2 ^ k := by rw [Nat.mul_add, Nat.mul_one]
  have hs : (y - 1#32).toNat = 2 ^ k * (2 * m) + (2 ^ k - 1) := by
    rw [BitVec.toNat_sub]
    have := y.isLt
    simp only [BitVec.toNat_ofNat]
    omega
  have hone : (one32 k).toNat = 2 ^ k := by
    unfold one32
    rw [BitVec.toNat_shiftLeft, BitVec.toNat_ofNat, Nat.shiftLeft_eq]
    have : 2 ^ k < 2 ^ 32 := Nat.pow_lt_pow_right (by decide) hk
    rw [Nat.mod_eq_of_lt (by decide : 1 < 2 ^ 32), Nat.one_mul, Nat.mod_eq_of_lt this]
  have t1 : ∀ i, y.toNat.testBit i = if i < k then false else (2 * m + 1).testBit (i - k) := by
    intro i
    rw [hy, Nat.testBit_two_pow_mul_add _ hp]
    simp
  have t2 : ∀ i, (y - 1#32).toNat.testBit i = if i < k then (2 ^ k - 1).testBit i else (2 * m).testBit (i - k) := by
    intro i
    rw [hs, Nat.testBit_two_pow_mul_add _ (by omega)]
  have t3 : ∀ i, (2 ^ k * (2 * m)).testBit i = if i < k then false else (2 * m).testBit (i - k) := by
    intro i
    rw [Nat.testBit_two_pow_mul]
    by_cases h : i < k
    · rw [if_pos h]; simp; omega
    · rw [if_neg h]; simp; omega
  have odd : ∀ j, (2 * m + 1).testBit j = ((2 * m).testBit j ^^ decide (j = 0)) := by
    intro j
    cases j with
    | zero => simp [Nat.testBit_zero]
    | succ j => rw [Nat.testBit_succ, Nat.testBit_succ, show (2 * m + 1) / 2 = m by omega, show 2 * m / 2 = m by omega]; simp
  have e1 : (y &&& (y - 1#32)).toNat = 2 ^ k * (2 * m) := by
    apply Nat.eq_of_testBit_eq
    intro i
    rw [BitVec.toNat_and, Nat.testBit_and, t1, t2, t3]
    by_cases h : i < k
    · simp [h]
    · simp only [if_neg h, odd]
      by_cases h0 : i - k = 0
      · rw [h0]; simp [Nat.testBit_zero]
      · simp [h0]
  have e2 : (y ^^^ one32 k).toNat = 2 ^ k * (2 * m) := by
    apply Nat.eq_of_testBit_eq
    intro i
    rw [BitVec.toNat_xor, Nat.testBit_xor, hone, t1, t3, Nat.testBit_two_pow]
    by_cases h : i < k
    · simp [h]; omega
    · simp only [if_neg h, odd]
      by_cases h0 : i = k
      · subst h0; simp
      · have : ¬ (i - k = 0) := by omega
        have : ¬ (k = i) := by omega
        simp [*]
  refine ⟨BitVec.eq_of_toNat_eq (e1.trans e2.symm), ?_⟩
  rw [e1, hm, hy2]
  omega
theorem dec_B (y : B32) : bits .and .u32 (y.toNat : Int) (IntKind.u32.wrap ((y.toNat : Int) - 1)) = ((y &&& (y - 1#32)).toNat : Int) := by
  have : IntKind.u32.wrap ((y.toNat : Int) - 1) = ((y - 1#32).toNat : Int) := by
    rw [IntKind.wrap_u32, BitVec.toNat_sub]
    simp only [BitVec.toNat_ofNat]
    omega
  rw [this, band]

/-! ### linear ways -/
def Lin (f : B32 → B32) : Prop := ∀ a b, f (a ^^^ b) = f a ^^^ f b
theorem Lin.zero {f : B32 → B32} (h : Lin f) : f 0#32 = 0#32 := by
  have := h 0#32 0#32
  rw [BitVec.xor_self, BitVec.xor_self] at this
  exact this
theorem lin_stp (i : Nat) : Lin (stpB i) := stp_lin i
theorem lin_self (x : B32) : x ^^^ x = 0#32 := BitVec.xor_self
theorem of_step {f : B32 → B32} (h : Lin f) (x y : B32) (k : Nat) : f (x ^^^ y) ^^^ f (one32 k) = f (x ^^^ (y ^^^ one32 k)) := by
  rw [← h, BitVec.xor_assoc]
theorem stp_two (i : Nat) : (fun c => stpB i (stpB i c)) = stpB (i + i) := by
  funext c; rw [stp_add]

/-! ### noughts, and sums joined -/
theorem bv0 : bv 0 = 0#32 := by decide
theorem fold_noughts (n : Nat) : ∀ c : B32, (List.replicate n (0#32 : B32)).foldl byteB c = stpB (8 * n) c := by
  induction n with
  | zero => intro c; rfl
  | succ n ih =>
    intro c
    rw [List.replicate_succ, List.foldl_cons, ih, byte_stp, BitVec.xor_zero, stp_add]
    rfl
def shiftB (c : B32) (n : Nat) : B32 := stpB (8 * n) c
def noughtsB (s : B32) (n : Nat) : B32 := ~~~ (shiftB (~~~ s) n)
theorem noughts_more (s : B32) (n : Nat) : noughtsB s n = moreB s (List.replicate n 0#32) := by
  unfold noughtsB moreB shiftB
  rw [fold_noughts]
theorem noughts_add (s : B32) (n m : Nat) : noughtsB (noughtsB s n) m = noughtsB s (n + m) := by
  unfold noughtsB shiftB
  rw [BitVec.not_not, stp_add]
  congr 2
  omega
theorem noughts_zero (s : B32) : noughtsB s 0 = s := by
  unfold noughtsB shiftB
  rw [show 8 * 0 = 0 from rfl]
  simp [stpB]
theorem fold_from (ys : List B32) (a b : B32) : ys.foldl byteB (a ^^^ b) = stpB (8 * ys.length) a ^^^ ys.foldl byteB b := by
  have h := fold_lin2 (List.replicate ys.length 0#32) ys a b (by simp)
  rw [fold_noughts] at h
  rw [← h]
  congr 1
  clear h
  induction ys with
  | nil => rfl
  | cons y ys ih => simp only [List.length_cons, List.replicate_succ, List.zipWith_cons_cons, BitVec.zero_xor]; rw [← ih]
def joinB (a b : B32) (n : Nat) : B32 := shiftB a n ^^^ b
theorem join_law (xs ys : List B32) : joinB (moreB 0#32 xs) (moreB 0#32 ys) ys.length = moreB 0#32 (xs ++ ys) := by
  unfold joinB moreB shiftB
  rw [List.foldl_append]
  generalize xs.foldl byteB (~~~ 0#32) = p
  have h := fold_from ys (~~~ p) (~~~ 0#32)
  have e : ~~~ p ^^^ ~~~ 0#32 = p := by
    rw [show (~~~ 0#32 : B32) = BitVec.allOnes 32 by decide, BitVec.xor_allOnes, BitVec.not_not]
  rw [e] at h
  rw [h]
  apply BitVec.eq_of_getLsbD_eq
  intro i hi
  simp only [BitVec.getLsbD_not, BitVec.getLsbD_xor, hi, decide_true, Bool.true_and]
  cases (stpB (8 * ys.length) (~~~ p)).getLsbD i <;> cases (ys.foldl byteB (~~~ 0#32)).getLsbD i <;> rfl
theorem more_more (s : B32) (xs ys : List B32) : moreB (moreB s xs) ys = moreB s (xs ++ ys) := by
  unfold moreB
  rw [BitVec.not_not, List.foldl_append]

/-! ### words for the walks -/
def col1 : Array Value := #[Value.int .u32 3988292384] ++ (List.replicate 31 (Value.int .u32 0)).toArray
def col0 : Array Value := (List.replicate 32 (Value.int .u32 0)).toArray
theorem col1_eq : col1 = colN (stpB 1) 1 := col_first
theorem col0_eq (f : B32 → B32) : col0 = colN f 0 := (colN_zero f).symm
theorem xorF (s : B32) : bits .xor .u32 (s.toNat : Int) 4294967295 = ((~~~ s).toNat : Int) := by
  rw [show (4294967295 : Int) = ((BitVec.allOnes 32).toNat : Int) by decide, bxor, BitVec.xor_allOnes]
theorem low_rem (c : B32) : (c.toNat : Int).tmod 2 = (c.toNat : Int) % 2 := Int.tmod_eq_emod_of_nonneg (by omega)
theorem quo2 (c : B32) : IntKind.u32.wrap ((c.toNat : Int).tdiv 2) = (c.toNat : Int) / 2 := by
  rw [Int.tdiv_eq_ediv_of_nonneg (by omega), IntKind.wrap_u32]
  have := c.isLt
  omega
theorem half_B (c : B32) : (c.toNat : Int) / (2 : Int) = ((c >>> 1).toNat : Int) := by
  rw [BitVec.toNat_ushiftRight, Nat.shiftRight_eq_div_pow]; omega
theorem low_bit_of (c : B32) : c.getLsbD 0 = decide ((c.toNat : Int) % 2 = 1) := by
  show c.toNat.testBit 0 = _
  rw [Nat.testBit_zero]
  have : (c.toNat % 2 = 1) ↔ ((c.toNat : Int) % 2 = 1) := by omega
  simp only [this]
theorem ref_odd (c : B32) (h : (c.toNat : Int) % 2 = 1) : bits .xor .u32 ((c.toNat : Int) / 2) 3988292384 = ((bitB c).toNat : Int) := by
  rw [half_B]
  unfold bitB
  rw [low_bit_of, decide_eq_true h, if_pos rfl]
  exact bxor _ poly
theorem ref_even (c : B32) (h : ¬ (c.toNat : Int) % 2 = 1) : (c.toNat : Int) / 2 = ((bitB c).toNat : Int) := by
  rw [half_B, bit_even]
  rw [low_bit_of, decide_eq_false h]
theorem foldB_step {xs : List Int} {i : Nat} (h : (i : Int) < xs.length) (c : B32) : stpB 8 ((((xs.take i).map bv).foldl byteB c) ^^^ bv (gi xs i)) = ((xs.take (i + 1)).map bv).foldl byteB c := by
  have hi : i < xs.length := by omega
  rw [List.take_succ_eq_append_getElem hi, List.map_append, List.foldl_append, List.map_cons, List.map_nil, List.foldl_cons, List.foldl_nil, byte_stp]
  simp [gi, List.getD_eq_getElem?_getD, List.getElem?_eq_getElem hi]
theorem and1_i64 (q : Int) : bits .and .i64 q 1 = q % 2 := by
  show IntKind.i64.wrap ((BitVec.ofInt 64 q &&& BitVec.ofInt 64 1).toNat : Int) = _
  rw [show BitVec.ofInt 64 1 = 1#64 by decide, BitVec.toNat_and, BitVec.toNat_ofInt, show (1#64 : BitVec 64).toNat = 1 by rfl, Nat.and_one_is_mod, IntKind.wrap_i64]
  omega
theorem shr1 (q : Int) : q.fdiv (2 ^ (min (Int.toNat 1) 64)) = q / 2 := by
  rw [show (2 : Int) ^ (min (Int.toNat 1) 64) = 2 by decide, Int.fdiv_eq_ediv_of_nonneg _ (by decide)]
theorem round_odd {d : Nat} {q : Int} {y r : B32} (hq : 0 < q) (h : q % 2 = 1) (hf : stpB (d * q.toNat) y = r) : stpB ((d + d) * (q / 2).toNat) (stpB d y) = r := by
  rw [stp_add, ← hf]
  congr 1
  have : q.toNat = 2 * (q / 2).toNat + 1 := by omega
  rw [this, Nat.mul_add, Nat.add_mul, ← Nat.mul_assoc, Nat.mul_comm d 2, Nat.mul_assoc 2, Nat.two_mul]; simp
theorem round_even {d : Nat} {q : Int} {y r : B32} (hq : 0 < q) (h : ¬ q % 2 = 1) (hf : stpB (d * q.toNat) y = r) : stpB ((d + d) * (q / 2).toNat) y = r := by
  rw [← hf]
  congr 1
  have : q.toNat = 2 * (q / 2).toNat := by omega
  rw [this, Nat.add_mul, ← Nat.mul_assoc, Nat.mul_comm d 2, Nat.mul_assoc 2, Nat.two_mul]
theorem mx_toNat (n : Int) : mx n 0 = ((n.toNat : Nat) : Int) := by unfold mx; split <;> omega
theorem own_eq (xs : List Int) : (([] ++ xs) ++ [7]).take (xs.length : Int).toNat = xs := by simp
def pk3 {α : Type} (k : Nat) (a b c : α) : α := if k = 0 then a else if k = 1 then b else c
theorem three_at {A0 A1 A2 : Option Addr} {n0 n1 n2 c0 c1 c2 k : Nat} (h : k < 3) : (#[.slice A0 n0 c0, .slice A1 n1 c1, .slice A2 n2 c2] : Array Value)[0 + (k : Int).toNat * 1]? = some (.slice (pk3 k A0 A1 A2) (pk3 k n0 n1 n2) (pk3 k c0 c1 c2)) := by
  have : k = 0 ∨ k = 1 ∨ k = 2 := by omega
  rcases this with rfl | rfl | rfl <;> rfl
theorem pk3_le {k n0 n1 n2 : Nat} (h : k < 3) (h0 : 0 < k → n0 ≤ 3000) (h1 : 1 < k → n1 ≤ 3000) (h2 : 2 < k → n2 ≤ 3000) (hk : pk3 k n0 n1 n2 ≤ 3000) : (0 < k + 1 → n0 ≤ 3000) ∧ (1 < k + 1 → n1 ≤ 3000) ∧ (2 < k + 1 → n2 ≤ 3000) := by
  have : k = 0 ∨ k = 1 ∨ k = 2 := by omega
  rcases this with rfl | rfl | rfl <;> simp [pk3] at hk ⊢ <;> omega
def tabI : List Int := Lib.deBruijn32tab.map fun n : Nat => (n : Int)
theorem tab_length : tabI.length = 32 := by decide
/-- Where the lowest bit's number stands in the table. -/
theorem tz_key (y : B32) (hy : y ≠ 0#32) : ∃ i : Nat, i < 32 ∧ (IntKind.u32.wrap (bits .and .u32 (y.toNat : Int) (IntKind.u32.wrap (0 - (y.toNat : Int))) * 125613361)).fdiv (2 ^ (min (Int.toNat 27) 32)) = (i : Int) ∧ tabI[i]? = some ((Lib.ctz 32 y.toNat : Nat) : Int) := by
  have h0 : y.toNat ≠ 0 := fun e => hy (BitVec.eq_of_toNat_eq (by simpa using e))
  obtain ⟨hlow, hk⟩ := Lib.lowest_bit 32 y.toNat h0 y.isLt
  obtain ⟨hi, htab⟩ := Lib.deBruijn32_at _ hk
  refine ⟨_, hi, ?_, ?_⟩
  · have e1 : IntKind.u32.wrap (0 - (y.toNat : Int)) = ((0#32 - y).toNat : Int) := by
      rw [IntKind.wrap_u32, BitVec.toNat_sub]
      have := y.isLt
      simp only [BitVec.toNat_ofNat]
      omega
    have e2 : (y &&& (0#32 - y)).toNat = 2 ^ Lib.ctz 32 y.toNat := by
      rw [BitVec.toNat_and, ← hlow]
      congr 1
      rw [BitVec.toNat_sub]
      have := y.isLt
      simp only [BitVec.toNat_ofNat]
      omega
    rw [e1, band, e2, IntKind.wrap_u32, show (2 : Int) ^ (min (Int.toNat 27) 32) = 134217728 by decide, Int.fdiv_eq_ediv_of_nonneg _ (by decide)]
    generalize 2 ^ Lib.ctz 32 y.toNat = p
    omega
  · unfold tabI
    rw [List.getElem?_map]
    rw [List.getD_eq_getElem?_getD] at htab
    generalize hx : Lib.deBruijn32tab[2 ^ Lib.ctz 32 y.toNat * 125613361 % 4294967296 / 134217728]? = o at htab ⊢
    cases o with
    | none => exfalso; rw [List.getElem?_eq_none_iff] at hx; have : Lib.deBruijn32tab.length = 32 := (by decide); omega
    | some u => simp at htab; simp [htab]
end Go.Proofs.YtjcpjkdadigkpaaDoor.Crc
