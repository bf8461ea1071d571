/- The great sort, plain: what each step of the kit's plain functions says, as the walks meet them. -/
import Derived.Test.YtlcnoibjhmflnaaSrt
set_option linter.unusedVariables false
set_option linter.unusedSimpArgs false
namespace Go.Proofs.Ytlcnoibjhmflnaa.Sx
open Go.RowKit Go.Sort
section
variable {d dk d1 d2 : Array Int} {i j la lb a b hi first r ch m n s i2 j2 pv : Nat} {c : Bool}
/-- The cond of a scan. -/
theorem sc_f {P : Prop} [Decidable P] {x : Bool} (h : ¬ P) : false = (decide P && x) := by simp [h]
theorem sc_t {P : Prop} [Decidable P] {x y : Bool} (h : P) (e : x = y) : x = (decide P && y) := by simp [h, e]
theorem sc_of {P : Prop} [Decidable P] {x : Bool} (h : c = (decide P && x)) (hc : c = true) : P ∧ x = true := by subst h; simpa using hc
theorem sc_no {P : Prop} [Decidable P] {x : Bool} (h : c = (decide P && x)) (hc : c = false) : (decide P && x) = false := by rw [← h]; exact hc
theorem lt_g (d : Array Int) (i j : Nat) : decide (gi d.toList (i : Int) < gi d.toList (j : Int)) = ltInt d[i]! d[j]! := by rw [gi_arr, gi_arr]; rfl
theorem nlt_g (d : Array Int) (i j : Nat) : (!decide (gi d.toList (i : Int) < gi d.toList (j : Int))) = !ltInt d[i]! d[j]! := by rw [lt_g]
theorem scanUp_on {p : Int → Bool} (h : i ≤ j ∧ p d[i]! = true) : scanUp p d j (i + 1) = scanUp p d j i := by
  conv => rhs; unfold scanUp
  rw [if_pos (by simp only [Bool.and_eq_true, decide_eq_true_eq]; exact h)]
theorem scanUp_off {p : Int → Bool} (h : (decide (i ≤ j) && p d[i]!) = false) : scanUp p d j i = i := by
  unfold scanUp; rw [if_neg (by rw [h]; decide)]
theorem scanDown_on {p : Int → Bool} (hj : 1 ≤ j) (h : i ≤ j ∧ p d[j]! = true) : scanDown p d i (j - 1) = scanDown p d i j := by
  cases j with
  | zero => omega
  | succ j =>
    conv => rhs; unfold scanDown
    rw [if_pos (by simp only [Bool.and_eq_true, decide_eq_true_eq]; exact h)]; rfl
theorem scanDown_off {p : Int → Bool} (h : (decide (i ≤ j) && p d[j]!) = false) : scanDown p d i j = j := by
  cases j with
  | zero => rfl
  | succ j => unfold scanDown; rw [if_neg (by rw [h]; decide)]
theorem scanUp_le {p : Int → Bool} (d : Array Int) (j i : Nat) : i ≤ scanUp p d j i := by
  fun_induction scanUp p d j i with
  | case1 => omega
  | case2 => omega
theorem scanDown_le {p : Int → Bool} (d : Array Int) (i j : Nat) : scanDown p d i j ≤ j := by
  induction j with
  | zero => simp [scanDown]
  | succ j ih => unfold scanDown; split <;> omega
theorem part_step (h1 : scanUp (fun x => ltInt x d[a]!) d j i = i2) (h2 : scanDown (fun x => !ltInt x d[a]!) d i2 j = j2) (h3 : i2 ≤ j2) (hi1 : 1 ≤ i) : partLoop ltInt a (i2 + 1) (j2 - 1) (swp d i2 j2) = partLoop ltInt a i j d := by
  have e1 := scanUp_le (p := fun x => ltInt x d[a]!) d j i
  have e2 := scanDown_le (p := fun x => !ltInt x d[a]!) d i2 j
  conv => rhs; unfold partLoop
  simp only [h1, h2]
  rw [if_neg (by omega), dif_pos (by omega)]
theorem part_stop (h1 : scanUp (fun x => ltInt x d[a]!) d j i = i2) (h2 : scanDown (fun x => !ltInt x d[a]!) d i2 j = j2) (h3 : j2 < i2) : partLoop ltInt a i j d = (j2, d) := by
  unfold partLoop
  simp only [h1, h2]
  rw [if_pos h3]
theorem partition_a (hd : d1 = swp d a pv) (h1 : scanUp (fun x => ltInt x d1[a]!) d1 (b - 1) (a + 1) = i) (h2 : scanDown (fun x => !ltInt x d1[a]!) d1 i (b - 1) = j) (h3 : j < i) : partition ltInt d a b pv = (j, true, swp d1 j a) := by
  subst hd; unfold partition; simp only [h1, h2]; rw [if_pos h3]
theorem partition_b (hd : d1 = swp d a pv) (h1 : scanUp (fun x => ltInt x d1[a]!) d1 (b - 1) (a + 1) = i) (h2 : scanDown (fun x => !ltInt x d1[a]!) d1 i (b - 1) = j) (h3 : ¬ j < i) (h4 : partLoop ltInt a (i + 1) (j - 1) (swp d1 i j) = (m, d2)) : partition ltInt d a b pv = (m, false, swp d2 m a) := by
  subst hd; unfold partition; simp only [h1, h2]; rw [if_neg h3, h4]
theorem partEq_step (h1 : scanUp (fun x => !ltInt d[a]! x) d j i = i2) (h2 : scanDown (fun x => ltInt d[a]! x) d i2 j = j2) (h3 : i2 ≤ j2) (hi1 : 1 ≤ i) : partEqLoop ltInt a (i2 + 1) (j2 - 1) (swp d i2 j2) = partEqLoop ltInt a i j d := by
  have e1 := scanUp_le (p := fun x => !ltInt d[a]! x) d j i
  have e2 := scanDown_le (p := fun x => ltInt d[a]! x) d i2 j
  conv => rhs; unfold partEqLoop
  simp only [h1, h2]
  rw [if_neg (by omega), dif_pos (by omega)]
theorem partEq_stop (h1 : scanUp (fun x => !ltInt d[a]! x) d j i = i2) (h2 : scanDown (fun x => ltInt d[a]! x) d i2 j = j2) (h3 : j2 < i2) : partEqLoop ltInt a i j d = (i2, d) := by
  unfold partEqLoop
  simp only [h1, h2]
  rw [if_pos h3]
theorem partitionEqual_a (hd : d1 = swp d a pv) (h4 : partEqLoop ltInt a (a + 1) (b - 1) d1 = (m, d2)) : partitionEqual ltInt d a b pv = (m, d2) := by subst hd; exact h4
/-- The heap. -/
def chil (hi first r : Nat) (d : Array Int) : Nat := if (decide (2 * r + 1 + 1 < hi) && ltInt d[first + (2 * r + 1)]! d[first + (2 * r + 1) + 1]!) = true then 2 * r + 1 + 1 else 2 * r + 1
theorem chil_t (hc : c = (decide (2 * r + 1 + 1 < hi) && ltInt d[first + (2 * r + 1)]! d[first + (2 * r + 1) + 1]!)) (h : c = true) : 2 * r + 1 + 1 = chil hi first r d := by unfold chil; rw [← hc, h]; rfl
theorem chil_f (hc : c = (decide (2 * r + 1 + 1 < hi) && ltInt d[first + (2 * r + 1)]! d[first + (2 * r + 1) + 1]!)) (h : c = false) : 2 * r + 1 = chil hi first r d := by unfold chil; rw [← hc, h]; rfl
theorem sd_stop1 (h : hi ≤ 2 * r + 1) : siftDown ltInt hi first r d = d := by unfold siftDown; rw [dif_pos h]
theorem sd_stop2 (h : 2 * r + 1 < hi) (hc : ch = chil hi first r d) (hl : (!ltInt d[first + r]! d[first + ch]!) = true) : siftDown ltInt hi first r d = d := by
  unfold siftDown; rw [dif_neg (by omega)]
  unfold chil at hc
  split
  · rename_i h1; rw [if_pos h1] at hc; subst hc; rw [if_pos hl]
  · rename_i h1; rw [if_neg h1] at hc; subst hc; rw [if_pos hl]
theorem sd_step (h : 2 * r + 1 < hi) (hc : ch = chil hi first r d) (hch : ch < hi) (hl : ¬ (!ltInt d[first + r]! d[first + ch]!) = true) : siftDown ltInt hi first ch (swp d (first + r) (first + ch)) = siftDown ltInt hi first r d := by
  conv => rhs; unfold siftDown
  rw [dif_neg (by omega)]
  unfold chil at hc
  split
  · rename_i h1; rw [if_pos h1] at hc; subst hc; rw [if_neg hl, dif_pos hch]
  · rename_i h1; rw [if_neg h1] at hc; subst hc; rw [if_neg hl]
theorem siftDown_size (hi first r : Nat) (d : Array Int) : (siftDown ltInt hi first r d).size = d.size := by
  fun_induction siftDown ltInt hi first r d <;> simp_all [swp_size]
theorem hb_step (h : 1 ≤ n) : heapBuild ltInt hi first (n - 1) (siftDown ltInt hi first (n - 1) d) = heapBuild ltInt hi first n d := by
  cases n with
  | zero => omega
  | succ n => rfl
theorem hp_step (h : 1 ≤ n) : heapPop ltInt first (n - 1) (siftDown ltInt (n - 1) first 0 (swp d first (first + (n - 1)))) = heapPop ltInt first n d := by
  cases n with
  | zero => omega
  | succ n => rfl
theorem heapSort_a (hab : la ≤ lb) (h1 : heapBuild ltInt (lb - la) la 0 d1 = heapBuild ltInt (lb - la) la ((lb - la - 1) / 2 + 1) d) (h2 : heapPop ltInt la 0 d2 = heapPop ltInt la (lb - la) d1) : d2 = heapSort ltInt d la lb := by
  unfold heapSort; rw [← h1]; exact h2
/-- The partial insertion sort. -/
theorem ss_on (h : i < b ∧ (!ltInt d[i]! d[i - 1]!) = true) : scanSorted ltInt d b (i + 1) = scanSorted ltInt d b i := by
  conv => rhs; unfold scanSorted
  rw [if_pos (by simp only [Bool.and_eq_true, decide_eq_true_eq]; exact h)]
theorem ss_off (h : (decide (i < b) && !ltInt d[i]! d[i - 1]!) = false) : scanSorted ltInt d b i = i := by
  unfold scanSorted; rw [if_neg (by rw [h]; decide)]
theorem sdn_on (hj : 1 ≤ j) (h : ¬ (!ltInt d[j]! d[j - 1]!) = true) : shiftDown ltInt (j - 1) (swp d j (j - 1)) = shiftDown ltInt j d := by
  cases j with
  | zero => omega
  | succ j =>
    rw [Nat.add_sub_cancel] at h ⊢
    conv => rhs; unfold shiftDown
    rw [if_neg h]
theorem sdn_off1 (h : ¬ 1 ≤ j) : shiftDown ltInt j d = d := by cases j with | zero => rfl | succ j => omega
theorem sdn_off2 (h : (!ltInt d[j]! d[j - 1]!) = true) : shiftDown ltInt j d = d := by
  cases j with
  | zero => rfl
  | succ j => rw [Nat.add_sub_cancel] at h; unfold shiftDown; rw [if_pos h]
theorem sup_on (hj : j < b) (h : ¬ (!ltInt d[j]! d[j - 1]!) = true) : shiftUp ltInt b (j + 1) (swp d j (j - 1)) = shiftUp ltInt b j d := by
  conv => rhs; unfold shiftUp
  rw [if_pos hj, if_neg h]
theorem sup_off1 (h : ¬ j < b) : shiftUp ltInt b j d = d := by unfold shiftUp; rw [if_neg h]
theorem sup_off2 (h : (!ltInt d[j]! d[j - 1]!) = true) : shiftUp ltInt b j d = d := by
  unfold shiftUp; rw [if_pos h]; split <;> rfl
theorem pi_true {k : Nat} (hk : 1 ≤ k) (h1 : scanSorted ltInt d b i = i2) (h2 : i2 = b) : partialIns ltInt a b k i d = (d, true) := by
  cases k with
  | zero => omega
  | succ s => unfold partialIns; simp only [h1]; rw [if_pos h2]
theorem pi_short {k : Nat} (hk : 1 ≤ k) (h1 : scanSorted ltInt d b i = i2) (h2 : ¬ i2 = b) (h3 : b - a < 50) : partialIns ltInt a b k i d = (d, false) := by
  cases k with
  | zero => omega
  | succ s => unfold partialIns; simp only [h1]; rw [if_neg h2, if_pos h3]
theorem pi_step {k : Nat} (hk : 1 ≤ k) (h1 : scanSorted ltInt d b i = i2) (h2 : ¬ i2 = b) (h3 : ¬ b - a < 50) (h4 : d1 = if i2 - a ≥ 2 then shiftDown ltInt (i2 - 1) (swp d i2 (i2 - 1)) else swp d i2 (i2 - 1)) (h5 : d2 = if b - i2 ≥ 2 then shiftUp ltInt b (i2 + 1) d1 else d1) : partialIns ltInt a b (k - 1) i2 d2 = partialIns ltInt a b k i d := by
  cases k with
  | zero => omega
  | succ s =>
    conv => rhs; unfold partialIns
    simp only [h1]; rw [if_neg h2, if_neg h3, ← h4, ← h5]; rfl
theorem pi_zero {k : Nat} (hk : k = 0) : partialIns ltInt a b k i d = (d, false) := by subst hk; rfl
end
theorem quoN (x y : Nat) (hy : 0 < y) (hx : x < 1000000000000) (hy2 : y < 1000000000000) : IntKind.i64.wrap ((x : Int).tdiv (y : Int)) = ((x / y : Nat) : Int) := by
  have h1 : (x : Int).tdiv (y : Int) = ((x / y : Nat) : Int) := by rw [Int.tdiv_eq_ediv_of_nonneg (by omega)]; rfl
  have h2 := Nat.div_le_self x y
  rw [h1]
  generalize x / y = q at *
  rw [w64 (by omega) (by omega)]
theorem len_lo {x s n : Nat} (b : Nat) (h : x * 2 ^ s ≤ n) : x / 2 ^ b * 2 ^ (s + b) ≤ n := by
  have h1 := Nat.div_mul_le_self x (2 ^ b)
  calc x / 2 ^ b * 2 ^ (s + b) = (x / 2 ^ b * 2 ^ b) * 2 ^ s := by rw [Nat.pow_add, Nat.mul_assoc, Nat.mul_comm (2 ^ b)]
    _ ≤ x * 2 ^ s := Nat.mul_le_mul_right _ h1
    _ ≤ n := h
theorem len_hi {x s n : Nat} (b : Nat) (h : n < (x + 1) * 2 ^ s) : n < (x / 2 ^ b + 1) * 2 ^ (s + b) := by
  have h1 : x + 1 ≤ (x / 2 ^ b + 1) * 2 ^ b := Nat.lt_mul_of_div_lt (Nat.lt_succ_self _) (Nat.two_pow_pos b)
  calc n < (x + 1) * 2 ^ s := h
    _ ≤ ((x / 2 ^ b + 1) * 2 ^ b) * 2 ^ s := Nat.mul_le_mul_right _ h1
    _ = (x / 2 ^ b + 1) * 2 ^ (s + b) := by rw [Nat.pow_add, Nat.mul_assoc, Nat.mul_comm (2 ^ b)]
theorem len_fin {x s n l : Nat} (h1 : x * 2 ^ s ≤ n) (h2 : n < (x + 1) * 2 ^ s) (h3 : 2 ^ l ≤ 2 * x ∨ x = 0 ∧ l = 0) (h4 : x < 2 ^ l) (h6 : n = 0 ∨ 0 < x) : n < 2 ^ (s + l) ∧ (0 < n → 2 ^ (s + l) ≤ 2 * n) := by
  refine ⟨?_, fun hn => ?_⟩
  · calc n < (x + 1) * 2 ^ s := h2
      _ ≤ 2 ^ l * 2 ^ s := Nat.mul_le_mul_right _ h4
      _ = 2 ^ (s + l) := by rw [Nat.pow_add, Nat.mul_comm]
  · rcases h3 with h3 | ⟨h3, h5⟩
    · calc 2 ^ (s + l) = 2 ^ l * 2 ^ s := by rw [Nat.pow_add, Nat.mul_comm]
        _ ≤ 2 * x * 2 ^ s := Nat.mul_le_mul_right _ h3
        _ ≤ 2 * n := by rw [Nat.mul_assoc]; omega
    · omega
theorem shl1 {n l : Nat} (h : n < 2 ^ l ∧ (0 < n → 2 ^ l ≤ 2 * n)) (h0 : 0 < n) (hn : n < 1000000000) : IntKind.u64.wrap (1 * 2 ^ (min (Int.toNat (l : Int)) 64)) = ((2 ^ l : Nat) : Int) := by
  have h2 := h.2 h0
  have hl : l < 64 := by
    rcases Nat.lt_or_ge l 64 with h3 | h3
    · exact h3
    · have := Nat.pow_le_pow_right (n := 2) (by decide) h3; omega
  rw [Int.toNat_natCast, Nat.min_eq_left (by omega), Int.one_mul, show ((2 : Int) ^ l) = ((2 ^ l : Nat) : Int) by push_cast; rfl, wu64 (by omega) (by omega)]
theorem half1 (x : Nat) (hx : x < 1000000000000) : IntKind.i64.wrap (((x : Int) - 1).tdiv 2) = ((((x - 1) / 2 + 1 : Nat) : Int) - 1) := by
  have h1 : ((x : Int) - 1).tdiv 2 = (((x - 1) / 2 + 1 : Nat) : Int) - 1 := by
    cases x with
    | zero => decide
    | succ x => rw [show (((x + 1 : Nat) : Int) - 1) = (x : Int) by omega, Int.tdiv_eq_ediv_of_nonneg (by omega)]; omega
  rw [h1, w64 (by omega) (by omega)]
/-- A random number's remainder. -/
theorem and_le (x y : Int) (hy : 0 ≤ y) (hy2 : y < 18446744073709551616) : 0 ≤ bits .and .u64 x y ∧ bits .and .u64 x y ≤ y := by
  obtain ⟨b, rfl⟩ := Int.eq_ofNat_of_zero_le hy
  have hb : (BitVec.ofInt 64 (b : Int)).toNat = b := by simp; omega
  have h := @Nat.and_le_right (BitVec.ofInt 64 x).toNat b
  have e : bits .and .u64 x (b : Int) = (((BitVec.ofInt 64 x).toNat &&& b : Nat) : Int) := by
    show IntKind.u64.wrap ((BitVec.ofInt 64 x &&& BitVec.ofInt 64 (b : Int)).toNat : Int) = _
    rw [BitVec.toNat_and, hb, wu64 (by omega) (by omega)]
  rw [e]
  omega
end Go.Proofs.Ytlcnoibjhmflnaa.Sx
