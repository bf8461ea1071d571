/- Actions: numbers' texts as lists of whole numbers; sums; what the laws ask of them. -/
import Derived.Test.YtiiklnghnifmjaaDoorActD
set_option linter.unusedVariables false
set_option linter.unusedSimpArgs false
namespace Go.Proofs.YtiiklnghnifmjaaDoor.Act
open Go.RowKit Go.Proofs.YtiiklnghnifmjaaDoor.Sx Go.Proofs.YtiiklnghnifmjaaDoor.Cod Go.Proofs.YtiiklnghnifmjaaDoor.Num
theorem nameI_no0 {xs : List Int} (h : (xs.length : Int) = 0) : false = nameI xs := by unfold nameI; rw [decide_eq_false (by omega)]; rfl
theorem st_any {T : TypeId} {w : World} {ok ok' : Nat → Prop} {v : Value} {xs : List StepD} (h : Row StE T w ok v xs) : Row StE T w ok' v xs := by
  obtain ⟨cs, h1, h2, h3⟩ := h
  refine ⟨cs, h1, h2, fun i x hx => ?_⟩
  have := st_cells (h3 i x hx)
  rw [this]
  exact st_mk x
/-! ### the number of a text -/
theorem num_ok {xs : List Int} (hb : Byte xs) {v : Int} (hp : Lib.parseIntB 64 (ofI xs) = .ok v) : (numI xs).isSome = decide (itoaI v = xs) ∧ ∀ u, numI xs = some u → v = u := by
  have hi : (Lib.itoa v = ofI xs) ↔ itoaI v = xs := by
    unfold itoaI
    constructor
    · intro h; rw [h, toI_ofI hb]
    · intro h; rw [← h, ofI_toI]
  unfold numI numT
  rw [hp]
  dsimp only
  by_cases h : Lib.itoa v = ofI xs
  · rw [if_pos h, decide_eq_true (hi.1 h)]; exact ⟨rfl, fun u hu => Option.some.inj hu⟩
  · rw [if_neg h, decide_eq_false (fun e => h (hi.2 e))]; exact ⟨rfl, fun u hu => by cases hu⟩
theorem num_no {xs : List Int} (hp : ∀ v, Lib.parseIntB 64 (ofI xs) ≠ .ok v) : numI xs = none := by
  unfold numI numT
  rcases h : Lib.parseIntB 64 (ofI xs) with v | _ | _
  · exact absurd h (hp v)
  · rfl
  · rfl
def sumI (xs : List Int) (n : Int) : List Int := toI (sumT (ofI xs) n)
def sumEI (xs : List Int) (n : Int) : Int := sumE (ofI xs) n
theorem sumI_byte (xs : List Int) (n : Int) : Byte (sumI xs n) := toI_byte _
theorem sumI_no {xs : List Int} {n : Int} (h : (numI xs).isSome = false) : sumEI xs n = 92 ∧ sumI xs n = [] := by
  have h' : numT (ofI xs) = none := by
    have : numI xs = none := by cases hx : numI xs with | none => rfl | some v => rw [hx] at h; cases h
    exact this
  have := sum_no (n := n) h'
  exact ⟨this.1, by unfold sumI; rw [this.2]; rfl⟩
theorem sumI_big {xs : List Int} {n x : Int} (h : numI xs = some x) (hf : ¬ Fits (x + n)) : sumEI xs n = 93 ∧ sumI xs n = [] := by
  have := sum_big (s := ofI xs) h hf
  exact ⟨this.1, by unfold sumI; rw [this.2]; rfl⟩
theorem sumI_yes {xs : List Int} {n x : Int} (h : numI xs = some x) (hf : Fits (x + n)) : sumEI xs n = 0 ∧ sumI xs n = itoaI (x + n) := by
  have := sum_yes (s := ofI xs) h hf
  exact ⟨this.1, by unfold sumI itoaI; rw [this.2]⟩
theorem num_is {xs : List Int} (h : (numI xs).isSome = true) : ∃ v, numI xs = some v := Option.isSome_iff_exists.1 h
theorem fits_of {xs : List Int} (hb : Byte xs) {v : Int} (h : numI xs = some v) : Fits v := (numI_some hb h).2
theorem wrap_fits {n : Int} (h : Fits n) : IntKind.i64.wrap n = n := w64 h.1 h.2
/-! ### the sums of a number's text -/
theorem sumI_at {x n : Int} (hx : Fits x) : (Fits (x + n) → sumEI (itoaI x) n = 0 ∧ sumI (itoaI x) n = itoaI (x + n)) ∧ (¬ Fits (x + n) → sumEI (itoaI x) n = 93 ∧ sumI (itoaI x) n = []) :=
  ⟨sumI_yes (numI_itoa hx), sumI_big (numI_itoa hx)⟩
theorem numI_x (n : Int) : numI (itoaI n ++ [120]) = none := by
  unfold numI itoaI
  rw [show ofI (toI (Lib.itoa n) ++ [120]) = Lib.itoa n ++ [120] by unfold ofI; rw [List.map_append]; congr 1; exact ofI_toI _]
  exact numT_x n
theorem numI_0 (n : Int) : numI ([48] ++ itoaI n) = none := by
  unfold numI itoaI
  rw [show ofI ([48] ++ toI (Lib.itoa n)) = 48 :: Lib.itoa n by unfold ofI; rw [List.map_append]; show _ :: _ = _; congr 1; exact ofI_toI _]
  exact numT_0 n
theorem sumEI_x {x n : Int} : sumEI (itoaI x ++ [120]) n = 92 := (sumI_no (by rw [numI_x]; rfl)).1
theorem sumEI_0 {x n : Int} : sumEI ([48] ++ itoaI x) n = 92 := (sumI_no (by rw [numI_0]; rfl)).1
theorem sums_f {x : Int} (hx : Fits x) : sumEI (itoaI x) 0 = 0 ∧ sumI (itoaI x) 0 = itoaI x := by
  have := (sumI_at (n := 0) hx).1 (by rw [Int.add_zero]; exact hx)
  rwa [Int.add_zero] at this
theorem sumEI_cases (xs : List Int) (n : Int) : sumEI xs n = 0 ∨ sumEI xs n = 92 ∨ sumEI xs n = 93 := by
  unfold sumEI sumE; split
  · split
    · exact .inl rfl
    · exact .inr (.inr rfl)
  · exact .inr (.inl rfl)
theorem sums_e {x n : Int} (hx : Fits x) (h : ¬ sumEI (itoaI x) n = 0) : sumEI (itoaI x) n = 93 := by
  by_cases hf : Fits (x + n)
  · exact absurd ((sumI_at hx).1 hf).1 h
  · exact ((sumI_at hx).2 hf).1
theorem sums_a {x n : Int} (hx : Fits x) (h : sumEI (itoaI x) n = 0) : Fits (x + n) ∧ sumI (itoaI x) n = itoaI (x + n) := by
  by_cases hf : Fits (x + n)
  · exact ⟨hf, ((sumI_at hx).1 hf).2⟩
  · have := ((sumI_at hx).2 hf).1; omega
theorem fits_neg {n : Int} (hn : Fits n) (h : ¬ n = -9223372036854775808) : Fits (0 - n) := by unfold Fits at *; omega
theorem sums_b {x n : Int} (hx : Fits x) (h : sumEI (itoaI x) n = 0) : sumEI (sumI (itoaI x) n) (0 - n) = 0 ∧ sumI (sumI (itoaI x) n) (0 - n) = itoaI x := by
  obtain ⟨h1, h2⟩ := sums_a hx h
  rw [h2]
  have := (sumI_at (n := 0 - n) h1).1 (by rw [show x + n + (0 - n) = x by omega]; exact hx)
  rwa [show x + n + (0 - n) = x by omega] at this
theorem sums_d {x n m : Int} (hx : Fits x) (h : sumEI (itoaI x) n = 0) (hj : sumEI (sumI (itoaI x) n) m = 0) : sumEI (itoaI x) (n + m) = 0 ∧ sumI (sumI (itoaI x) n) m = sumI (itoaI x) (n + m) := by
  obtain ⟨h1, h2⟩ := sums_a hx h
  rw [h2] at hj ⊢
  obtain ⟨h3, h4⟩ := sums_a h1 hj
  have := (sumI_at (n := n + m) hx).1 (by rw [← Int.add_assoc]; exact h3)
  rw [h4, this.2, Int.add_assoc]
  exact ⟨this.1, rfl⟩
theorem sumI_len (xs : List Int) (n : Int) : (sumI xs n).length ≤ 21 := by
  unfold sumI sumT
  cases h : sumV (ofI xs) n with
  | none => simp [toI]
  | some y =>
    have hy : Fits y := by
      unfold sumV at h
      split at h
      · split at h
        · cases h; assumption
        · cases h
      · cases h
    exact itoaI_len hy
theorem byte_c (xs : List Int) (h : (xs.all fun n => decide (0 ≤ n) && decide (n < 256)) = true) : Byte xs := fun n hn => by
  have := List.all_eq_true.1 h n hn
  simpa using this
theorem itoa_m5 : itoaI (-5) = [45, 53] := by
  unfold itoaI toI Lib.itoa; rw [if_pos (by decide)]; simp [Lib.decDigits]
theorem itoa_m1 : itoaI (-1) = [45, 49] := by
  unfold itoaI toI Lib.itoa; rw [if_pos (by decide)]; simp [Lib.decDigits]
theorem itoa_9 : itoaI 9 = [57] := by
  unfold itoaI toI Lib.itoa; rw [if_neg (by decide)]; simp [Lib.decDigits]
theorem sum_alive : sumEI [57] (-10) = 0 ∧ sumI [57] (-10) = [45, 49] := by
  have := (sumI_at (x := 9) (n := -10) (by decide)).1 (by decide)
  rw [itoa_9] at this
  rw [show (9 : Int) + -10 = -1 by decide, itoa_m1] at this
  exact this
/-! ### the document's Text -/
def dgI (u : Nat) : List Int := toI (Lib.decDigits u)
theorem dgI_small {u : Nat} (h : u < 10) : dgI u = [48 + (u : Int)] := by
  unfold dgI; rw [Lib.decDigits_one h]; unfold toI; simp only [List.map_cons, List.map_nil]; rw [dig8 h]; simp
theorem dgI_big {u : Nat} (h : ¬ u < 10) : dgI u = dgI (u / 10) ++ [48 + ((u % 10 : Nat) : Int)] := by
  unfold dgI; rw [Lib.decDigits, dif_neg h]; unfold toI; rw [List.map_append]; simp only [List.map_cons, List.map_nil]; rw [dig8 (by omega)]; simp
theorem dgI_len {u : Nat} (h : u < 18446744073709551616) : (dgI u).length ≤ 20 := by
  unfold dgI toI; rw [List.length_map, Lib.decDigits_length]; exact Lib.nDigits_le20 u h
theorem dgI_ne (u : Nat) : dgI u ≠ [] := by unfold dgI toI; simp [dec_ne]
theorem itoaI_eq (n : Int) : itoaI n = if n < 0 then [45] ++ dgI n.natAbs else dgI n.natAbs := by
  unfold itoaI dgI Lib.itoa
  split
  · rfl
  · rw [show n.natAbs = n.toNat by omega]
structure TextInv (n m : Int) (s : List Int) : Prop where
  fits : Fits m
  le : m.natAbs ≤ n.natAbs
  is : (s = [] ∧ m = n) ∨ (s ≠ [] ∧ dgI n.natAbs = (if m = 0 then [] else dgI m.natAbs) ++ s)
theorem TextInv.start {n : Int} (h : Fits n) : TextInv n n [] := ⟨h, Nat.le_refl _, .inl ⟨rfl, rfl⟩⟩
theorem TextInv.len {n m : Int} {s : List Int} (h : TextInv n m s) (hn : Fits n) : s.length ≤ 20 := by
  rcases h.is with ⟨rfl, _⟩ | ⟨_, h2⟩
  · simp
  · have := congrArg List.length h2
    rw [List.length_append] at this
    have h3 := dgI_len (u := n.natAbs) (by unfold Fits at hn; omega)
    omega
theorem tmod10 (m : Int) : -10 < m.tmod 10 ∧ m.tmod 10 < 10 := by
  have h1 := Int.tmod_lt_of_pos m (show (0 : Int) < 10 by decide)
  have h2 := Int.tmod_lt_of_pos (-m) (show (0 : Int) < 10 by decide)
  rw [Int.neg_tmod] at h2
  omega
theorem natAbs_tdiv (m : Int) : (m.tdiv 10).natAbs = m.natAbs / 10 := by rw [Int.natAbs_tdiv]; rfl
theorem quo10 {m : Int} (h : Fits m) : IntKind.i64.wrap (m.tdiv 10) = m.tdiv 10 := by
  unfold Fits at h
  have := natAbs_tdiv m
  exact w64 (by omega) (by omega)
theorem digit_at {k : Int} (h0 : 0 ≤ k) (h1 : k < 10) : ((([48, 49, 50, 51, 52, 53, 54, 55, 56, 57] : List Int).take (k + 1).toNat).drop k.toNat) = [48 + k] := by
  obtain ⟨j, rfl⟩ := Int.eq_ofNat_of_zero_le h0
  have : j < 10 := by omega
  have hall : ∀ j : Fin 10, ((([48, 49, 50, 51, 52, 53, 54, 55, 56, 57] : List Int).take (((j.val : Nat) : Int) + 1).toNat).drop ((j.val : Nat) : Int).toNat) = [48 + ((j.val : Nat) : Int)] := by decide +kernel
  exact hall ⟨j, this⟩
theorem TextInv.step {n m : Int} {s : List Int} (h : TextInv n m s) (hn : Fits n) (hc : ¬ m = 0 ∨ s = []) {k : Int} (hk : k.natAbs = (m.tmod 10).natAbs) (h0 : 0 ≤ k) : TextInv n (m.tdiv 10) ([48 + k] ++ s) ∧ (m.tdiv 10).natAbs + (if [48 + k] ++ s = [] then 1 else 0) < m.natAbs + (if s = [] then 1 else 0) := by
  have hq := natAbs_tdiv m
  have hr : (m.tmod 10).natAbs = m.natAbs % 10 := by rw [Int.natAbs_tmod]; rfl
  have hkk : (k : Int) = ((m.natAbs % 10 : Nat) : Int) := by omega
  refine ⟨⟨?_, by have := h.le; omega, .inr ⟨by simp, ?_⟩⟩, ?_⟩
  · have := h.fits
    unfold Fits at *
    omega
  · have key : dgI m.natAbs = (if m.tdiv 10 = 0 then [] else dgI (m.tdiv 10).natAbs) ++ [48 + k] := by
      by_cases h10 : m.natAbs < 10
      · rw [if_pos (by omega), dgI_small h10, List.nil_append, hkk, Nat.mod_eq_of_lt h10]
      · rw [if_neg (by omega), dgI_big h10, hq, hkk]
    rcases h.is with ⟨rfl, rfl⟩ | ⟨h1, h2⟩
    · rw [key, List.append_nil]
    · have hm : ¬ m = 0 := hc.resolve_right h1
      rw [h2, if_neg hm, key, List.append_assoc]
  · rw [if_neg (by simp)]
    rcases h.is with ⟨rfl, _⟩ | ⟨h1, _⟩
    · rw [if_pos rfl]; omega
    · have hm : ¬ m = 0 := hc.resolve_right h1
      rw [if_neg h1]; omega
theorem TextInv.fin {n m : Int} {s : List Int} (h : TextInv n m s) (h0 : m = 0) (hs : ¬ s.length = 0) : s = dgI n.natAbs := by
  rcases h.is with ⟨rfl, _⟩ | ⟨_, h2⟩
  · exact absurd rfl hs
  · rw [if_pos h0, List.nil_append] at h2; exact h2.symm
theorem text_neg {n : Int} {s : List Int} (h : n < 0) (hs : s = dgI n.natAbs) : [45] ++ s = itoaI n := by rw [itoaI_eq, if_pos h, hs]
theorem text_pos {n : Int} {s : List Int} (h : ¬ n < 0) (hs : s = dgI n.natAbs) : s = itoaI n := by rw [itoaI_eq, if_neg h, hs]
/-! ### encoding, step by step -/
theorem gst_step {xs : List StepD} {k : Nat} (hk : (k : Int) < xs.length) : xs.take (k + 1) = xs.take k ++ [gst xs (k : Int)] := by
  have h1 : k < xs.length := by omega
  rw [List.take_succ_eq_append_getElem h1]
  congr 2
  simp [gst, List.getD_eq_getElem?_getD, List.getElem?_eq_getElem h1]
theorem right_step {xs : List StepD} {k : Nat} (hk : (k : Int) < xs.length) (h : (xs.take k).all rightS = true) (h1 : rightS (gst xs (k : Int)) = true) : (xs.take (k + 1)).all rightS = true := by
  rw [gst_step hk, List.all_append, h, List.all_cons, List.all_nil, h1]; rfl
theorem fld_stepL {xs : List StepD} {k : Nat} (hk : (k : Int) < xs.length) : (xs.take k).map fldS ++ [fldS (gst xs (k : Int))] = (xs.take (k + 1)).map fldS := by rw [gst_step hk, List.map_append]; rfl
theorem enc_bad {xs : List StepD} {k : Nat} (hl : ¬ 4 < (xs.length : Int)) (hk : (k : Int) < xs.length) (h : rightS (gst xs (k : Int)) = false) : encE xs = 91 := by
  unfold encE
  rw [if_neg (by omega), if_neg]
  intro h2
  rw [List.all_eq_true] at h2
  have := h2 _ (gst_mem (j := k) (by omega))
  rw [h] at this; cases this
theorem enc_many {xs : List StepD} (h : 4 < (xs.length : Int)) : encE xs = 93 := by unfold encE; rw [if_pos (by omega)]
theorem enc_good {xs : List StepD} (hl : ¬ 4 < (xs.length : Int)) (h : xs.all rightS = true) : encE xs = 0 := by unfold encE; rw [if_neg (by omega), if_pos h]
theorem encT_0 {xs : List StepD} (h : ¬ encE xs = 0) : encT xs = [] := by unfold encT; rw [if_neg h]
theorem encR_of {xs : List StepD} (hl : ¬ 4 < (xs.length : Int)) (h : xs.all rightS = true) (hb : ∀ s ∈ xs, StepB s) : encR (xs.map fldS) = some (encT xs) := by
  unfold encT
  rw [if_pos (enc_good hl h)]
  exact encR_all (by rw [List.length_map]; omega) (map_ok h hb)
theorem restS_add {s : StepD} (h : s.1 = 3) : itoaI s.2.2.2 = restS s := by unfold restS; rw [if_pos h]
theorem restS_val {s : StepD} (h : ¬ s.1 = 3) : s.2.2.1 = restS s := by unfold restS; rw [if_neg h]
theorem restS_byte {s : StepD} (h : StepB s) : Byte (restS s) := by
  unfold restS; split
  · exact itoaI_byte _
  · exact h.2.1
theorem restS_len {s : StepD} (h : rightS s = true) (hb : StepB s) : (restS s).length ≤ 60 := by
  obtain ⟨h1, h2, h3, h4, h5, h6⟩ := right_parts h
  have := itoaI_len hb.2.2
  unfold restS; split <;> omega
theorem key_len {s : StepD} (h : rightS s = true) : 1 ≤ s.2.1.length ∧ s.2.1.length ≤ 16 := ⟨(right_parts h).2.1, (right_parts h).2.2.1⟩
theorem key_wrap {s : StepD} (h : rightS s = true) : IntKind.u8.wrap (s.2.1.length : Int) = (s.2.1.length : Int) := by have := key_len h; exact wu8 (by omega) (by omega)
theorem enc_alive : encE [(3, [107], [], -5)] = 0 ∧ encT [(3, [107], [], -5)] = [3, 0, 4, 1, 107, 45, 53] := by
  have h : encE [(3, [107], [], -5)] = 0 := by decide
  refine ⟨h, ?_⟩
  unfold encT
  rw [if_pos h]
  unfold encI encF fldS restS
  simp [itoa_m5]
end Go.Proofs.YtiiklnghnifmjaaDoor.Act
