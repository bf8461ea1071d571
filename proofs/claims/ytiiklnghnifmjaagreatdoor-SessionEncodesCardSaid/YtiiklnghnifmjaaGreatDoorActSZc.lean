/- Actions: numbers' texts as lists of whole numbers; sums; what the laws ask of them. -/
import Derived.Test.YtiiklnghnifmjaaGreatDoorActDZc
set_option linter.unusedVariables false
set_option linter.unusedSimpArgs false
namespace Go.Proofs.YtiiklnghnifmjaaGreatDoor.Act
open Go.RowKit Go.Proofs.YtiiklnghnifmjaaGreatDoor.Sx Go.Proofs.YtiiklnghnifmjaaGreatDoor.Cod Go.Proofs.YtiiklnghnifmjaaGreatDoor.Num
theorem st_any {T : TypeId} {w : World} {ok ok' : Nat → Prop} {v : Value} {xs : List StepD} (h : Row StE T w ok v xs) : Row StE T w ok' v xs := by
  obtain ⟨cs, h1, h2, h3⟩ := h
  refine ⟨cs, h1, h2, fun i x hx => ?_⟩
  have := st_cells (h3 i x hx)
  rw [this]
  exact st_mk x
/-! ### the number of a text -/
theorem num_ok {xs : List Int} (hb : Byte xs) {v : Int} (hp : Lib.parseIntB 64 (ofI xs) = .ok v) : (numI xs).isSome = decide (itoaI v = xs) ∧ ∀ u, numI xs = some u → v = u := by
  have hi : (Lib.itoa v = ofI xs) ↔ itoaI v = xs := by
    unfold itoaI
    constructor
    · intro h; rw [h, toI_ofI hb]
    · intro h; rw [← h, ofI_toI]
  unfold numI numT
  rw [hp]
  dsimp only
  by_cases h : Lib.itoa v = ofI xs
  · rw [if_pos h, decide_eq_true (hi.1 h)]; exact ⟨rfl, fun u hu => Option.some.inj hu⟩
  · rw [if_neg h, decide_eq_false (fun e => h (hi.2 e))]; exact ⟨rfl, fun u hu => by cases hu⟩
theorem num_no {xs : List Int} (hp : ∀ v, Lib.parseIntB 64 (ofI xs) ≠ .ok v) : numI xs = none := by
  unfold numI numT
  rcases h : Lib.parseIntB 64 (ofI xs) with v | _ | _
  · exact absurd h (hp v)
  · rfl
  · rfl
/-! ### the sums of a number's text -/
theorem byte_c (xs : List Int) (h : (xs.all fun n => decide (0 ≤ n) && decide (n < 256)) = true) : Byte xs := fun n hn => by
  have := List.all_eq_true.1 h n hn
  simpa using this
/-! ### the document's Text -/
def dgI (u : Nat) : List Int := toI (Lib.decDigits u)
theorem dgI_small {u : Nat} (h : u < 10) : dgI u = [48 + (u : Int)] := by
  unfold dgI; rw [Lib.decDigits_one h]; unfold toI; simp only [List.map_cons, List.map_nil]; rw [dig8 h]; simp
theorem dgI_big {u : Nat} (h : ¬ u < 10) : dgI u = dgI (u / 10) ++ [48 + ((u % 10 : Nat) : Int)] := by
  unfold dgI; rw [Lib.decDigits, dif_neg h]; unfold toI; rw [List.map_append]; simp only [List.map_cons, List.map_nil]; rw [dig8 (by omega)]; simp
theorem dgI_len {u : Nat} (h : u < 18446744073709551616) : (dgI u).length ≤ 20 := by
  unfold dgI toI; rw [List.length_map, Lib.decDigits_length]; exact Lib.nDigits_le20 u h
theorem dgI_ne (u : Nat) : dgI u ≠ [] := by unfold dgI toI; simp [dec_ne]
theorem itoaI_eq (n : Int) : itoaI n = if n < 0 then [45] ++ dgI n.natAbs else dgI n.natAbs := by
  unfold itoaI dgI Lib.itoa
  split
  · rfl
  · rw [show n.natAbs = n.toNat by omega]
structure TextInv (n m : Int) (s : List Int) : Prop where
  fits : Fits m
  le : m.natAbs ≤ n.natAbs
  is : (s = [] ∧ m = n) ∨ (s ≠ [] ∧ dgI n.natAbs = (if m = 0 then [] else dgI m.natAbs) ++ s)
theorem TextInv.start {n : Int} (h : Fits n) : TextInv n n [] := ⟨h, Nat.le_refl _, .inl ⟨rfl, rfl⟩⟩
theorem TextInv.len {n m : Int} {s : List Int} (h : TextInv n m s) (hn : Fits n) : s.length ≤ 20 := by
  rcases h.is with ⟨rfl, _⟩ | ⟨_, h2⟩
  · simp
  · have := congrArg List.length h2
    rw [List.length_append] at this
    have h3 := dgI_len (u := n.natAbs) (by unfold Fits at hn; omega)
    omega
theorem tmod10 (m : Int) : -10 < m.tmod 10 ∧ m.tmod 10 < 10 := by
  have h1 := Int.tmod_lt_of_pos m (show (0 : Int) < 10 by decide)
  have h2 := Int.tmod_lt_of_pos (-m) (show (0 : Int) < 10 by decide)
  rw [Int.neg_tmod] at h2
  omega
theorem natAbs_tdiv (m : Int) : (m.tdiv 10).natAbs = m.natAbs / 10 := by rw [Int.natAbs_tdiv]; rfl
theorem quo10 {m : Int} (h : Fits m) : IntKind.i64.wrap (m.tdiv 10) = m.tdiv 10 := by
  unfold Fits at h
  have := natAbs_tdiv m
  exact w64 (by omega) (by omega)
theorem digit_at {k : Int} (h0 : 0 ≤ k) (h1 : k < 10) : ((([48, 49, 50, 51, 52, 53, 54, 55, 56, 57] : List Int).take (k + 1).toNat).drop k.toNat) = [48 + k] := by
  obtain ⟨j, rfl⟩ := Int.eq_ofNat_of_zero_le h0
  have : j < 10 := by omega
  have hall : ∀ j : Fin 10, ((([48, 49, 50, 51, 52, 53, 54, 55, 56, 57] : List Int).take (((j.val : Nat) : Int) + 1).toNat).drop ((j.val : Nat) : Int).toNat) = [48 + ((j.val : Nat) : Int)] := by decide +kernel
  exact hall ⟨j, this⟩
theorem TextInv.step {n m : Int} {s : List Int} (h : TextInv n m s) (hn : Fits n) (hc : ¬ m = 0 ∨ s = []) {k : Int} (hk : k.natAbs = (m.tmod 10).natAbs) (h0 : 0 ≤ k) : TextInv n (m.tdiv 10) ([48 + k] ++ s) ∧ (m.tdiv 10).natAbs + (if [48 + k] ++ s = [] then 1 else 0) < m.natAbs + (if s = [] then 1 else 0) := by
  have hq := natAbs_tdiv m
  have hr : (m.tmod 10).natAbs = m.natAbs % 10 := by rw [Int.natAbs_tmod]; rfl
  have hkk : (k : Int) = ((m.natAbs % 10 : Nat) : Int) := by omega
  refine ⟨⟨?_, by have := h.le; omega, .inr ⟨by simp, ?_⟩⟩, ?_⟩
  · have := h.fits
    unfold Fits at *
    omega
  · have key : dgI m.natAbs = (if m.tdiv 10 = 0 then [] else dgI (m.tdiv 10).natAbs) ++ [48 + k] := by
      by_cases h10 : m.natAbs < 10
      · rw [if_pos (by omega), dgI_small h10, List.nil_append, hkk, Nat.mod_eq_of_lt h10]
      · rw [if_neg (by omega), dgI_big h10, hq, hkk]
    rcases h.is with ⟨rfl, rfl⟩ | ⟨h1, h2⟩
    · rw [key, List.append_nil]
    · have hm : ¬ m = 0 := hc.resolve_right h1
      rw [h2, if_neg hm, key, List.append_assoc]
  · rw [if_neg (by simp)]
    rcases h.is with ⟨rfl, _⟩ | ⟨h1, _⟩
    · rw [if_pos rfl]; omega
    · have hm : ¬ m = 0 := hc.resolve_right h1
      rw [if_neg h1]; omega
theorem TextInv.fin {n m : Int} {s : List Int} (h : TextInv n m s) (h0 : m = 0) (hs : ¬ s.length = 0) : s = dgI n.natAbs := by
  rcases h.is with ⟨rfl, _⟩ | ⟨_, h2⟩
  · exact absurd rfl hs
  · rw [if_pos h0, List.nil_append] at h2; exact h2.symm
theorem text_neg {n : Int} {s : List Int} (h : n < 0) (hs : s = dgI n.natAbs) : [45] ++ s = itoaI n := by rw [itoaI_eq, if_pos h, hs]
theorem text_pos {n : Int} {s : List Int} (h : ¬ n < 0) (hs : s = dgI n.natAbs) : s = itoaI n := by rw [itoaI_eq, if_neg h, hs]
/-! ### encoding, step by step -/
theorem gst_step {xs : List StepD} {k : Nat} (hk : (k : Int) < xs.length) : xs.take (k + 1) = xs.take k ++ [gst xs (k : Int)] := by
  have h1 : k < xs.length := by omega
  rw [List.take_succ_eq_append_getElem h1]
  congr 2
  simp [gst, List.getD_eq_getElem?_getD, List.getElem?_eq_getElem h1]
theorem right_step {xs : List StepD} {k : Nat} (hk : (k : Int) < xs.length) (h : (xs.take k).all rightS = true) (h1 : rightS (gst xs (k : Int)) = true) : (xs.take (k + 1)).all rightS = true := by
  rw [gst_step hk, List.all_append, h, List.all_cons, List.all_nil, h1]; rfl
theorem fld_stepL {xs : List StepD} {k : Nat} (hk : (k : Int) < xs.length) : (xs.take k).map fldS ++ [fldS (gst xs (k : Int))] = (xs.take (k + 1)).map fldS := by rw [gst_step hk, List.map_append]; rfl
theorem enc_bad {xs : List StepD} {k : Nat} (hl : ¬ 4 < (xs.length : Int)) (hk : (k : Int) < xs.length) (h : rightS (gst xs (k : Int)) = false) : encE xs = 91 := by
  unfold encE
  rw [if_neg (by omega), if_neg]
  intro h2
  rw [List.all_eq_true] at h2
  have := h2 _ (gst_mem (j := k) (by omega))
  rw [h] at this; cases this
theorem enc_many {xs : List StepD} (h : 4 < (xs.length : Int)) : encE xs = 93 := by unfold encE; rw [if_pos (by omega)]
theorem enc_good {xs : List StepD} (hl : ¬ 4 < (xs.length : Int)) (h : xs.all rightS = true) : encE xs = 0 := by unfold encE; rw [if_neg (by omega), if_pos h]
theorem encT_0 {xs : List StepD} (h : ¬ encE xs = 0) : encT xs = [] := by unfold encT; rw [if_neg h]
theorem encR_of {xs : List StepD} (hl : ¬ 4 < (xs.length : Int)) (h : xs.all rightS = true) (hb : ∀ s ∈ xs, StepB s) : encR (xs.map fldS) = some (encT xs) := by
  unfold encT
  rw [if_pos (enc_good hl h)]
  exact encR_all (by rw [List.length_map]; omega) (map_ok h hb)
theorem restS_add {s : StepD} (h : s.1 = 3) : itoaI s.2.2.2 = restS s := by unfold restS; rw [if_pos h]
theorem restS_val {s : StepD} (h : ¬ s.1 = 3) : s.2.2.1 = restS s := by unfold restS; rw [if_neg h]
theorem restS_byte {s : StepD} (h : StepB s) : Byte (restS s) := by
  unfold restS; split
  · exact itoaI_byte _
  · exact h.2.1
theorem restS_len {s : StepD} (h : rightS s = true) (hb : StepB s) : (restS s).length ≤ 60 := by
  obtain ⟨h1, h2, h3, h4, h5, h6⟩ := right_parts h
  have := itoaI_len hb.2.2
  unfold restS; split <;> omega
theorem key_len {s : StepD} (h : rightS s = true) : 1 ≤ s.2.1.length ∧ s.2.1.length ≤ 16 := ⟨(right_parts h).2.1, (right_parts h).2.2.1⟩
theorem key_wrap {s : StepD} (h : rightS s = true) : IntKind.u8.wrap (s.2.1.length : Int) = (s.2.1.length : Int) := by have := key_len h; exact wu8 (by omega) (by omega)
end Go.Proofs.YtiiklnghnifmjaaGreatDoor.Act
