/- Actions: decoding, the document's numbers, what is alike, plain. -/
import Derived.Test.YtiiklnghnifmjaaGreatDoorActSZc
set_option linter.unusedVariables false
set_option linter.unusedSimpArgs false
namespace Go.Proofs.YtiiklnghnifmjaaGreatDoor.Act
open Go.RowKit Go.Proofs.YtiiklnghnifmjaaGreatDoor.Sx Go.Proofs.YtiiklnghnifmjaaGreatDoor.Cod Go.Proofs.YtiiklnghnifmjaaGreatDoor.Num
/-! ### steps of fields -/
def stepsF : List Fld → Option (List StepD)
  | [] => some []
  | f :: l => match stepF f with | some s => (match stepsF l with | some r => some (s :: r) | none => none) | none => none
theorem stepsF_snoc : ∀ (l : List Fld) (f : Fld), stepsF (l ++ [f]) = match stepsF l with | some r => (match stepF f with | some s => some (r ++ [s]) | none => none) | none => none
  | [], f => by simp only [List.nil_append, stepsF]
  | g :: l, f => by
    simp only [List.cons_append, stepsF, stepsF_snoc l f]
    cases stepF g with
    | none => rfl
    | some s => cases stepsF l with
      | none => rfl
      | some r => cases stepF f with
        | none => rfl
        | some s' => rfl
theorem stepsF_len : ∀ {l : List Fld} {r : List StepD}, stepsF l = some r → r.length = l.length
  | [], r, h => by simp only [stepsF] at h; cases h; rfl
  | f :: l, r, h => by
    simp only [stepsF] at h
    cases hs : stepF f with
    | none => rw [hs] at h; cases h
    | some s =>
      rw [hs] at h
      cases hl : stepsF l with
      | none => rw [hl] at h; cases h
      | some r' => rw [hl] at h; cases h; simp [stepsF_len hl]
theorem stepsF_none : ∀ {l : List Fld} {f : Fld}, f ∈ l → stepF f = none → stepsF l = none
  | g :: l, f, hm, h => by
    simp only [stepsF]
    rcases List.mem_cons.1 hm with rfl | h2
    · rw [h]
    · rw [stepsF_none h2 h]; cases stepF g <;> rfl
theorem stepsF_map : ∀ {xs : List StepD}, xs.all rightS = true → (∀ s ∈ xs, StepB s) → stepsF (xs.map fldS) = some xs
  | [], _, _ => rfl
  | x :: xs, h, hb => by
    rw [List.all_cons, Bool.and_eq_true] at h
    simp only [List.map_cons, stepsF]
    rw [step_fld h.1 (hb x (by simp)), stepsF_map h.2 (fun s hs => hb s (by simp [hs]))]
theorem stepsF_back : ∀ {l : List Fld} {r : List StepD}, (∀ f ∈ l, Byte f.2) → stepsF l = some r → r.map fldS = l ∧ r.all rightS = true ∧ ∀ s ∈ r, StepB s
  | [], r, hb, h => by simp only [stepsF] at h; cases h; exact ⟨rfl, rfl, fun s hs => by cases hs⟩
  | f :: l, r, hb, h => by
    simp only [stepsF] at h
    cases hs : stepF f with
    | none => rw [hs] at h; cases h
    | some s =>
      rw [hs] at h
      cases hl : stepsF l with
      | none => rw [hl] at h; cases h
      | some r' =>
        rw [hl] at h; cases h
        obtain ⟨h1, h2, h3⟩ := fld_step (hb f (by simp)) hs
        obtain ⟨h4, h5, h6⟩ := stepsF_back (fun g hg => hb g (by simp [hg])) hl
        refine ⟨by rw [List.map_cons, h1, h4], by rw [List.all_cons, h2, h5]; rfl, fun x hx => ?_⟩
        rcases List.mem_cons.1 hx with rfl | hx
        · exact h3
        · exact h6 x hx
theorem stepsF_at : ∀ {l : List Fld} {r : List StepD} {j : Nat}, stepsF l = some r → j < l.length → stepF (gf l (j : Int)) = some (gst r (j : Int))
  | f :: l, r, j, h, hj => by
    simp only [stepsF] at h
    cases hs : stepF f with
    | none => rw [hs] at h; cases h
    | some s =>
      rw [hs] at h
      cases hl : stepsF l with
      | none => rw [hl] at h; cases h
      | some r' =>
        rw [hl] at h; cases h
        cases j with
        | zero => exact hs
        | succ j =>
          have := stepsF_at (j := j) hl (by simpa using hj)
          simpa [gf, gst] using this
/-! ### an action's bytes, decoded -/
def adecR (bs : List Int) : Option (List StepD) := match decR bs with | some l => if l.length ≤ 4 then stepsF l else none | none => none
theorem adec_none {bs : List Int} (h : decR bs = none) : adecR bs = none := by unfold adecR; rw [h]
theorem adec_many {bs : List Int} {l : List Fld} (h : decR bs = some l) (h4 : 4 < (l.length : Int)) : adecR bs = none := by unfold adecR; rw [h]; dsimp only; rw [if_neg (by omega)]
theorem adec_is {bs : List Int} {l : List Fld} (h : decR bs = some l) (h4 : ¬ 4 < (l.length : Int)) : adecR bs = stepsF l := by unfold adecR; rw [h]; dsimp only; rw [if_pos (by omega)]
theorem mem_enc {l : List Fld} {f : Fld} (h : f ∈ l) {n : Int} (hn : n ∈ f.2) : n ∈ encI l := by
  unfold encI
  exact List.mem_flatMap.2 ⟨f, h, by unfold encF; exact List.mem_append_right _ hn⟩
theorem fld_bytes {bs : List Int} {l : List Fld} (hb : Byte bs) (h : decR bs = some l) : ∀ f ∈ l, Byte f.2 := by
  obtain ⟨h1, h2, h3⟩ := enc_parts (enc_dec hb h)
  intro f hf n hn
  refine hb n ?_
  rw [h3]
  exact mem_enc hf hn
theorem adec_back {bs : List Int} {r : List StepD} (hb : Byte bs) (h : adecR bs = some r) : encE r = 0 ∧ encT r = bs ∧ (∀ s ∈ r, StepB s) ∧ r.length ≤ 4 := by
  unfold adecR at h
  cases hd : decR bs with
  | none => rw [hd] at h; cases h
  | some l =>
    rw [hd] at h
    dsimp only at h
    split at h
    · rename_i h4
      obtain ⟨h1, h2, h3⟩ := stepsF_back (fld_bytes hb hd) h
      have hl := stepsF_len h
      have he : encE r = 0 := enc_good (by omega) h2
      refine ⟨he, ?_, h3, by omega⟩
      unfold encT
      rw [if_pos he, h1]
      exact ((enc_parts (enc_dec hb hd)).2.2).symm
    · cases h
theorem adec_enc {l : List StepD} (h : encE l = 0) (hb : ∀ s ∈ l, StepB s) : adecR (encT l) = some l := by
  obtain ⟨h4, hr⟩ := enc0 h
  unfold encT adecR
  rw [if_pos h, dec_enc (map_ok hr hb) (by rw [List.length_map]; omega)]
  dsimp only
  rw [if_pos (by rw [List.length_map]; omega), stepsF_map hr hb]
theorem encT_byte {l : List StepD} (hb : ∀ s ∈ l, StepB s) : Byte (encT l) := by
  unfold encT
  split
  · rename_i h
    obtain ⟨h4, hr⟩ := enc0 h
    refine byt_enc (map_ok hr hb) (fun f hf => ?_)
    obtain ⟨s, hs, rfl⟩ := List.mem_map.1 hf
    exact fld_byte (List.all_eq_true.1 hr s hs) (hb s hs)
  · exact Byte.nil
theorem dec_loop {l : List Fld} {k : Nat} {out : List StepD} (hk : (k : Int) < l.length) (h : stepsF (l.take k) = some out) {s : StepD} (hs : stepF (gf l (k : Int)) = some s) : stepsF (l.take (k + 1)) = some (out ++ [s]) := by
  rw [take_step hk, stepsF_snoc, h, hs]
theorem dec_stop {l : List Fld} {k : Nat} (hk : (k : Int) < l.length) (hs : (stepF (gf l (k : Int))).isSome = false) : stepsF l = none := by
  refine stepsF_none (f := gf l (k : Int)) (List.mem_of_getElem? (gf_some (xs := l) (i := (k : Int)) (by omega) (by omega))) ?_
  cases h : stepF (gf l (k : Int)) with
  | none => rfl
  | some s => rw [h] at hs; cases hs
/-! ### one step -/
theorem stepF_short {f : Fld} (h : f.2.length = 0 ∨ (f.2.length : Int) ≤ gi f.2 0) : stepF f = none := by
  unfold stepF; rw [if_pos h]
def keyF (f : Fld) : List Int := (f.2.take (1 + gi f.2 0).toNat).drop 1
def restF (f : Fld) : List Int := f.2.drop (1 + gi f.2 0).toNat
theorem stepF_add {f : Fld} (h0 : ¬ f.2.length = 0) (h1 : ¬ (f.2.length : Int) ≤ gi f.2 0) (h3 : f.1 = 3) {v : Int} (hv : ∀ u, numI (restF f) = some u → v = u) :
    (stepF f).isSome = ((numI (restF f)).isSome && rightS (f.1, keyF f, [], v)) ∧ ∀ s', stepF f = some s' → (f.1, keyF f, [], v) = s' := by
  rw [h3]
  have e : stepF f = (match numI (restF f) with | some n => if rightS (3, keyF f, [], n) then some (3, keyF f, [], n) else none | none => none) := by
    unfold stepF; rw [if_neg (by rintro (h | h); exact h0 h; exact h1 h)]; dsimp only; rw [if_pos h3]; rfl
  rw [e]
  cases hn : numI (restF f) with
  | none => exact ⟨rfl, fun s' h => by cases h⟩
  | some n =>
    obtain rfl := hv n hn
    dsimp only
    by_cases hr : rightS (3, keyF f, [], v) = true
    · rw [if_pos hr, hr]; exact ⟨rfl, fun s' h => Option.some.inj h⟩
    · rw [if_neg hr]; exact ⟨by simp [hr], fun s' h => by cases h⟩
theorem stepF_val {f : Fld} (h0 : ¬ f.2.length = 0) (h1 : ¬ (f.2.length : Int) ≤ gi f.2 0) (h3 : ¬ f.1 = 3) :
    (stepF f).isSome = rightS (f.1, keyF f, restF f, 0) ∧ ∀ s', stepF f = some s' → (f.1, keyF f, restF f, 0) = s' := by
  have e : stepF f = if rightS (f.1, keyF f, restF f, 0) then some (f.1, keyF f, restF f, 0) else none := by
    unfold stepF; rw [if_neg (by rintro (h | h); exact h0 h; exact h1 h)]; dsimp only; rw [if_neg h3]; rfl
  rw [e]
  by_cases hr : rightS (f.1, keyF f, restF f, 0) = true
  · rw [if_pos hr, hr]; exact ⟨rfl, fun s' h => Option.some.inj h⟩
  · rw [if_neg hr]; exact ⟨by simp [hr], fun s' h => by cases h⟩
/-! ### few -/
/-! ### the document's numbers -/
def tOf (xs : List Int) : List Int := if 0 < xs.length ∧ gi xs 0 = 45 then xs.drop 1 else xs
def valD (ds : List Int) : Int := ds.foldl (fun n c => 10 * n + (c - 48)) 0
theorem valD_snoc (xs : List Int) (c : Int) : valD (xs ++ [c]) = 10 * valD xs + (c - 48) := by simp [valD]
def Dig (ds : List Int) : Prop := ∀ c ∈ ds, 48 ≤ c ∧ c ≤ 57
theorem dgI_dig : ∀ u, Dig (dgI u) := by
  intro u c hc
  unfold dgI toI at hc
  obtain ⟨d, hd, rfl⟩ := List.mem_map.1 hc
  have := dec_all u d hd
  omega
theorem valD_dgI : ∀ u : Nat, valD (dgI u) = (u : Int) := by
  intro u
  induction u using Nat.strongRecOn with
  | _ u ih =>
    by_cases h : u < 10
    · rw [dgI_small h]; simp [valD]; omega
    · rw [dgI_big h, valD_snoc, ih (u / 10) (by omega)]; omega
theorem dgI_len19 {u : Nat} (h : u ≤ 9223372036854775808) : (dgI u).length ≤ 19 := by
  unfold dgI toI
  rw [List.length_map, Lib.decDigits_length]
  rcases Nat.lt_or_ge (Lib.nDigits u) 20 with h1 | h1
  · omega
  · exfalso
    have h20 := Lib.nDigits_le20 u (by omega)
    have e : Lib.nDigits u = 20 := by omega
    by_cases hs : u < 10
    · rw [Lib.nDigits_small hs] at e; omega
    · have hlt : u < 10 ^ 19 := by omega
      have : Lib.nDigits u ≤ 19 := by
        rcases Nat.lt_or_ge 0 u with hp | hp
        · have hk : ∀ (j v : Nat), 0 < j → v < 10 ^ j → Lib.nDigits v ≤ j := by
            intro j
            induction j with
            | zero => intro v h0 _; omega
            | succ j ih =>
              intro v _ hv
              by_cases hv10 : v < 10
              · rw [Lib.nDigits_small hv10]; omega
              · rw [Lib.nDigits_big hv10]
                have hj : 0 < j := by
                  rcases Nat.eq_zero_or_pos j with rfl | hj
                  · simp at hv; omega
                  · exact hj
                have := ih (v / 10) hj (by rw [Nat.pow_succ] at hv; omega)
                omega
          exact hk 19 u (by decide) hlt
        · omega
      omega
theorem gi_head {d : Int} {r : List Int} : gi (d :: r) 0 = d := rfl
theorem t_of_itoa (u : Int) : tOf (itoaI u) = dgI u.natAbs ∧ (tOf (itoaI u) = itoaI u ↔ ¬ u < 0) := by
  rw [itoaI_eq]
  by_cases h : u < 0
  · rw [if_pos h]
    have e : tOf ([45] ++ dgI u.natAbs) = dgI u.natAbs := by
      unfold tOf; rw [if_pos ⟨by simp, rfl⟩]; rfl
    refine ⟨e, ?_⟩
    rw [e]
    constructor
    · intro h2; have := congrArg List.length h2; simp at this
    · intro h2; exact absurd h h2
  · rw [if_neg h]
    have e : tOf (dgI u.natAbs) = dgI u.natAbs := by
      unfold tOf
      rw [if_neg]
      rintro ⟨h1, h2⟩
      cases hd : dgI u.natAbs with
      | nil => exact dgI_ne _ hd
      | cons c r =>
        rw [hd] at h2
        have := dgI_dig u.natAbs c (by rw [hd]; simp)
        rw [gi_head] at h2
        omega
    exact ⟨e, by simp [e, h]⟩
theorem fits_wrap (n : Int) : Fits (IntKind.i64.wrap n) := by unfold Fits; rw [IntKind.wrap_i64]; omega
def xOf (xs : List Int) : Int := if tOf xs = xs then IntKind.i64.wrap (valD (tOf xs)) else IntKind.i64.wrap (0 - IntKind.i64.wrap (valD (tOf xs)))
theorem num_u {xs : List Int} (hb : Byte xs) {u : Int} (h : numI xs = some u) : (tOf xs).length ≤ 19 ∧ 1 ≤ (tOf xs).length ∧ Dig (tOf xs) ∧ valD (tOf xs) ≤ 9223372036854775808 ∧ xOf xs = u := by
  obtain ⟨rfl, hu⟩ := numI_some hb h
  obtain ⟨h1, h2⟩ := t_of_itoa u
  unfold Fits at hu
  unfold xOf
  have hx : (if tOf (itoaI u) = itoaI u then IntKind.i64.wrap (valD (tOf (itoaI u))) else IntKind.i64.wrap (0 - IntKind.i64.wrap (valD (tOf (itoaI u))))) = u := by
    rw [h1, valD_dgI]
    by_cases hn : u < 0
    · rw [if_neg (by rw [← h1, h2]; exact fun h => h hn)]
      simp only [IntKind.wrap_i64]; omega
    · rw [if_pos (by rw [← h1, h2]; exact hn)]
      simp only [IntKind.wrap_i64]; omega
  refine ⟨?_, ?_, ?_, ?_, hx⟩
  · rw [h1]; exact dgI_len19 (by omega)
  · rw [h1]
    have := dgI_ne u.natAbs
    rcases Nat.eq_zero_or_pos (dgI u.natAbs).length with h | h
    · exact absurd (List.eq_nil_of_length_eq_zero h) this
    · exact h
  · rw [h1]; exact dgI_dig _
  · rw [h1, valD_dgI]; omega
theorem rnum_len {xs : List Int} (hb : Byte xs) (h : (tOf xs).length < 1 ∨ 19 < (tOf xs).length) : numI xs = none := by
  cases hn : numI xs with
  | none => rfl
  | some u => have := num_u hb hn; omega
theorem rnum_dig {xs : List Int} (hb : Byte xs) {k : Nat} (hk : k < (tOf xs).length) (h : gi (tOf xs) (k : Int) < 48 ∨ 57 < gi (tOf xs) (k : Int)) : numI xs = none := by
  cases hn : numI xs with
  | none => rfl
  | some u =>
    have h1 := (num_u hb hn).2.2.1 (gi (tOf xs) (k : Int)) (List.mem_of_getElem? (gi_some (xs := tOf xs) (i := (k : Int)) (by omega) (by omega)))
    omega
theorem rnum_big {xs : List Int} (hb : Byte xs) (h : 9223372036854775808 < valD (tOf xs)) : numI xs = none := by
  cases hn : numI xs with
  | none => rfl
  | some u => have := (num_u hb hn).2.2.2.1; omega
theorem rnum_fin {xs : List Int} (hb : Byte xs) : (numI xs).isSome = decide (itoaI (xOf xs) = xs) ∧ (∀ u, numI xs = some u → xOf xs = u) ∧ Fits (xOf xs) := by
  have hf : Fits (xOf xs) := by unfold xOf; split <;> exact fits_wrap _
  have hu : ∀ u, numI xs = some u → xOf xs = u := fun u h => (num_u hb h).2.2.2.2
  refine ⟨?_, hu, hf⟩
  by_cases h : itoaI (xOf xs) = xs
  · rw [decide_eq_true h, ← h, numI_itoa hf]; rfl
  · rw [decide_eq_false h]
    cases hn : numI xs with
    | none => rfl
    | some u =>
      exfalso
      apply h
      rw [hu u hn]
      exact (numI_some hb hn).1.symm
theorem valD_step {ds : List Int} {k : Nat} (hk : (k : Int) < ds.length) : 10 * valD (ds.take k) + (gi ds (k : Int) - 48) = valD (ds.take (k + 1)) := by rw [gi_step hk, valD_snoc]
theorem valD_bound {ds : List Int} {k : Nat} (hk : k ≤ ds.length) (h : ∀ j, j < k → 48 ≤ gi ds (j : Int) ∧ gi ds (j : Int) ≤ 57) : 0 ≤ valD (ds.take k) ∧ valD (ds.take k) < 10 ^ k := by
  induction k with
  | zero => simp [valD]
  | succ k ih =>
    have h1 := ih (by omega) (fun j hj => h j (by omega))
    have h2 := h k (by omega)
    rw [← valD_step (by omega)]
    rw [Int.pow_succ]
    omega
theorem pow19 {k : Nat} (h : k ≤ 18) : (10 : Int) ^ k ≤ 1000000000000000000 := by
  have hall : ∀ j : Fin 19, (10 : Int) ^ j.val ≤ 1000000000000000000 := by decide +kernel
  exact hall ⟨k, by omega⟩
theorem dig_step {ds : List Int} {k : Nat} (h : ∀ j, j < k → 48 ≤ gi ds (j : Int) ∧ gi ds (j : Int) ≤ 57) (h1 : ¬ gi ds (k : Int) < 48) (h2 : ¬ 57 < gi ds (k : Int)) : ∀ j, j < k + 1 → 48 ≤ gi ds (j : Int) ∧ gi ds (j : Int) ≤ 57 := by
  intro j hj
  rcases Nat.lt_or_ge j k with h3 | h3
  · exact h j h3
  · obtain rfl : j = k := by omega
    exact ⟨by omega, by omega⟩
theorem tOf_byte {xs : List Int} (h : Byte xs) : Byte (tOf xs) := by unfold tOf; split; exact h.drop 1; exact h
theorem tOf_len (xs : List Int) : (tOf xs).length ≤ xs.length := by unfold tOf; split <;> simp
theorem tOf_0 {xs : List Int} (h : ¬ 0 < (xs.length : Int)) : tOf xs = xs := by unfold tOf; rw [if_neg (by omega)]
theorem tOf_no {xs : List Int} (h : ¬ gi xs 0 = 45) : tOf xs = xs := by unfold tOf; rw [if_neg (fun e => h e.2)]
theorem tOf_yes {xs : List Int} (h0 : 0 < (xs.length : Int)) (h : gi xs 0 = 45) : tOf xs = xs.drop (Int.toNat 1) := by unfold tOf; rw [if_pos ⟨by omega, h⟩]; rfl
theorem xOf_neg {xs : List Int} (h : ¬ tOf xs = xs) : xOf xs = IntKind.i64.wrap (0 - IntKind.i64.wrap (valD (tOf xs))) := by unfold xOf; rw [if_neg h]
theorem xOf_pos {xs : List Int} (h : tOf xs = xs) : xOf xs = IntKind.i64.wrap (valD (tOf xs)) := by unfold xOf; rw [if_pos h]
/-! ### the document's Decode -/
structure RInv (l : List Fld) (k : Nat) (out : List StepD) : Prop where
  len : out.length = k
  at_ : ∀ j, j < k → (∀ s', stepF (gf l (j : Int)) = some s' → gst out (j : Int) = s') ∧ StepB (gst out (j : Int))
theorem RInv.nil (l : List Fld) : RInv l 0 [] := ⟨rfl, fun j hj => by omega⟩
theorem gst_snoc_lt {out : List StepD} {s : StepD} {j : Nat} (h : j < out.length) : gst (out ++ [s]) (j : Int) = gst out (j : Int) := by
  unfold gst
  rw [Int.toNat_natCast, List.getD_eq_getElem?_getD, List.getD_eq_getElem?_getD, List.getElem?_append_left h]
theorem gst_snoc_eq {out : List StepD} {s : StepD} {j : Nat} (h : j = out.length) : gst (out ++ [s]) (j : Int) = s := by
  subst h
  unfold gst
  rw [Int.toNat_natCast, List.getD_eq_getElem?_getD, List.getElem?_append_right (Nat.le_refl _), Nat.sub_self]; rfl
theorem RInv.step {l : List Fld} {k : Nat} {out : List StepD} (h : RInv l k out) {s : StepD} (hs : ∀ s', stepF (gf l (k : Int)) = some s' → s = s') (hb : StepB s) : RInv l (k + 1) (out ++ [s]) := by
  refine ⟨by rw [List.length_append, h.len]; rfl, fun j hj => ?_⟩
  rcases Nat.lt_or_ge j k with h1 | h1
  · rw [gst_snoc_lt (by rw [h.len]; exact h1)]; exact h.at_ j h1
  · obtain rfl : j = k := by omega
    rw [gst_snoc_eq h.len.symm]; exact ⟨hs, hb⟩
theorem RInv.bytes {l : List Fld} {k : Nat} {out : List StepD} (h : RInv l k out) : ∀ s ∈ out, StepB s := by
  intro s hs
  obtain ⟨j, hj, rfl⟩ := List.getElem_of_mem hs
  have := (h.at_ j (by rw [← h.len]; exact hj)).2
  have e : gst out (j : Int) = out[j] := by simp [gst, List.getD_eq_getElem?_getD, hj]
  rwa [e] at this
theorem RInv.good {bs : List Int} {l : List Fld} {out : List StepD} (hd : decR bs = some l) (h : RInv l l.length out) (he : encE out = 0) (ht : encT out = bs) : adecR bs = some out := by
  rw [← ht]; exact adec_enc he h.bytes
theorem ext_gst {xs ys : List StepD} (hl : xs.length = ys.length) (h : ∀ j, j < xs.length → gst xs (j : Int) = gst ys (j : Int)) : xs = ys := by
  apply List.ext_getElem hl
  intro j h1 h2
  have := h j h1
  simpa [gst, List.getD_eq_getElem?_getD, h1, h2] using this
theorem RInv.bad {bs : List Int} {l : List Fld} {out : List StepD} (hb : Byte bs) (hd : decR bs = some l) (h4 : ¬ 4 < (l.length : Int)) (h : RInv l l.length out) (hn : ¬ (encE out = 0 ∧ encT out = bs)) : adecR bs = none := by
  cases ha : adecR bs with
  | none => rfl
  | some r =>
    exfalso
    have h1 := ha
    rw [adec_is hd h4] at h1
    have e : out = r := ext_gst (by rw [h.len, stepsF_len h1]) (fun j hj => (h.at_ j (by rw [← h.len]; exact hj)).1 _ (stepsF_at h1 (by rw [← h.len]; exact hj)))
    subst e
    obtain ⟨h2, h3, _⟩ := adec_back hb ha
    exact hn ⟨h2, h3⟩
theorem adec_stop {bs : List Int} {l : List Fld} {k : Nat} (hd : decR bs = some l) (h4 : ¬ 4 < (l.length : Int)) (hk : (k : Int) < l.length) (h : stepF (gf l (k : Int)) = none) : adecR bs = none := by
  rw [adec_is hd h4]; exact dec_stop hk (by rw [h]; rfl)
/-! ### alike -/
/-! ### a byte less -/
theorem sa_bytes {f : Fld} (hb : Byte f.2) {v : Int} (hv : Fits v) : StepB (f.1, keyF f, [], v) := ⟨(hb.take _).drop 1, Byte.nil, hv⟩
theorem sv_bytes {f : Fld} (hb : Byte f.2) : StepB (f.1, keyF f, restF f, 0) := ⟨(hb.take _).drop 1, hb.drop _, (by decide : Fits 0)⟩
end Go.Proofs.YtiiklnghnifmjaaGreatDoor.Act
