/- Actions: decoding, the document's numbers, what is alike, plain. -/
import Derived.Test.YtfocpadeflpabaaGreatDoorActSZa
set_option linter.unusedVariables false
set_option linter.unusedSimpArgs false
namespace Go.Proofs.YtfocpadeflpabaaGreatDoor.Act
open Go.RowKit Go.Proofs.YtfocpadeflpabaaGreatDoor.Sx Go.Proofs.YtfocpadeflpabaaGreatDoor.Cod Go.Proofs.YtfocpadeflpabaaGreatDoor.Num
/-! ### steps of fields -/
def stepsF : List Fld → Option (List StepD)
  | [] => some []
  | f :: l => match stepF f with | some s => (match stepsF l with | some r => some (s :: r) | none => none) | none => none
theorem stepsF_snoc : ∀ (l : List Fld) (f : Fld), stepsF (l ++ [f]) = match stepsF l with | some r => (match stepF f with | some s => some (r ++ [s]) | none => none) | none => none
  | [], f => by simp only [List.nil_append, stepsF]
  | g :: l, f => by
    simp only [List.cons_append, stepsF, stepsF_snoc l f]
    cases stepF g with
    | none => rfl
    | some s => cases stepsF l with
      | none => rfl
      | some r => cases stepF f with
        | none => rfl
        | some s' => rfl
theorem stepsF_len : ∀ {l : List Fld} {r : List StepD}, stepsF l = some r → r.length = l.length
  | [], r, h => by simp only [stepsF] at h; cases h; rfl
  | f :: l, r, h => by
    simp only [stepsF] at h
    cases hs : stepF f with
    | none => rw [hs] at h; cases h
    | some s =>
      rw [hs] at h
      cases hl : stepsF l with
      | none => rw [hl] at h; cases h
      | some r' => rw [hl] at h; cases h; simp [stepsF_len hl]
theorem stepsF_none : ∀ {l : List Fld} {f : Fld}, f ∈ l → stepF f = none → stepsF l = none
  | g :: l, f, hm, h => by
    simp only [stepsF]
    rcases List.mem_cons.1 hm with rfl | h2
    · rw [h]
    · rw [stepsF_none h2 h]; cases stepF g <;> rfl
theorem stepsF_map : ∀ {xs : List StepD}, xs.all rightS = true → (∀ s ∈ xs, StepB s) → stepsF (xs.map fldS) = some xs
  | [], _, _ => rfl
  | x :: xs, h, hb => by
    rw [List.all_cons, Bool.and_eq_true] at h
    simp only [List.map_cons, stepsF]
    rw [step_fld h.1 (hb x (by simp)), stepsF_map h.2 (fun s hs => hb s (by simp [hs]))]
theorem stepsF_back : ∀ {l : List Fld} {r : List StepD}, (∀ f ∈ l, Byte f.2) → stepsF l = some r → r.map fldS = l ∧ r.all rightS = true ∧ ∀ s ∈ r, StepB s
  | [], r, hb, h => by simp only [stepsF] at h; cases h; exact ⟨rfl, rfl, fun s hs => by cases hs⟩
  | f :: l, r, hb, h => by
    simp only [stepsF] at h
    cases hs : stepF f with
    | none => rw [hs] at h; cases h
    | some s =>
      rw [hs] at h
      cases hl : stepsF l with
      | none => rw [hl] at h; cases h
      | some r' =>
        rw [hl] at h; cases h
        obtain ⟨h1, h2, h3⟩ := fld_step (hb f (by simp)) hs
        obtain ⟨h4, h5, h6⟩ := stepsF_back (fun g hg => hb g (by simp [hg])) hl
        refine ⟨by rw [List.map_cons, h1, h4], by rw [List.all_cons, h2, h5]; rfl, fun x hx => ?_⟩
        rcases List.mem_cons.1 hx with rfl | hx
        · exact h3
        · exact h6 x hx
/-! ### an action's bytes, decoded -/
def adecR (bs : List Int) : Option (List StepD) := match decR bs with | some l => if l.length ≤ 4 then stepsF l else none | none => none
theorem adec_none {bs : List Int} (h : decR bs = none) : adecR bs = none := by unfold adecR; rw [h]
theorem adec_many {bs : List Int} {l : List Fld} (h : decR bs = some l) (h4 : 4 < (l.length : Int)) : adecR bs = none := by unfold adecR; rw [h]; dsimp only; rw [if_neg (by omega)]
theorem adec_is {bs : List Int} {l : List Fld} (h : decR bs = some l) (h4 : ¬ 4 < (l.length : Int)) : adecR bs = stepsF l := by unfold adecR; rw [h]; dsimp only; rw [if_pos (by omega)]
theorem mem_enc {l : List Fld} {f : Fld} (h : f ∈ l) {n : Int} (hn : n ∈ f.2) : n ∈ encI l := by
  unfold encI
  exact List.mem_flatMap.2 ⟨f, h, by unfold encF; exact List.mem_append_right _ hn⟩
theorem fld_bytes {bs : List Int} {l : List Fld} (hb : Byte bs) (h : decR bs = some l) : ∀ f ∈ l, Byte f.2 := by
  obtain ⟨h1, h2, h3⟩ := enc_parts (enc_dec hb h)
  intro f hf n hn
  refine hb n ?_
  rw [h3]
  exact mem_enc hf hn
theorem adec_back {bs : List Int} {r : List StepD} (hb : Byte bs) (h : adecR bs = some r) : encE r = 0 ∧ encT r = bs ∧ (∀ s ∈ r, StepB s) ∧ r.length ≤ 4 := by
  unfold adecR at h
  cases hd : decR bs with
  | none => rw [hd] at h; cases h
  | some l =>
    rw [hd] at h
    dsimp only at h
    split at h
    · rename_i h4
      obtain ⟨h1, h2, h3⟩ := stepsF_back (fld_bytes hb hd) h
      have hl := stepsF_len h
      have he : encE r = 0 := enc_good (by omega) h2
      refine ⟨he, ?_, h3, by omega⟩
      unfold encT
      rw [if_pos he, h1]
      exact ((enc_parts (enc_dec hb hd)).2.2).symm
    · cases h
theorem adec_enc {l : List StepD} (h : encE l = 0) (hb : ∀ s ∈ l, StepB s) : adecR (encT l) = some l := by
  obtain ⟨h4, hr⟩ := enc0 h
  unfold encT adecR
  rw [if_pos h, dec_enc (map_ok hr hb) (by rw [List.length_map]; omega)]
  dsimp only
  rw [if_pos (by rw [List.length_map]; omega), stepsF_map hr hb]
theorem encT_byte {l : List StepD} (hb : ∀ s ∈ l, StepB s) : Byte (encT l) := by
  unfold encT
  split
  · rename_i h
    obtain ⟨h4, hr⟩ := enc0 h
    refine byt_enc (map_ok hr hb) (fun f hf => ?_)
    obtain ⟨s, hs, rfl⟩ := List.mem_map.1 hf
    exact fld_byte (List.all_eq_true.1 hr s hs) (hb s hs)
  · exact Byte.nil
theorem dec_loop {l : List Fld} {k : Nat} {out : List StepD} (hk : (k : Int) < l.length) (h : stepsF (l.take k) = some out) {s : StepD} (hs : stepF (gf l (k : Int)) = some s) : stepsF (l.take (k + 1)) = some (out ++ [s]) := by
  rw [take_step hk, stepsF_snoc, h, hs]
theorem dec_stop {l : List Fld} {k : Nat} (hk : (k : Int) < l.length) (hs : (stepF (gf l (k : Int))).isSome = false) : stepsF l = none := by
  refine stepsF_none (f := gf l (k : Int)) (List.mem_of_getElem? (gf_some (xs := l) (i := (k : Int)) (by omega) (by omega))) ?_
  cases h : stepF (gf l (k : Int)) with
  | none => rfl
  | some s => rw [h] at hs; cases hs
/-! ### one step -/
theorem stepF_short {f : Fld} (h : f.2.length = 0 ∨ (f.2.length : Int) ≤ gi f.2 0) : stepF f = none := by
  unfold stepF; rw [if_pos h]
def keyF (f : Fld) : List Int := (f.2.take (1 + gi f.2 0).toNat).drop 1
def restF (f : Fld) : List Int := f.2.drop (1 + gi f.2 0).toNat
theorem stepF_add {f : Fld} (h0 : ¬ f.2.length = 0) (h1 : ¬ (f.2.length : Int) ≤ gi f.2 0) (h3 : f.1 = 3) {v : Int} (hv : ∀ u, numI (restF f) = some u → v = u) :
    (stepF f).isSome = ((numI (restF f)).isSome && rightS (f.1, keyF f, [], v)) ∧ ∀ s', stepF f = some s' → (f.1, keyF f, [], v) = s' := by
  rw [h3]
  have e : stepF f = (match numI (restF f) with | some n => if rightS (3, keyF f, [], n) then some (3, keyF f, [], n) else none | none => none) := by
    unfold stepF; rw [if_neg (by rintro (h | h); exact h0 h; exact h1 h)]; dsimp only; rw [if_pos h3]; rfl
  rw [e]
  cases hn : numI (restF f) with
  | none => exact ⟨rfl, fun s' h => by cases h⟩
  | some n =>
    obtain rfl := hv n hn
    dsimp only
    by_cases hr : rightS (3, keyF f, [], v) = true
    · rw [if_pos hr, hr]; exact ⟨rfl, fun s' h => Option.some.inj h⟩
    · rw [if_neg hr]; exact ⟨by simp [hr], fun s' h => by cases h⟩
theorem stepF_val {f : Fld} (h0 : ¬ f.2.length = 0) (h1 : ¬ (f.2.length : Int) ≤ gi f.2 0) (h3 : ¬ f.1 = 3) :
    (stepF f).isSome = rightS (f.1, keyF f, restF f, 0) ∧ ∀ s', stepF f = some s' → (f.1, keyF f, restF f, 0) = s' := by
  have e : stepF f = if rightS (f.1, keyF f, restF f, 0) then some (f.1, keyF f, restF f, 0) else none := by
    unfold stepF; rw [if_neg (by rintro (h | h); exact h0 h; exact h1 h)]; dsimp only; rw [if_neg h3]; rfl
  rw [e]
  by_cases hr : rightS (f.1, keyF f, restF f, 0) = true
  · rw [if_pos hr, hr]; exact ⟨rfl, fun s' h => Option.some.inj h⟩
  · rw [if_neg hr]; exact ⟨by simp [hr], fun s' h => by cases h⟩
/-! ### few -/
/-! ### the document's numbers -/
/-! ### the document's Decode -/
structure RInv (l : List Fld) (k : Nat) (out : List StepD) : Prop where
  len : out.length = k
  at_ : ∀ j, j < k → (∀ s', stepF (gf l (j : Int)) = some s' → gst out (j : Int) = s') ∧ StepB (gst out (j : Int))
theorem RInv.nil (l : List Fld) : RInv l 0 [] := ⟨rfl, fun j hj => by omega⟩
theorem gst_snoc_lt {out : List StepD} {s : StepD} {j : Nat} (h : j < out.length) : gst (out ++ [s]) (j : Int) = gst out (j : Int) := by
  unfold gst
  rw [Int.toNat_natCast, List.getD_eq_getElem?_getD, List.getD_eq_getElem?_getD, List.getElem?_append_left h]
theorem gst_snoc_eq {out : List StepD} {s : StepD} {j : Nat} (h : j = out.length) : gst (out ++ [s]) (j : Int) = s := by
  subst h
  unfold gst
  rw [Int.toNat_natCast, List.getD_eq_getElem?_getD, List.getElem?_append_right (Nat.le_refl _), Nat.sub_self]; rfl
theorem RInv.step {l : List Fld} {k : Nat} {out : List StepD} (h : RInv l k out) {s : StepD} (hs : ∀ s', stepF (gf l (k : Int)) = some s' → s = s') (hb : StepB s) : RInv l (k + 1) (out ++ [s]) := by
  refine ⟨by rw [List.length_append, h.len]; rfl, fun j hj => ?_⟩
  rcases Nat.lt_or_ge j k with h1 | h1
  · rw [gst_snoc_lt (by rw [h.len]; exact h1)]; exact h.at_ j h1
  · obtain rfl : j = k := by omega
    rw [gst_snoc_eq h.len.symm]; exact ⟨hs, hb⟩
theorem RInv.bytes {l : List Fld} {k : Nat} {out : List StepD} (h : RInv l k out) : ∀ s ∈ out, StepB s := by
  intro s hs
  obtain ⟨j, hj, rfl⟩ := List.getElem_of_mem hs
  have := (h.at_ j (by rw [← h.len]; exact hj)).2
  have e : gst out (j : Int) = out[j] := by simp [gst, List.getD_eq_getElem?_getD, hj]
  rwa [e] at this
/-! ### alike -/
/-! ### a byte less -/
end Go.Proofs.YtfocpadeflpabaaGreatDoor.Act
