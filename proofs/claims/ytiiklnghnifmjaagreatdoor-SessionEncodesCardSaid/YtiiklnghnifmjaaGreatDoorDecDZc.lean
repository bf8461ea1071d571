/- What a change's bytes are decoded to, plain. -/
import Derived.Test.YtiiklnghnifmjaaGreatDoorMsgDZc
set_option linter.unusedVariables false
set_option linter.unusedSimpArgs false
namespace Go.Proofs.YtiiklnghnifmjaaGreatDoor.Sx
open Go.RowKit
section
variable {B : Nat → Prop} {w0 w : World} {H : List (Nat × Asn)}
/-- What is only seen. -/
theorem Hp.seen (h : Hp B w0 w H) (l : Nat) (X0 : Asn) (hown : ∀ k, ¬ X0.own k) (hh : X0.holds w) (hok : ∀ k, X0.rd k → k < w.heap.size) (hs : ∀ i A', get H i = some A' → ∀ k, A'.own k → ¬ X0.rd k) : Hp B w0 w ((l, X0) :: H) := by
  refine ⟨h.mods, ?_, ?_, ?_, ?_, ?_⟩
  · intro i X hX; rw [get_cons] at hX; split at hX
    · cases hX; exact hh
    · exact h.holds i X hX
  · intro i X hX; rw [get_cons] at hX; split at hX
    · cases hX; exact fun k hk => (hown k hk).elim
    · exact h.mine i X hX
  · intro i X hX; rw [get_cons] at hX; split at hX
    · cases hX; exact fun k hk => hk.elim (fun h => (hown k h).elim) (hok k)
    · exact h.inb i X hX
  · intro i X hX; rw [get_cons] at hX; split at hX
    · cases hX; exact fun k hk => (hown k hk).elim
    · exact h.self i X hX
  · intro i j X Y hij hX hY k hk
    rw [get_cons] at hX hY
    split at hX
    · cases hX; exact (hown k hk).elim
    · split at hY
      · cases hY; rintro (h1 | h1)
        · exact hown k h1
        · exact hs i X hX k hk h1
      · exact h.sep i j X Y hij hX hY k hk
end
end Go.Proofs.YtiiklnghnifmjaaGreatDoor.Sx
namespace Go.Proofs.YtiiklnghnifmjaaGreatDoor.Act
open Go.RowKit Go.Proofs.YtiiklnghnifmjaaGreatDoor.Sx Go.Proofs.YtiiklnghnifmjaaGreatDoor.Cod Go.Proofs.YtiiklnghnifmjaaGreatDoor.Num
def fnd (l : List Fld) (t : Int) : List Int := (findI l t).getD []
theorem fnd_byte {l : List Fld} (h : ∀ f ∈ l, Byte f.2) (t : Int) : Byte (fnd l t) := by
  unfold fnd findI
  cases hq : l.find? fun f => decide (f.1 = t) with
  | none => exact Byte.nil
  | some f => exact h f (List.mem_of_find?_eq_some hq)
theorem numV_range {xs : List Int} (h : Byte xs) : 0 ≤ numV xs ∧ numV xs < 18446744073709551616 := by
  unfold numV
  split
  · rename_i ho
    unfold numOk at ho
    simp only [Bool.and_eq_true, decide_eq_true_eq] at ho
    have h8 := ho.1
    have := numI_range h xs.length (Nat.le_refl _)
    rw [List.take_length] at this
    have key : ∀ k : Nat, k < 9 → (256 : Int) ^ k ≤ 18446744073709551616 := by
      intro k hk
      rcases k with _ | _ | _ | _ | _ | _ | _ | _ | _ | k <;> first | decide | omega
    have h2 := key xs.length (by omega)
    omega
  · omega
def adE (bs : List Int) : Int := if (adecR bs).isSome then 0 else 12
def tOfL (l : List Fld) : TimerD := ⟨fnd l 4, mn (numV (fnd l 5)) 1099511627776, numV (fnd l 6), numV (fnd l 7), (adecR (fnd l 8)).getD []⟩
def cOf (l : List Fld) : ChangeD := ⟨gi (fnd l 1) 0, fnd l 2, fnd l 3, if gi (fnd l 1) 0 = 3 then tOfL l else ⟨[], 0, 0, 0, []⟩⟩
def okOf (l : List Fld) : Bool := if gi (fnd l 1) 0 = 3 then numOk (fnd l 5) && (decide (numV (fnd l 5) ≤ 1099511627776) && ((adecR (fnd l 8)).isSome && (numOk (fnd l 6) && numOk (fnd l 7)))) else true
theorem adec_B {bs : List Int} (h : Byte bs) : ∀ s ∈ (adecR bs).getD [], StepB s := by
  cases hq : adecR bs with
  | none => intro s hs; cases hs
  | some r => exact (adec_back h hq).2.2.1
theorem tOfL_B {l : List Fld} (h : ∀ f ∈ l, Byte f.2) : TimerB (tOfL l) := by
  have h5 := numV_range (fnd_byte h 5)
  refine ⟨fnd_byte h 4, ?_, numV_range (fnd_byte h 6), numV_range (fnd_byte h 7), adec_B (fnd_byte h 8)⟩
  show Fits (mn (numV (fnd l 5)) 1099511627776)
  unfold Fits mn
  split <;> omega
theorem cOf_B {l : List Fld} (h : ∀ f ∈ l, Byte f.2) : ChangeB (cOf l) := by
  refine ⟨?_, fnd_byte h 2, fnd_byte h 3, ?_⟩
  · have := (fnd_byte h 1).gi 0
    show Fits (gi (fnd l 1) 0)
    unfold Fits; omega
  · show TimerB (if gi (fnd l 1) 0 = 3 then tOfL l else ⟨[], 0, 0, 0, []⟩)
    split
    · exact tOfL_B h
    · exact ⟨Byte.nil, (by decide : Fits (0 : Int)), (by decide : U64 (0 : Int)), (by decide : U64 (0 : Int)), fun s hs => by cases hs⟩
/-- No right change has these bytes. -/
def NoC (bs : List Int) : Prop := ∀ c, rightC c = true → ChangeB c → encC c ≠ bs
theorem decR_C {c : ChangeD} (h : rightC c = true) (hb : ChangeB c) : decR (encC c) = some (chgF c) := by
  obtain ⟨h1, h2⟩ := chgF_ok h hb
  unfold encC
  rw [if_pos h]
  exact dec_enc h1 (by omega)
theorem noC_none {bs : List Int} (h : decR bs = none) : NoC bs := fun c hr hb e => by
  rw [← e, decR_C hr hb] at h; cases h
theorem fnd_kind (c : ChangeD) : fnd (chgF c) 1 = [c.kind] := by simp [fnd, findI, chgF]
theorem noC_kind {bs : List Int} {l : List Fld} (h : decR bs = some l) (h1 : ¬ ((fnd l 1).length : Int) = 1) : NoC bs := fun c hr hb e => by
  rw [← e, decR_C hr hb] at h
  cases h
  rw [fnd_kind] at h1
  exact h1 rfl
theorem num_bI {n : Int} (h0 : 0 ≤ n) (h1 : n < 18446744073709551616) : numV (bI n) = n ∧ numOk (bI n) = true := by
  unfold bI
  exact ⟨by rw [num_bytesV (by omega)]; omega, bytes_ok (by omega)⟩
theorem cOf_enc {c : ChangeD} (h : rightC c = true) (hb : ChangeB c) : cOf (chgF c) = c ∧ okOf (chgF c) = true := by
  have hk1 : gi (fnd (chgF c) 1) 0 = c.kind := by rw [fnd_kind]; rfl
  rcases rightC_parts h with ⟨hk, _, hbt, _⟩ | ⟨hk, _, hbt, hv⟩ | ⟨hk, hkey, hv, ht⟩
  · have ht := bareT_parts hbt
    have e : chgF c = [(1, [c.kind]), (2, c.key), (3, c.value)] := by unfold chgF; rw [if_neg (by omega), if_pos hk]; rfl
    constructor
    · unfold cOf
      rw [hk1, if_neg (by omega), e]
      obtain ⟨k, a, v, t⟩ := c
      dsimp only at ht
      subst ht
      rfl
    · unfold okOf; rw [hk1, if_neg (by omega)]
  · have ht := bareT_parts hbt
    have e : chgF c = [(1, [c.kind]), (2, c.key)] := by unfold chgF; rw [if_neg (by omega), if_neg (by omega)]; rfl
    constructor
    · unfold cOf
      rw [hk1, if_neg (by omega), e]
      obtain ⟨k, a, v, t⟩ := c
      dsimp only at ht hv
      subst ht; subst hv
      rfl
    · unfold okOf; rw [hk1, if_neg (by omega)]
  · obtain ⟨he, _, _, hv1, hv2, hti, hev⟩ := rightT_parts ht
    have e : chgF c = [(1, [c.kind]), (4, c.timer.name), (5, bI c.timer.ver), (6, bI c.timer.tick), (7, bI c.timer.every), (8, encT c.timer.steps)] := by unfold chgF; rw [if_pos hk]; rfl
    have t1 := hb.timer.tick; have t2 := hb.timer.every
    unfold U64 at t1 t2
    have n5 := num_bI (n := c.timer.ver) (by omega) (by omega)
    have n6 := num_bI (n := c.timer.tick) t1.1 t1.2
    have n7 := num_bI (n := c.timer.every) t2.1 t2.2
    have a8 := adec_enc he hb.timer.steps
    have f2 : fnd (chgF c) 2 = [] := by rw [e]; rfl
    have f3 : fnd (chgF c) 3 = [] := by rw [e]; rfl
    have f4 : fnd (chgF c) 4 = c.timer.name := by rw [e]; rfl
    have f5 : fnd (chgF c) 5 = bI c.timer.ver := by rw [e]; rfl
    have f6 : fnd (chgF c) 6 = bI c.timer.tick := by rw [e]; rfl
    have f7 : fnd (chgF c) 7 = bI c.timer.every := by rw [e]; rfl
    have f8 : fnd (chgF c) 8 = encT c.timer.steps := by rw [e]; rfl
    constructor
    · unfold cOf tOfL
      rw [hk1, if_pos hk, f2, f3, f4, f5, f6, f7, f8, n5.1, n6.1, n7.1, a8]
      have hm : mn c.timer.ver 1099511627776 = c.timer.ver := by unfold mn; rw [if_neg (by omega)]
      rw [hm]
      obtain ⟨k, a, v, t⟩ := c
      dsimp only at hkey hv
      subst hkey; subst hv
      rfl
    · unfold okOf
      rw [hk1, if_pos hk, f5, f6, f7, f8, n5.1, n5.2, n6.2, n7.2, a8, decide_eq_true hv2]
      rfl
theorem noC_end {bs : List Int} {l : List Fld} (h : decR bs = some l) (hn : ¬ (okOf l = true ∧ encCE (cOf l) = 0 ∧ encC (cOf l) = bs)) : NoC bs := fun c hr hb e => by
  have h2 := decR_C hr hb
  rw [e, h] at h2
  cases h2
  have := cOf_enc hr hb
  exact hn ⟨this.2, by rw [this.1]; exact encCE_yes hr, by rw [this.1]; exact e⟩
theorem encCE0 {c : ChangeD} (h : encCE c = 0) : rightC c = true := by unfold encCE at h; split at h; assumption; cases h
/-- What store.Decode hands back. -/
def DecC (bs : List Int) (c : ChangeD) (g : Int) : Prop := ChangeB c ∧ ((g = 0 ∧ rightC c = true ∧ encC c = bs) ∨ (g = 12 ∧ NoC bs))
theorem DecC.no {bs : List Int} (h : NoC bs) : DecC bs ⟨0, [], [], ⟨[], 0, 0, 0, []⟩⟩ 12 :=
  ⟨⟨(by decide : Fits (0 : Int)), Byte.nil, Byte.nil, ⟨Byte.nil, (by decide : Fits (0 : Int)), (by decide : U64 (0 : Int)), (by decide : U64 (0 : Int)), fun s hs => by cases hs⟩⟩, .inr ⟨rfl, h⟩⟩
theorem DecC.of {bs : List Int} {c : ChangeD} {g : Int} (h : DecC bs c g) {c' : ChangeD} (hr : rightC c' = true) (hb : ChangeB c') (e : encC c' = bs) : g = 0 ∧ c = c' := by
  rcases h with ⟨h0, h⟩
  rcases h with ⟨hg, h1, h2⟩ | ⟨_, hn⟩
  · exact ⟨hg, encC_inj h1 hr h0 hb (h2.trans e.symm)⟩
  · exact absurd e (hn c' hr hb)
theorem fnd_len {l : List Fld} (h : short l = true) (t : Int) : (fnd l t).length ≤ 5000 := by
  unfold fnd findI
  unfold short at h
  cases hq : l.find? fun f => decide (f.1 = t) with
  | none => simp
  | some f => have := List.all_eq_true.1 h f (List.mem_of_find?_eq_some hq); simpa using this
theorem short_of {bs : List Int} {l : List Fld} (hb : Byte bs) (h : decR bs = some l) : short l = true := by
  unfold short
  rw [List.all_eq_true]
  intro f hf
  have := (okF_parts (List.all_eq_true.1 (enc_parts (enc_dec hb h)).1 f hf)).2.2
  exact decide_eq_true (by omega)
end Go.Proofs.YtiiklnghnifmjaaGreatDoor.Act
