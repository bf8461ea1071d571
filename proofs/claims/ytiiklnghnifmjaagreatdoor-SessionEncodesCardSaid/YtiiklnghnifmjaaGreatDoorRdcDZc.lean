/- What the document decodes a change's and a message's bytes to: the fields by their places. -/
import Derived.Test.YtiiklnghnifmjaaGreatDoorMdcDZc
set_option linter.unusedVariables false
set_option linter.unusedSimpArgs false
namespace Go.Proofs.YtiiklnghnifmjaaGreatDoor.Act
open Go.RowKit Go.Proofs.YtiiklnghnifmjaaGreatDoor.Sx Go.Proofs.YtiiklnghnifmjaaGreatDoor.Cod Go.Proofs.YtiiklnghnifmjaaGreatDoor.Num
theorem gf_byte {l : List Fld} (h : ∀ f ∈ l, Byte f.2) (k : Nat) : Byte (gf l (k : Int)).2 := by
  by_cases hk : (k : Int) < l.length
  · exact h _ (List.mem_of_getElem? (gf_some (xs := l) (i := (k : Int)) (by omega) hk))
  · have e : gf l (k : Int) = gf [] 0 := by
      unfold gf
      rw [List.getD_eq_getElem?_getD, List.getElem?_eq_none (by omega)]
      rfl
    rw [e]; exact Byte.nil
theorem gb0 {l : List Fld} (h : ∀ f ∈ l, Byte f.2) : Byte (gf l 0).2 := gf_byte h 0
theorem gb1 {l : List Fld} (h : ∀ f ∈ l, Byte f.2) : Byte (gf l 1).2 := gf_byte h 1
theorem gb2 {l : List Fld} (h : ∀ f ∈ l, Byte f.2) : Byte (gf l 2).2 := gf_byte h 2
theorem gb3 {l : List Fld} (h : ∀ f ∈ l, Byte f.2) : Byte (gf l 3).2 := gf_byte h 3
theorem gb4 {l : List Fld} (h : ∀ f ∈ l, Byte f.2) : Byte (gf l 4).2 := gf_byte h 4
theorem gb5 {l : List Fld} (h : ∀ f ∈ l, Byte f.2) : Byte (gf l 5).2 := gf_byte h 5
def rtOf (l : List Fld) : TimerD := ⟨(gf l 1).2, numV (gf l 2).2, numV (gf l 3).2, numV (gf l 4).2, (adecR (gf l 5).2).getD []⟩
def zTT : TimerD := ⟨[], 0, 0, 0, []⟩
def rcK (l : List Fld) : Int := gi (gf l 0).2 0
def rcV (l : List Fld) : List Int := if 2 < (l.length : Int) then (gf l 2).2 else []
def rcOf (l : List Fld) : ChangeD := if rcK l = 3 then ⟨rcK l, [], [], rtOf l⟩ else ⟨rcK l, (gf l 1).2, rcV l, zTT⟩
structure OkR (l : List Fld) : Prop where
  two : 2 ≤ (l.length : Int)
  head : ((gf l 0).2.length : Int) = 1
  tim : rcK l = 3 → (l.length : Int) = 6 ∧ numOk (gf l 2).2 = true ∧ numOk (gf l 3).2 = true ∧ numOk (gf l 4).2 = true ∧ adE (gf l 5).2 = 0 ∧ numV (gf l 2).2 ≤ 1099511627776
theorem rcOf_enc {c : ChangeD} (h : rightC c = true) (hb : ChangeB c) : rcOf (chgF c) = c ∧ OkR (chgF c) := by
  rcases rightC_parts h with ⟨hk, _, hbt, _⟩ | ⟨hk, _, hbt, hv⟩ | ⟨hk, hkey, hv, ht⟩
  · have ht := bareT_parts hbt
    have e : chgF c = [(1, [c.kind]), (2, c.key), (3, c.value)] := by unfold chgF; rw [if_neg (by omega), if_pos hk]; rfl
    rw [e]
    have hk3 : ¬ c.kind = 3 := by omega
    refine ⟨?_, ⟨(by show (2 : Int) ≤ 3; decide), rfl, fun h3 => absurd (show c.kind = 3 from h3) hk3⟩⟩
    unfold rcOf
    rw [if_neg (show ¬ rcK [(1, [c.kind]), (2, c.key), (3, c.value)] = 3 from hk3)]
    obtain ⟨k, a, v, t⟩ := c
    dsimp only at ht
    subst ht
    rfl
  · have ht := bareT_parts hbt
    have e : chgF c = [(1, [c.kind]), (2, c.key)] := by unfold chgF; rw [if_neg (by omega), if_neg (by omega)]; rfl
    rw [e]
    have hk3 : ¬ c.kind = 3 := by omega
    refine ⟨?_, ⟨(by show (2 : Int) ≤ 2; decide), rfl, fun h3 => absurd (show c.kind = 3 from h3) hk3⟩⟩
    unfold rcOf
    rw [if_neg (show ¬ rcK [(1, [c.kind]), (2, c.key)] = 3 from hk3)]
    obtain ⟨k, a, v, t⟩ := c
    dsimp only at ht hv
    subst ht; subst hv
    rfl
  · obtain ⟨he, _, _, hv1, hv2, hti, hev⟩ := rightT_parts ht
    have e : chgF c = [(1, [c.kind]), (4, c.timer.name), (5, bI c.timer.ver), (6, bI c.timer.tick), (7, bI c.timer.every), (8, encT c.timer.steps)] := by unfold chgF; rw [if_pos hk]; rfl
    have t1 := hb.timer.tick; have t2 := hb.timer.every
    unfold U64 at t1 t2
    have n5 := num_bI (n := c.timer.ver) (by omega) (by omega)
    have n6 := num_bI (n := c.timer.tick) t1.1 t1.2
    have n7 := num_bI (n := c.timer.every) t2.1 t2.2
    have a8 := adec_enc he hb.timer.steps
    rw [e]
    have f2 : (gf [(1, [c.kind]), (4, c.timer.name), (5, bI c.timer.ver), (6, bI c.timer.tick), (7, bI c.timer.every), (8, encT c.timer.steps)] 2).2 = bI c.timer.ver := rfl
    have f3 : (gf [(1, [c.kind]), (4, c.timer.name), (5, bI c.timer.ver), (6, bI c.timer.tick), (7, bI c.timer.every), (8, encT c.timer.steps)] 3).2 = bI c.timer.tick := rfl
    have f4 : (gf [(1, [c.kind]), (4, c.timer.name), (5, bI c.timer.ver), (6, bI c.timer.tick), (7, bI c.timer.every), (8, encT c.timer.steps)] 4).2 = bI c.timer.every := rfl
    have f5 : (gf [(1, [c.kind]), (4, c.timer.name), (5, bI c.timer.ver), (6, bI c.timer.tick), (7, bI c.timer.every), (8, encT c.timer.steps)] 5).2 = encT c.timer.steps := rfl
    refine ⟨?_, ⟨(by show (2 : Int) ≤ 6; decide), rfl, fun _ => ⟨rfl, by rw [f2]; exact n5.2, by rw [f3]; exact n6.2, by rw [f4]; exact n7.2, by rw [f5]; unfold adE; rw [a8]; rfl, by rw [f2, n5.1]; exact hv2⟩⟩⟩
    unfold rcOf
    rw [if_pos (show rcK [(1, [c.kind]), (4, c.timer.name), (5, bI c.timer.ver), (6, bI c.timer.tick), (7, bI c.timer.every), (8, encT c.timer.steps)] = 3 from hk)]
    unfold rtOf
    rw [f2, f3, f4, f5, n5.1, n6.1, n7.1, a8]
    obtain ⟨k, a, v, t⟩ := c
    dsimp only at hkey hv
    subst hkey; subst hv
    rfl
theorem noC_shape {bs : List Int} {l : List Fld} (h : decR bs = some l) (hn : ¬ OkR l) : NoC bs := fun c hr hb e => by
  have h2 := decR_C hr hb
  rw [e, h] at h2
  cases h2
  exact hn (rcOf_enc hr hb).2
theorem noC_rend {bs : List Int} {l : List Fld} (h : decR bs = some l) (hn : ¬ (encCE (rcOf l) = 0 ∧ encC (rcOf l) = bs)) : NoC bs := fun c hr hb e => by
  have h2 := decR_C hr hb
  rw [e, h] at h2
  cases h2
  have := (rcOf_enc hr hb).1
  exact hn ⟨by rw [this]; exact encCE_yes hr, by rw [this]; exact e⟩
theorem u8_fits {xs : List Int} (h : Byte xs) (i : Int) : Fits (gi xs i) := by have := h.gi i; unfold Fits; omega
theorem rtOf_B {l : List Fld} (h : ∀ f ∈ l, Byte f.2) (hv : numV (gf l 2).2 ≤ 1099511627776) : TimerB (rtOf l) := by
  have h5 := numV_range (gf_byte h 2)
  refine ⟨gf_byte h 1, ?_, numV_range (gf_byte h 3), numV_range (gf_byte h 4), adec_B (gf_byte h 5)⟩
  have h6 : 0 ≤ numV (gf l 2).2 := h5.1
  show Fits (numV (gf l 2).2)
  unfold Fits; omega
theorem rcOf_B {l : List Fld} (h : ∀ f ∈ l, Byte f.2) (hv : rcK l = 3 → numV (gf l 2).2 ≤ 1099511627776) : ChangeB (rcOf l) := by
  unfold rcOf
  split
  · rename_i h3; exact ⟨u8_fits (gf_byte h 0) 0, Byte.nil, Byte.nil, rtOf_B h (hv h3)⟩
  · refine ⟨u8_fits (gf_byte h 0) 0, gf_byte h 1, ?_, ⟨Byte.nil, (by decide : Fits (0 : Int)), (by decide : U64 (0 : Int)), (by decide : U64 (0 : Int)), fun s hs => by cases hs⟩⟩
    show Byte (rcV l)
    unfold rcV
    split
    · exact gf_byte h 2
    · exact Byte.nil
theorem chgF_3b {c : ChangeD} (h : c.kind = 3) : [((1, [c.kind]) : Fld)] ++ [((4, c.timer.name) : Fld), ((5, bI c.timer.ver) : Fld), ((6, bI c.timer.tick) : Fld), ((7, bI c.timer.every) : Fld), ((8, encT c.timer.steps) : Fld)] = chgF c := by unfold chgF; rw [if_pos h]
theorem rightC_n {c : ChangeD} (h : rightC c = true) (h3 : ¬ c.kind = 3) : nameI c.key = true := by
  by_cases h1 : c.kind = 1
  · exact (rightC_1 h h1).1
  · exact rightC_2 h h3 h1
/-! ### messages -/
theorem MInv.start2 (dl : List Fld) : MInv dl 2 [] [] := fun m _ _ _ => ⟨rfl, by simp⟩
theorem bodyT_is {bs : List Int} (h : ¬ (bs.length : Int) < 4) : bs.take (Int.toNat ((bs.length : Int) - 4)) = bodyM bs := by
  unfold bodyM mx; rw [if_neg (by omega)]
theorem DecM.uniq {bs : List Int} {m m' : MessageD} {g g' : Int} (h : DecM bs m g) (h' : DecM bs m' g') : m = m' ∧ g = g' := by
  rcases h with ⟨hb, ⟨hg, h1, h2⟩ | ⟨hg, hn, hz⟩⟩
  · have := h'.of h1 hb h2
    exact ⟨this.2.symm, by rw [hg, this.1]⟩
  · rcases h' with ⟨hb', ⟨_, h1, h2⟩ | ⟨hg', _, hz'⟩⟩
    · exact absurd h2 (hn m' h1 hb')
    · exact ⟨hz.trans hz'.symm, by rw [hg, hg']⟩
end Go.Proofs.YtiiklnghnifmjaaGreatDoor.Act
