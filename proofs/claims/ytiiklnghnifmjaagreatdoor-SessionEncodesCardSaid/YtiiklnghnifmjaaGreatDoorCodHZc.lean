/- There and back. -/
import Derived.Test.YtiiklnghnifmjaaGreatDoorCodGZc
set_option linter.unusedVariables false
set_option linter.unusedSimpArgs false
namespace Go.Proofs.YtiiklnghnifmjaaGreatDoor.Cod
open Go.RowKit Go.Proofs.YtiiklnghnifmjaaGreatDoor.Sx
theorem okF_parts {f : Fld} (h : okF f = true) : 1 ≤ f.1 ∧ f.1 ≤ 255 ∧ f.2.length ≤ 2000 := by
  simpa [okF, Bool.and_eq_true, and_assoc] using h
theorem cut_enc {f : Fld} {r : List Int} (h : okF f = true) : cut (encF f ++ r) = some (f, r) := by
  obtain ⟨h1, h2, h3⟩ := okF_parts h
  obtain ⟨t, d⟩ := f
  simp only at h1 h2 h3
  have e : encF (t, d) ++ r = t :: ((d.length : Int) / 256) :: ((d.length : Int) % 256) :: (d ++ r) := by simp [encF]
  rw [e]
  unfold cut
  have g0 : gi (t :: ((d.length : Int) / 256) :: ((d.length : Int) % 256) :: (d ++ r)) 0 = t := rfl
  have g1 : gi (t :: ((d.length : Int) / 256) :: ((d.length : Int) % 256) :: (d ++ r)) 1 = (d.length : Int) / 256 := rfl
  have g2 : gi (t :: ((d.length : Int) / 256) :: ((d.length : Int) % 256) :: (d ++ r)) 2 = (d.length : Int) % 256 := rfl
  rw [if_pos (by simp)]
  dsimp only
  rw [g0, g1, g2, show ((d.length : Int) / 256 * 256 + (d.length : Int) % 256).toNat = d.length by omega, if_pos ⟨h3, by simp⟩]
  rw [show 3 + d.length = d.length + 1 + 1 + 1 by omega]
  simp only [List.drop_succ_cons, List.drop_zero, List.take_left', List.drop_left']
theorem items_enc {xs : List Fld} (h : xs.all okF = true) : items (encI xs) = xs := by
  induction xs with
  | nil => rfl
  | cons f xs ih =>
    simp only [List.all_cons, Bool.and_eq_true] at h
    have e : encI (f :: xs) = encF f ++ encI xs := rfl
    rw [e, items_some (cut_enc h.1), ih h.2, if_neg]
    have := (okF_parts h.1).1
    omega
theorem all_tags {xs : List Fld} (h : xs.all okF = true) : (xs.all fun f => !decide (f.1 = 0)) = true := by
  rw [List.all_eq_true] at h ⊢
  intro f hf
  have := (okF_parts (h f hf)).1
  rw [decide_eq_false (by omega)]
  rfl
theorem dec_enc {xs : List Fld} (h : xs.all okF = true) (hl : xs.length ≤ 200) : decR (encI xs) = some xs := by
  have e := items_enc h
  have := dec_some (bs := encI xs) (by rw [e]; exact all_tags h) (by rw [e]; exact hl)
  rw [e] at this
  exact this
theorem enc_cut {bs : List Int} {f : Fld} {r : List Int} (hb : Byt bs) (h : cut bs = some (f, r)) (h0 : f.1 ≠ 0) : bs = encF f ++ r ∧ okF f = true ∧ Byt r := by
  unfold cut at h
  split at h
  · rename_i h3
    obtain ⟨a, bs, rfl⟩ : ∃ a t, bs = a :: t := by cases bs with | nil => simp at h3 | cons a t => exact ⟨a, t, rfl⟩
    obtain ⟨b, bs, rfl⟩ : ∃ a t, bs = a :: t := by cases bs with | nil => simp at h3 | cons a t => exact ⟨a, t, rfl⟩
    obtain ⟨c, t, rfl⟩ : ∃ a t, bs = a :: t := by cases bs with | nil => simp at h3 | cons a t => exact ⟨a, t, rfl⟩
    have ha := hb a (by simp)
    have hb' := hb b (by simp)
    have hc := hb c (by simp)
    dsimp only at h
    split at h
    · rename_i hn
      have e1 : gi (a :: b :: c :: t) 1 = b := rfl
      have e2 : gi (a :: b :: c :: t) 2 = c := rfl
      have e0 : gi (a :: b :: c :: t) 0 = a := rfl
      rw [e1, e2] at hn h
      rw [e0] at h
      obtain ⟨n, hnn⟩ : ∃ n : Nat, b * 256 + c = (n : Int) := ⟨(b * 256 + c).toNat, by omega⟩
      rw [hnn, Int.toNat_natCast] at hn h
      rw [show 3 + n = n + 1 + 1 + 1 by omega] at h
      simp only [List.drop_succ_cons, List.drop_zero, Option.some.injEq, Prod.mk.injEq] at h
      obtain ⟨rfl, rfl⟩ := h
      have hl : (t.take n).length = n := by rw [List.length_take]; simp only [List.length_cons] at hn; omega
      simp only at h0
      refine ⟨?_, ?_, fun x hx => hb x (by have := List.mem_of_mem_drop hx; simp [this])⟩
      · unfold encF
        simp only [hl]
        rw [show (n : Int) / 256 = b by omega, show (n : Int) % 256 = c by omega, List.append_assoc, List.take_append_drop]
        rfl
      · unfold okF
        simp only [hl]
        rw [decide_eq_true (by omega), decide_eq_true (by omega), decide_eq_true (by omega)]
        rfl
    · cases h
  · cases h
theorem enc_items : ∀ (n : Nat) (bs : List Int), bs.length ≤ n → Byt bs → ((items bs).all fun f => !decide (f.1 = 0)) = true → encI (items bs) = bs ∧ (items bs).all okF = true := by
  intro n
  induction n with
  | zero =>
    intro bs hl hb h
    have : bs = [] := List.length_eq_zero_iff.1 (by omega)
    subst this
    exact ⟨rfl, rfl⟩
  | succ n ih =>
    intro bs hl hb h
    by_cases h0 : bs.length = 0
    · have : bs = [] := List.length_eq_zero_iff.1 h0
      subst this
      exact ⟨rfl, rfl⟩
    · cases hc : cut bs with
      | none => rw [items_none (by omega) hc] at h; simp at h
      | some p =>
        obtain ⟨f, r⟩ := p
        have hlt := cut_lt hc
        rw [items_some hc] at h ⊢
        by_cases hf : f.1 = 0
        · rw [if_pos hf] at h
          simp [hf] at h
        · rw [if_neg hf] at h ⊢
          simp only [List.all_cons, Bool.and_eq_true] at h
          obtain ⟨e1, e2, e3⟩ := enc_cut hb hc hf
          obtain ⟨i1, i2⟩ := ih r (by omega) e3 h.2
          refine ⟨?_, by simp only [List.all_cons, e2, i2]; rfl⟩
          show encF f ++ encI (items r) = bs
          rw [i1, ← e1]
theorem enc_dec {bs : List Int} {l : List Fld} (hb : Byt bs) (h : decR bs = some l) : encR l = some bs := by
  unfold decR at h
  dsimp only at h
  split at h
  · rename_i hh
    cases h
    rw [Bool.and_eq_true] at hh
    obtain ⟨e1, e2⟩ := enc_items bs.length bs (Nat.le_refl _) hb hh.1
    show encR (items bs) = some bs
    unfold encR encOk
    rw [show (told bs.length bs) = items bs from rfl] at hh
    rw [e2, hh.2, e1]
    rfl
  · cases h
theorem enc_parts {xs : List Fld} {ys : List Int} (h : encR xs = some ys) : xs.all okF = true ∧ xs.length ≤ 200 ∧ ys = encI xs := by
  unfold encR encOk at h
  split at h
  · rename_i hh
    rw [Bool.and_eq_true] at hh
    cases h
    exact ⟨hh.2, of_decide_eq_true hh.1, rfl⟩
  · cases h
theorem dec_zero {bs : List Int} (h : (if (decR bs).isSome then (0 : Int) else 12) = 0) : ∃ l, decR bs = some l := by
  cases hd : decR bs with
  | none => rw [hd] at h; simp at h
  | some l => exact ⟨l, rfl⟩
theorem byt_enc {xs : List Fld} (h : xs.all okF = true) (hb : ∀ f ∈ xs, Byt f.2) : Byt (encI xs) := by
  intro n hn
  obtain ⟨f, hf, hn⟩ := List.mem_flatMap.1 hn
  obtain ⟨h1, h2, h3⟩ := okF_parts (List.all_eq_true.1 h f hf)
  rcases List.mem_append.1 hn with hn | hn
  · simp only [List.mem_cons, List.not_mem_nil, or_false] at hn
    rcases hn with rfl | rfl | rfl <;> omega
  · exact hb f hf n hn
end Go.Proofs.YtiiklnghnifmjaaGreatDoor.Cod
