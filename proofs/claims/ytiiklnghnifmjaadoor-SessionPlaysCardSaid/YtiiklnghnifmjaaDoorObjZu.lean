/- Things with a state. -/
import Derived.Test.YtiiklnghnifmjaaDoorIterZu
import Derived.Test.YtiiklnghnifmjaaDoorMapZu
set_option linter.unusedVariables false
namespace Go.Proofs.YtiiklnghnifmjaaDoor.Sx
open Go.RowKit
section
variable {B : Nat → Prop} {w0 w : World} {H : List (Nat × Asn)} {X X' : Asn}
theorem Hp.okX (h : Hp B w0 w H) (l : Nat) (hl : get H l = some X) : X.ok w := ⟨h.holds l X hl, h.inb l X hl, h.self l X hl⟩
/-- An element of a row: what is read for it is apart from the row's own block. -/
theorem Row.at_ {α : Type} {E : Rep α} {T : TypeId} {A : Option Addr} {c : Nat} {xs : List α} {ok : Nat → Prop} (h : Row E T w ok (.slice A xs.length c) xs) {i : Nat} {x : α} (hx : xs[i]? = some x) :
    ∃ g cs, A = some ⟨g, 0, none⟩ ∧ E.R w ok x cs ∧ ∀ j u, cs[j]? = some u → w.cell? ⟨g, i * E.n + j, none⟩ = some u := by
  obtain ⟨cs, ho, he⟩ := h
  have hi : i < xs.length := (List.getElem?_eq_some_iff.1 hx).1
  rcases ho.2 with ⟨_, h0⟩ | ⟨g, cap, cur, h3, _, hh, _, _, _, htk⟩
  · omega
  · injection h3 with h31 h32 h33
    subst h31 h33
    refine ⟨g, _, rfl, he.2 i x hx, fun j u hj => ?_⟩
    rw [cell_of_row w g _ cur T (0, 0) hh]
    rw [List.getElem?_take] at hj
    split at hj
    · rw [List.getElem?_drop, ← htk, List.getElem?_take] at hj
      split at hj
      · simpa using hj
      · cases hj
    · cases hj
theorem lab_apart {L' : List (Nat × Asn)} (h : Hp B w0 w H) (hs : ∀ i A, get L' i = some A → get H i = some A) (l : Nat) {Y : Asn} (hl : get H l = some Y) (hn : get L' l = none) {k : Nat} (hy : Y.own k) : ¬ (OwnL L' k ∨ RdL L' k) := by
  have ne : ∀ i A, get L' i = some A → l ≠ i := fun i A hA e => by subst e; rw [hn] at hA; cases hA
  rintro (⟨i, A, hA, ho⟩ | ⟨i, A, hA, ho⟩)
  · exact h.sep l i Y A (ne i A hA) hl (hs i A hA) k hy (.inl ho)
  · exact h.sep l i Y A (ne i A hA) hl (hs i A hA) k hy (.inr ho)
/-- Something of one's own beside what there is. -/
theorem Hp.addOwn {Y : Asn} (h : Hp B w0 w H) (l : Nat) (hy : Y.holds w) (ho : ∀ k, Y.own k → w0.heap.size ≤ k) (hin : ∀ k, Y.own k ∨ Y.rd k → k < w.heap.size) (hself : ∀ k, Y.own k → ¬ Y.rd k)
    (hsep : ∀ i A, get H i = some A → ∀ k, (A.own k → ¬ (Y.own k ∨ Y.rd k)) ∧ (Y.own k → ¬ (A.own k ∨ A.rd k))) : Hp B w0 w ((l, Y) :: H) := by
  have two : ∀ i A, get ((l, Y) :: H) i = some A → (i = l ∧ A = Y) ∨ (i ≠ l ∧ get H i = some A) := by
    intro i A hA
    rw [get_cons] at hA
    split at hA
    · rename_i e; cases hA; exact .inl ⟨e.symm, rfl⟩
    · rename_i e; exact .inr ⟨fun x => e x.symm, hA⟩
  refine ⟨h.mods, fun i A hA => ?_, fun i A hA k hk => ?_, fun i A hA k hk => ?_, fun i A hA k hk => ?_, fun i j A A' hne hA hA' k hk => ?_⟩
  · rcases two i A hA with ⟨_, rfl⟩ | ⟨_, h1⟩
    · exact hy
    · exact h.holds i A h1
  · rcases two i A hA with ⟨_, rfl⟩ | ⟨_, h1⟩
    · exact .inr (ho k hk)
    · exact h.mine i A h1 k hk
  · rcases two i A hA with ⟨_, rfl⟩ | ⟨_, h1⟩
    · exact hin k hk
    · exact h.inb i A h1 k hk
  · rcases two i A hA with ⟨_, rfl⟩ | ⟨_, h1⟩
    · exact hself k hk
    · exact h.self i A h1 k hk
  · rcases two i A hA with ⟨rfl, rfl⟩ | ⟨_, h1⟩ <;> rcases two j A' hA' with ⟨e2, e3⟩ | ⟨_, h2⟩
    · exact (hne e2.symm).elim
    · exact (hsep j A' h2 k).2 hk
    · subst e3; exact (hsep i A h1 k).1 hk
    · exact h.sep i j A A' hne h1 h2 k hk
/-- A thing has turned, and a row of one's own has come. -/
theorem Hp.grewRow {α : Type} {E : Rep α} {T : TypeId} {v : Value} {xs : List α} {w' : World} {rdY : Nat → Prop} (h : Hp B w0 w H) (l : Nat) (hl : get H l = some X) (g : Grew (fun _ => False) rdY X w w' X') (hY : ∀ k, rdY k → ∃ j A, get H j = some A ∧ A.rd k) (l2 : Nat)
    (hr : Row E T w' (fun _ => False) v xs) (hf : ∀ k, v.ownBlock = some k → w.heap.size ≤ k) (ha : ∀ k, v.ownBlock = some k → ¬ (X'.own k ∨ X'.rd k)) : Hp B w0 w' ((l2, .row E T v xs (fun _ => False)) :: (l, X') :: H) := by
  refine (h.grew l hl g hY).addOwn l2 hr (fun k hk => Nat.le_trans h.mods.size (hf k hk)) (fun k hk => hk.elim (fun h => hr.lt k h) (fun h => h.elim)) (fun k hk h => h.elim) (fun i A hA k => ?_)
  rw [get_cons] at hA
  split at hA
  · cases hA; exact ⟨fun h1 h2 => h2.elim (fun h2 => ha k h2 (.inl h1)) (fun h2 => h2.elim), fun h2 => ha k h2⟩
  · have hlt : A.own k ∨ A.rd k → k < w.heap.size := h.inb i A hA k
    exact ⟨fun h1 h2 => h2.elim (fun h2 => by have := hlt (.inl h1); have := hf k h2; omega) (fun h2 => h2.elim), fun h2 h1 => by have := hlt h1; have := hf k h2; omega⟩
end
end Go.Proofs.YtiiklnghnifmjaaDoor.Sx
