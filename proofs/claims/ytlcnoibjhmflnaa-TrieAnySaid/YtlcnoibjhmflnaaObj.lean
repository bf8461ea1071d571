/- Things with a state. -/
import Derived.Test.YtlcnoibjhmflnaaIter
import Derived.Test.YtlcnoibjhmflnaaMap
set_option linter.unusedVariables false
namespace Go.Proofs.Ytlcnoibjhmflnaa.Sx
open Go.RowKit
section
variable {B : Nat → Prop} {w0 w : World} {H : List (Nat × Asn)} {X X' : Asn}
/-- A label's thing, as what the function's own has turned to. -/
theorem grew_lab (h : Hp X.own w0 w H) (l : Nat) (hl : get H l = some X') {rdY : Nat → Prop} (hrd : ∀ k, X'.rd k → X.own k ∨ X.rd k ∨ rdY k ∨ w0.heap.size ≤ k) : Grew (fun _ => False) rdY X w0 w X' :=
  ⟨h.mods.mono (fun k hk _ => .inl hk), ⟨h.holds l X' hl, h.inb l X' hl, h.self l X' hl⟩, fun k hk => h.mine l X' hl k hk, hrd⟩
theorem Hp.okX (h : Hp B w0 w H) (l : Nat) (hl : get H l = some X) : X.ok w := ⟨h.holds l X hl, h.inb l X hl, h.self l X hl⟩
theorem Hp.own1 (ho : X.ok w0) (l : Nat) : Hp X.own w0 w0 [(l, X)] :=
  (Hp.nil X.own w0).takes (bs := fun _ => False) l (fun j A h => by simp [get] at h) (fun j A h => by simp [get] at h) (fun k hk => hk) ho
theorem Hp.ownrow {α : Type} {E : Rep α} {T : TypeId} {v : Value} {xs : List α} {ok : Nat → Prop} (l : Nat) (hr : Row E T w0 ok v xs) (hi : ∀ k, ok k → k < w0.heap.size) (hs : ∀ k, v.ownBlock = some k → ¬ ok k) : Hp (fun k => v.ownBlock = some k) w0 w0 [(l, .row E T v xs ok)] :=
  Hp.own1 (X := .row E T v xs ok) ⟨hr, fun k hk => hk.elim (fun h => hr.lt k h) (hi k), hs⟩ l
/-- An element of a row: what is read for it is apart from the row's own block. -/
theorem Row.at_ {α : Type} {E : Rep α} {T : TypeId} {A : Option Addr} {c : Nat} {xs : List α} {ok : Nat → Prop} (h : Row E T w ok (.slice A xs.length c) xs) {i : Nat} {x : α} (hx : xs[i]? = some x) :
    ∃ g cs, A = some ⟨g, 0, none⟩ ∧ E.R w ok x cs ∧ ∀ j u, cs[j]? = some u → w.cell? ⟨g, i * E.n + j, none⟩ = some u := by
  obtain ⟨cs, ho, he⟩ := h
  have hi : i < xs.length := (List.getElem?_eq_some_iff.1 hx).1
  rcases ho.2 with ⟨_, h0⟩ | ⟨g, cap, cur, h3, _, hh, _, _, _, htk⟩
  · omega
  · injection h3 with h31 h32 h33
    subst h31 h33
    refine ⟨g, _, rfl, he.2 i x hx, fun j u hj => ?_⟩
    rw [cell_of_row w g _ cur T (0, 0) hh]
    rw [List.getElem?_take] at hj
    split at hj
    · rw [List.getElem?_drop, ← htk, List.getElem?_take] at hj
      split at hj
      · simpa using hj
      · cases hj
    · cases hj
theorem Hp.rowSame {α : Type} {E : Rep α} {T : TypeId} {v v' : Value} {xs ys : List α} {ok : Nat → Prop} {w' : World} (h : Hp B w0 w H) (l : Nat) (hl : get H l = some (.row E T v xs ok)) (hm : Mods (fun k => v.ownBlock = some k) w w') (hr : Row E T w' ok v' ys) (hv : v'.ownBlock = v.ownBlock) : Hp B w0 w' ((l, .row E T v' ys ok) :: H) := by
  refine h.one hm l _ (fun k hk => ⟨_, hl, hk⟩) hr (fun k hk => .inl ⟨_, hl, hv.symm.trans hk⟩) (fun k hk => .inr (.inl ⟨l, _, hl, hk⟩)) (fun k hk => ?_) (fun k hk hk2 => h.self l _ hl k (hv.symm.trans hk) hk2)
  rcases hk with hk | hk
  · exact hr.lt k hk
  · exact Nat.lt_of_lt_of_le (h.inb l _ hl k (.inr hk)) hm.size
theorem grew_sub {L' : List (Nat × Asn)} (h : Hp X.own w0 w H) (hs : ∀ i A, get L' i = some A → get H i = some A) {rdY : Nat → Prop} (hrd : ∀ k, RdL L' k → X.own k ∨ X.rd k ∨ rdY k ∨ w0.heap.size ≤ k) : Grew (fun _ => False) rdY X w0 w (Asn.all L') :=
  ⟨h.mods.mono (fun k hk _ => .inl hk), (h.sub L' hs).okAll, fun k ⟨i, A, hA, hk⟩ => h.mine i A (hs i A hA) k hk, hrd⟩
theorem own_old {l : Nat} (h : Hp B w0 w H) {X' : Asn} : ∀ i Y, get ((l, X') :: H) i = some Y → i ≠ l → ∀ k, Y.own k → k < w.heap.size := fun i Y hY hne k hk => by
  rw [get_cons, if_neg (fun e => hne e.symm)] at hY; exact h.inb i Y hY k (.inl hk)
theorem own_old2 {α : Type} {E : Rep α} {A : Option Addr} {xs : List α} {c : Nat} {ok : Nat → Prop} {l l2 : Nat} (h : Hp B w0 w H) {X' : Asn} : ∀ i Y, get ((l2, .rd_ E A xs c ok) :: (l, X') :: H) i = some Y → i ≠ l → ∀ k, Y.own k → k < w.heap.size := fun i Y hY hne k hk => by
  rw [get_cons] at hY
  split at hY
  · cases hY; exact hk.elim
  · exact own_old h i Y hY hne k hk
/-- A thing has turned, and something that is only read has come. -/
theorem Hp.readNew {α : Type} {E : Rep α} {A : Option Addr} {xs : List α} {c : Nat} {ok : Nat → Prop} {w' : World} (h' : Hp B w0 w' H) (l l2 : Nat) (ho : ∀ i Y, get H i = some Y → i ≠ l → ∀ k, Y.own k → k < w.heap.size) (hl : ∀ Y, get H l = some Y → ∀ k, Y.own k → ¬ ok k) (hr : Rd E w' ok A xs c) (hf : ∀ k, ok k → w.heap.size ≤ k ∧ k < w'.heap.size) : Hp B w0 w' ((l2, .rd_ E A xs c ok) :: H) :=
  h'.readable l2 hr (fun k hk => (hf k hk).2) (fun i Y hY k hk hk2 => by
    by_cases e : i = l
    · subst e; exact hl Y hY k hk hk2
    · have := ho i Y hY e k hk; have := (hf k hk2).1; omega)
theorem lab_apart {L' : List (Nat × Asn)} (h : Hp B w0 w H) (hs : ∀ i A, get L' i = some A → get H i = some A) (l : Nat) {Y : Asn} (hl : get H l = some Y) (hn : get L' l = none) {k : Nat} (hy : Y.own k) : ¬ (OwnL L' k ∨ RdL L' k) := by
  have ne : ∀ i A, get L' i = some A → l ≠ i := fun i A hA e => by subst e; rw [hn] at hA; cases hA
  rintro (⟨i, A, hA, ho⟩ | ⟨i, A, hA, ho⟩)
  · exact h.sep l i Y A (ne i A hA) hl (hs i A hA) k hy (.inl ho)
  · exact h.sep l i Y A (ne i A hA) hl (hs i A hA) k hy (.inr ho)
/-- Something of one's own beside what there is. -/
theorem Hp.addOwn {Y : Asn} (h : Hp B w0 w H) (l : Nat) (hy : Y.holds w) (ho : ∀ k, Y.own k → w0.heap.size ≤ k) (hin : ∀ k, Y.own k ∨ Y.rd k → k < w.heap.size) (hself : ∀ k, Y.own k → ¬ Y.rd k)
    (hsep : ∀ i A, get H i = some A → ∀ k, (A.own k → ¬ (Y.own k ∨ Y.rd k)) ∧ (Y.own k → ¬ (A.own k ∨ A.rd k))) : Hp B w0 w ((l, Y) :: H) := by
  have two : ∀ i A, get ((l, Y) :: H) i = some A → (i = l ∧ A = Y) ∨ (i ≠ l ∧ get H i = some A) := by
    intro i A hA
    rw [get_cons] at hA
    split at hA
    · rename_i e; cases hA; exact .inl ⟨e.symm, rfl⟩
    · rename_i e; exact .inr ⟨fun x => e x.symm, hA⟩
  refine ⟨h.mods, fun i A hA => ?_, fun i A hA k hk => ?_, fun i A hA k hk => ?_, fun i A hA k hk => ?_, fun i j A A' hne hA hA' k hk => ?_⟩
  · rcases two i A hA with ⟨_, rfl⟩ | ⟨_, h1⟩
    · exact hy
    · exact h.holds i A h1
  · rcases two i A hA with ⟨_, rfl⟩ | ⟨_, h1⟩
    · exact .inr (ho k hk)
    · exact h.mine i A h1 k hk
  · rcases two i A hA with ⟨_, rfl⟩ | ⟨_, h1⟩
    · exact hin k hk
    · exact h.inb i A h1 k hk
  · rcases two i A hA with ⟨_, rfl⟩ | ⟨_, h1⟩
    · exact hself k hk
    · exact h.self i A h1 k hk
  · rcases two i A hA with ⟨rfl, rfl⟩ | ⟨_, h1⟩ <;> rcases two j A' hA' with ⟨e2, e3⟩ | ⟨_, h2⟩
    · exact (hne e2.symm).elim
    · exact (hsep j A' h2 k).2 hk
    · subst e3; exact (hsep i A h1 k).1 hk
    · exact h.sep i j A A' hne h1 h2 k hk
/-- A thing has turned, and a row of one's own has come. -/
theorem Hp.grewRow {α : Type} {E : Rep α} {T : TypeId} {v : Value} {xs : List α} {w' : World} {rdY : Nat → Prop} (h : Hp B w0 w H) (l : Nat) (hl : get H l = some X) (g : Grew (fun _ => False) rdY X w w' X') (hY : ∀ k, rdY k → ∃ j A, get H j = some A ∧ A.rd k) (l2 : Nat)
    (hr : Row E T w' (fun _ => False) v xs) (hf : ∀ k, v.ownBlock = some k → w.heap.size ≤ k) (ha : ∀ k, v.ownBlock = some k → ¬ (X'.own k ∨ X'.rd k)) : Hp B w0 w' ((l2, .row E T v xs (fun _ => False)) :: (l, X') :: H) := by
  refine (h.grew l hl g hY).addOwn l2 hr (fun k hk => Nat.le_trans h.mods.size (hf k hk)) (fun k hk => hk.elim (fun h => hr.lt k h) (fun h => h.elim)) (fun k hk h => h.elim) (fun i A hA k => ?_)
  rw [get_cons] at hA
  split at hA
  · cases hA; exact ⟨fun h1 h2 => h2.elim (fun h2 => ha k h2 (.inl h1)) (fun h2 => h2.elim), fun h2 => ha k h2⟩
  · have hlt : A.own k ∨ A.rd k → k < w.heap.size := h.inb i A hA k
    exact ⟨fun h1 h2 => h2.elim (fun h2 => by have := hlt (.inl h1); have := hf k h2; omega) (fun h2 => h2.elim), fun h2 h1 => by have := hlt h1; have := hf k h2; omega⟩
end
end Go.Proofs.Ytlcnoibjhmflnaa.Sx
