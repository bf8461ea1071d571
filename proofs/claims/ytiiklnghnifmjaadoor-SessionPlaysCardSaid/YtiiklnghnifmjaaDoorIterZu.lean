/- Range over a function: bundles of assertions, rounds, iterators. -/
import Derived.Test.YtiiklnghnifmjaaDoorRngZu
import Derived.RangeFuncRecord
set_option linter.unusedVariables false
set_option linter.unusedSimpArgs false
namespace Go.Proofs.YtiiklnghnifmjaaDoor.Sx
open Go.RowKit
/-! ### A bundle of assertions -/
def OwnL (L : List (Nat × Asn)) (k : Nat) : Prop := ∃ i A, get L i = some A ∧ A.own k
def RdL (L : List (Nat × Asn)) (k : Nat) : Prop := ∃ i A, get L i = some A ∧ A.rd k
def Asn.all (L : List (Nat × Asn)) : Asn where
  own := OwnL L
  rd := RdL L
  holds w := Hp (fun _ => True) w w L
  stable := by
    intro w w' h hw
    have e : ∀ i A, get L i = some A → ∀ k, A.own k ∨ A.rd k → w'.heap[k]? = w.heap[k]? := fun i A hA k hk => h k (hk.imp (fun x => ⟨i, A, hA, x⟩) (fun x => ⟨i, A, hA, x⟩))
    refine ⟨Mods.refl _ _, fun i A hA => A.stable (e i A hA) (hw.holds i A hA), fun _ _ _ _ _ => .inl trivial, fun i A hA k hk => ?_, hw.self, hw.sep⟩
    have h1 := hw.inb i A hA k hk
    have h2 := e i A hA k hk
    rw [Array.getElem?_eq_getElem h1] at h2
    exact (Array.getElem?_eq_some_iff.1 h2).1
section
variable {B : Nat → Prop} {w0 w w' : World} {H L L' : List (Nat × Asn)} {X X' : Asn}
theorem Hp.asAll (h : Hp B w0 w H) : (Asn.all H).holds w := ⟨Mods.refl _ _, h.holds, fun _ _ _ _ _ => .inl trivial, h.inb, h.self, h.sep⟩
theorem Hp.ofAll (h : (Asn.all L).holds w) : Hp (OwnL L) w w L := ⟨Mods.refl _ _, h.holds, fun i A hA k hk => .inl ⟨i, A, hA, hk⟩, h.inb, h.self, h.sep⟩
/-- What an assertion's blocks are. -/
structure Asn.ok (X : Asn) (w : World) : Prop where
  holds : X.holds w
  inb : ∀ k, X.own k ∨ X.rd k → k < w.heap.size
  self : ∀ k, X.own k → ¬ X.rd k
theorem Hp.okAll (h : Hp B w0 w H) : (Asn.all H).ok w := ⟨h.asAll, by
  rintro k (⟨i, A, hA, hk⟩ | ⟨i, A, hA, hk⟩)
  · exact h.inb i A hA k (.inl hk)
  · exact h.inb i A hA k (.inr hk), by
  rintro k ⟨i, A, hA, hk⟩ ⟨j, A', hA', hk'⟩
  by_cases e : i = j
  · subst e; rw [hA] at hA'; cases hA'; exact h.self i A hA k hk hk'
  · exact h.sep i j A A' e hA hA' k hk (.inr hk')⟩
/-- How an assertion has turned: bs: other blocks that may have been written; rdY: what may be read from now on. -/
structure Grew (bs rdY : Nat → Prop) (X : Asn) (w w' : World) (X' : Asn) : Prop where
  mods : Mods (fun k => X.own k ∨ bs k) w w'
  ok : X'.ok w'
  own : ∀ k, X'.own k → X.own k ∨ w.heap.size ≤ k
  rd : ∀ k, X'.rd k → X.own k ∨ X.rd k ∨ rdY k ∨ w.heap.size ≤ k
theorem Hp.grew (h : Hp B w0 w H) (l : Nat) (hl : get H l = some X) {rdY : Nat → Prop} (g : Grew (fun _ => False) rdY X w w' X') (hY : ∀ k, rdY k → ∃ j A, get H j = some A ∧ A.rd k) : Hp B w0 w' ((l, X') :: H) :=
  h.one g.mods l X' (fun k hk => ⟨X, hl, hk.resolve_right id⟩) g.ok.holds (fun k hk => (g.own k hk).imp (fun h => ⟨X, hl, h⟩) id)
    (fun k hk => by
      rcases g.rd k hk with h1 | h1 | h1 | h1
      · exact .inl ⟨X, hl, h1⟩
      · exact .inr (.inl ⟨l, X, hl, h1⟩)
      · exact .inr (.inl (hY k h1))
      · exact .inr (.inr h1)) g.ok.inb g.ok.self
/-- An assertion of the caller's is taken over. -/
theorem Hp.takes {bs : Nat → Prop} (h : Hp B w0 w H) (l : Nat) (hn : ∀ j A, get H j = some A → ∀ k, A.own k → ¬ (X.own k ∨ X.rd k)) (hn2 : ∀ j A, get H j = some A → ∀ k, A.rd k → ¬ X.own k) (hB : ∀ k, X.own k → B k) (ho : X.ok w) : Hp B w0 w ((l, X) :: H) := by
  have two : ∀ i A, get ((l, X) :: H) i = some A → (i = l ∧ A = X) ∨ (i ≠ l ∧ get H i = some A) := by
    intro i A hA
    rw [get_cons] at hA
    split at hA
    · rename_i e; cases hA; exact .inl ⟨e.symm, rfl⟩
    · rename_i e; exact .inr ⟨fun h => e h.symm, hA⟩
  refine ⟨h.mods, ?_, ?_, ?_, ?_, ?_⟩
  · intro i A hA
    rcases two i A hA with ⟨_, rfl⟩ | ⟨_, h1⟩
    · exact ho.holds
    · exact h.holds i A h1
  · intro i A hA k hk
    rcases two i A hA with ⟨_, rfl⟩ | ⟨_, h1⟩
    · exact .inl (hB k hk)
    · exact h.mine i A h1 k hk
  · intro i A hA
    rcases two i A hA with ⟨_, rfl⟩ | ⟨_, h1⟩
    · exact ho.inb
    · exact h.inb i A h1
  · intro i A hA
    rcases two i A hA with ⟨_, rfl⟩ | ⟨_, h1⟩
    · exact ho.self
    · exact h.self i A h1
  · intro i j A A' hij hA hA' k hk
    rcases two i A hA with ⟨e1, rfl⟩ | ⟨e1, h1⟩
    · rcases two j A' hA' with ⟨e2, rfl⟩ | ⟨e2, h2⟩
      · exact absurd (e1.trans e2.symm) hij
      · rintro (h3 | h3)
        · exact hn j A' h2 k h3 (.inl hk)
        · exact hn2 j A' h2 k h3 hk
    · rcases two j A' hA' with ⟨e2, rfl⟩ | ⟨e2, h2⟩
      · exact hn i A h1 k hk
      · exact h.sep i j A A' hij h1 h2 k hk
/-- What is read in a list of assertions. -/
theorem rdin_nil {S : Nat → Prop} : ∀ k, RdL [] k → S k := fun k ⟨i, A, h, _⟩ => by simp [get] at h
theorem rdin_cons {S : Nat → Prop} {l : Nat} (h1 : ∀ k, X.rd k → S k) (h2 : ∀ k, RdL L k → S k) : ∀ k, RdL ((l, X) :: L) k → S k := fun k ⟨i, A, h, hk⟩ => by
  rw [get_cons] at h
  split at h
  · cases h; exact h1 k hk
  · exact h2 k ⟨i, A, h, hk⟩
theorem own_cons {S : Nat → Prop} {l : Nat} (h1 : ∀ k, X.own k → S k) (h2 : ∀ k, OwnL L k → S k) : ∀ k, OwnL ((l, X) :: L) k → S k := fun k ⟨i, A, h, hk⟩ => by
  rw [get_cons] at h
  split at h
  · cases h; exact h1 k hk
  · exact h2 k ⟨i, A, h, hk⟩
/-- A round's end: how its bundle has turned. -/
theorem grew_of {rdY : Nat → Prop} (h : Hp (OwnL L) w w' L') (hrd : ∀ k, RdL L' k → OwnL L k ∨ RdL L k ∨ rdY k ∨ w.heap.size ≤ k) : Grew (fun _ => False) rdY (Asn.all L) w w' (Asn.all L') :=
  ⟨h.mods.mono (fun k hk _ => .inl hk), h.okAll, fun k ⟨i, A, hA, hk⟩ => h.mine i A hA k hk, hrd⟩
/-- The labels of one list are among another's. -/
def Cover (L N : List (Nat × Asn)) : Prop := ∀ i A, get L i = some A → (get N i).isSome = true
/-- Behind an iterator: its caller's bundle, and what it had of its own. -/
theorem Hp.back {LB LI : List (Nat × Asn)} (h : Hp B w0 w H) (hs : ∀ i A, get LB i = some A → get H i = some A) (hI : ∀ i A, get LI i = some A → get H i = some A) {rdY : Nat → Prop} (g : Grew (OwnL LI) rdY (Asn.all LB) w w' (Asn.all L')) (hY : ∀ k, rdY k → ∃ j A, get H j = some A ∧ A.rd k)
    (N : List (Nat × Asn)) (hN : Cover LI N) (hNe : ∀ i A, get N i = some A → A = Asn.emp) (hL : Cover LB L') (hLN : ∀ i A, get N i = some A → get L' i = none) : Hp B w0 w' ((L' ++ N) ++ H) := by
  have hg : ∀ i A, get (L' ++ N) i = some A → get L' i = some A ∨ A = Asn.emp := by
    intro i A hA
    rw [get_append] at hA
    cases h1 : get L' i with
    | none => rw [h1] at hA; exact .inr (hNe i A (by simpa using hA))
    | some Y => rw [h1] at hA; exact .inl (by simpa using hA)
  have own : ∀ k, OwnL LB k → OwnedBy H (L' ++ N) k := fun k ⟨i, A, hA, hk⟩ => ⟨i, A, hs i A hA, by
    rw [get_append]
    have := hL i A hA
    cases h1 : get L' i with
    | none => rw [h1] at this; cases this
    | some Y => rfl, hk⟩
  have hw := g.ok.holds
  refine h.call g.mods (L' ++ N) (fun k hk => ?_) ?_ ?_ ?_ ?_ ?_ ?_
  · rcases hk with hk | ⟨i, A, hA, hk⟩
    · exact own k hk
    · refine ⟨i, A, hI i A hA, ?_, hk⟩
      rw [get_append]
      cases h1 : get L' i with
      | none => simpa using hN i A hA
      | some Y => rfl
  · intro i A hA
    rcases hg i A hA with h1 | rfl
    · exact hw.holds i A h1
    · trivial
  · intro i A hA k hk
    rcases hg i A hA with h1 | rfl
    · exact (g.own k ⟨i, A, h1, hk⟩).imp (own k) id
    · exact hk.elim
  · intro i A hA k hk
    rcases hg i A hA with h1 | rfl
    · rcases g.rd k ⟨i, A, h1, hk⟩ with h2 | ⟨j, A2, h2, h3⟩ | h2 | h2
      · exact .inl (own k h2)
      · exact .inr (.inl ⟨j, A2, hs j A2 h2, h3⟩)
      · exact .inr (.inl (hY k h2))
      · exact .inr (.inr h2)
    · exact hk.elim
  · intro i A hA k hk
    rcases hg i A hA with h1 | rfl
    · exact hw.inb i A h1 k hk
    · exact hk.elim (·.elim) (·.elim)
  · intro i A hA k hk
    rcases hg i A hA with h1 | rfl
    · exact hw.self i A h1 k hk
    · exact hk.elim
  · intro i j A A' hij hA hA' k hk
    rcases hg i A hA with h1 | rfl
    · rcases hg j A' hA' with h2 | rfl
      · exact hw.sep i j A A' hij h1 h2 k hk
      · rintro (h | h) <;> exact h.elim
    · exact hk.elim
end
/-! ### A call of yield -/
section
variable {ds : List Deferred} {P : Program} {a : Act} {w w0 : World} {Q : Exit → Act → World → Prop} {o : Oper} {n d : Nat} {L : List (Nat × Value)} {ops : Array Oper} {rest : List Oper} {v : Value}
end
/-! ### The statement, its rounds, its end -/
section
variable {B : Nat → Prop} {w0 w w' : World} {H : List (Nat × Asn)} {P : Program} {a : Act} {n : Nat} {L : List (Nat × Value)} {Q : Exit → Act → World → Prop} {fn : Func} {R : Ending → World → Prop}
/-- A loop's record, ready. -/
structure LoopOf (r : Loop) (tmps : Array Value) (p : Tmp) (assign body : Code) : Prop where
  state : r.state = .ready
  pending : r.pending = none
  tmps : r.tmps = tmps
  params : r.params = #[p]
  assign : r.assign = assign
  body : r.body = body
end
/-! ### Iterators -/
section
variable {B C : Nat → Prop} {w0 w w' : World} {H LI : List (Nat × Asn)} {X X' A : Asn}
theorem it_ok (h : Hp B w0 w H) (l : Nat) (hl : get H l = some A) : A.ok w := ⟨h.holds l A hl, h.inb l A hl, h.self l A hl⟩
/-- The blocks of two lists that have no label in common are apart. -/
def Apart (L N : List (Nat × Asn)) : Prop := ∀ i A, get L i = some A → get N i = none
theorem apart_nil (N : List (Nat × Asn)) : Apart [] N := fun i A h => by simp [get] at h
theorem apart_cons {L N : List (Nat × Asn)} {l : Nat} (h1 : get N l = none) (h2 : Apart L N) : Apart ((l, X) :: L) N := fun i A h => by
  rw [get_cons] at h
  split at h
  · rename_i e; subst e; exact h1
  · exact h2 i A h
theorem Hp.apart {L N : List (Nat × Asn)} (h : Hp B w0 w H) (hL : ∀ i A, get L i = some A → get H i = some A) (hN : ∀ i A, get N i = some A → get H i = some A) (ha : Apart L N) : ∀ k, OwnL L k → ¬ (OwnL N k ∨ RdL N k) := by
  rintro k ⟨i, A, hA, hk⟩ (⟨j, A', hA', hk'⟩ | ⟨j, A', hA', hk'⟩)
  · exact h.sep i j A A' (fun e => by subst e; rw [ha i A hA] at hA'; cases hA') (hL i A hA) (hN j A' hA') k hk (.inl hk')
  · exact h.sep i j A A' (fun e => by subst e; rw [ha i A hA] at hA'; cases hA') (hL i A hA) (hN j A' hA') k hk (.inr hk')
/-- A row that is new, and all that it leads to. -/
def RowNew {α : Type} (E : Rep α) (T : TypeId) (w0 w' : World) (v : Value) (xs : List α) : Prop := ∃ ok, Row E T w' ok v xs ∧ (∀ k, v.ownBlock = some k → w0.heap.size ≤ k) ∧ ∀ k, ok k → w0.heap.size ≤ k ∧ k < w'.heap.size ∧ v.ownBlock ≠ some k
theorem RowNew.nil {α : Type} (E : Rep α) (T : TypeId) (w0 w' : World) : RowNew E T w0 w' (.slice none 0 0) [] := ⟨fun _ => False, Row.nil _ _ _ _, fun k hk => (by cases hk), fun k hk => hk.elim⟩
theorem Hp.outNew {α : Type} {E : Rep α} {T : TypeId} {v : Value} {xs : List α} {ok : Nat → Prop} (h : Hp (fun _ => False) w0 w H) (l : Nat) (hl : get H l = some (.row E T v xs ok)) (hok : ∀ k, ok k → w0.heap.size ≤ k) : RowNew E T w0 w v xs :=
  ⟨ok, h.row l hl, fun k hk => (h.mine l _ hl k hk).resolve_left id, fun k hk => ⟨hok k hk, h.inb l _ hl k (.inr hk), fun h2 => h.self l _ hl k h2 hk⟩⟩
theorem own_nil {S : Nat → Prop} : ∀ k, OwnL [] k → S k := fun k ⟨i, A, h, _⟩ => by simp [get] at h
theorem Hp.rdnil {α : Type} (h : Hp B w0 w H) (l : Nat) (E : Rep α) : Hp B w0 w ((l, .rd_ E Option.none [] 0 (fun _ => False)) :: H) :=
  h.readable l (Rd.nil _ _ _) (fun k hk => hk.elim) (fun i A' hA k hk h => h)
end
section
variable {α : Type} {E : Rep α} {B : Nat → Prop} {w0 w : World} {H L : List (Nat × Asn)} {A : Option Addr} {xs : List α} {c : Nat}
end
section
variable {α : Type} {E : Rep α} {B : Nat → Prop} {w0 w w' : World} {H L : List (Nat × Asn)} {T : TypeId} {v : Value} {xs ys : List α} {ok : Nat → Prop}
end
section
variable {B : Nat → Prop} {w0 w w' : World} {H L : List (Nat × Asn)}
def shiftL (s : Nat) (L : List (Nat × Asn)) : List (Nat × Asn) := L.map fun p => (p.1 + s, p.2)
theorem get_shift (s : Nat) : ∀ {L : List (Nat × Asn)} {i : Nat} {A : Asn}, get (shiftL s L) i = some A → ∃ j, i = j + s ∧ get L j = some A
  | [], i, A, h => by simp [shiftL, get] at h
  | (l, X) :: L, i, A, h => by
    have h' : get ((l + s, X) :: shiftL s L) i = some A := h
    rw [get_cons] at h'
    split at h'
    · rename_i e
      cases h'
      exact ⟨l, e.symm, by rw [get_cons, if_pos rfl]⟩
    · rename_i e
      obtain ⟨j, rfl, hj⟩ := get_shift s h'
      exact ⟨j, rfl, by rw [get_cons, if_neg (fun e2 => e (by rw [e2]))]; exact hj⟩
/-- The labels under other numbers. -/
theorem Hp.shift (h : Hp B w0 w L) (s : Nat) : Hp B w0 w (shiftL s L) := by
  refine ⟨h.mods, fun i A hA => ?_, fun i A hA => ?_, fun i A hA => ?_, fun i A hA => ?_, fun i j A A' hij hA hA' => ?_⟩
  · obtain ⟨j, rfl, hj⟩ := get_shift s hA; exact h.holds j A hj
  · obtain ⟨j, rfl, hj⟩ := get_shift s hA; exact h.mine j A hj
  · obtain ⟨j, rfl, hj⟩ := get_shift s hA; exact h.inb j A hj
  · obtain ⟨j, rfl, hj⟩ := get_shift s hA; exact h.self j A hj
  · obtain ⟨i', rfl, hi⟩ := get_shift s hA
    obtain ⟨j', rfl, hj⟩ := get_shift s hA'
    exact h.sep i' j' A A' (fun e => hij (by rw [e])) hi hj
end
section
variable {B : Nat → Prop} {w0 w w' : World} {L : List (Nat × Asn)} {X : Asn}
theorem Asn.ok.same (h : X.ok w) (hm : Mods (fun _ => False) w w') : X.ok w' :=
  ⟨X.stable (fun k hk => hm.block k (h.inb k hk) (fun h => h)) h.holds, fun k hk => Nat.lt_of_lt_of_le (h.inb k hk) hm.size, h.self⟩
end
section
variable {B : Nat → Prop} {w0 w w' : World} {H : List (Nat × Asn)} {X : Asn}
/-- A new thing. -/
theorem Hp.newX (h : Hp B w0 w H) (l : Nat) (hm : Mods (fun _ => False) w w') (hok : X.ok w') (hn : ∀ k, X.own k → w.heap.size ≤ k) (hr : ∀ k, X.rd k → w.heap.size ≤ k) : Hp B w0 w' ((l, X) :: H) :=
  h.one hm l X (fun k hk => hk.elim) hok.holds (fun k hk => .inr (hn k hk)) (fun k hk => .inr (.inr (hr k hk))) hok.inb hok.self
end
end Go.Proofs.YtiiklnghnifmjaaDoor.Sx
