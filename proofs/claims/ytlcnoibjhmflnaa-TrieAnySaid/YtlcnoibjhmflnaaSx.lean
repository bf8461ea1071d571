/- The walk's own words of this claim: what is known of a frame (a list of slots), of the heap (a list of assertions, apart from each other), and a law for each operation. -/
import Derived.Below
import Derived.OrdersHeld
import Derived.Deep.LoopGhost
import Derived.Laws.OwnMore
import Derived.Laws.Rows
import Derived.Laws.NewBlocks
import Derived.Maps.AppendAt
import Derived.WalkKit
import Derived.WalkLawsBesides
import Derived.KernelRfl
import Derived.Laws.BitsLemmas
import Derived.Laws.BytesArg
import Derived.Laws.Strings
set_option linter.unusedVariables false
set_option linter.unusedSimpArgs false
namespace Go.Proofs.Ytlcnoibjhmflnaa.Sx
open Go.RowKit

/-! ### 1. Lists of numbered things -/
def get {α : Type} : List (Nat × α) → Nat → Option α
  | [], _ => none
  | (j, v) :: L, i => bif Nat.beq j i then some v else get L i

theorem get_cons_same {α : Type} (j : Nat) (v : α) (L : List (Nat × α)) : get ((j, v) :: L) j = some v := by simp [get]
theorem beq_ne {j i : Nat} (h : j ≠ i) : Nat.beq j i = false := by
  cases hx : Nat.beq j i
  · rfl
  · exact absurd (Nat.eq_of_beq_eq_true hx) h
theorem get_cons_ne {α : Type} {j i : Nat} (v : α) (L : List (Nat × α)) (h : j ≠ i) : get ((j, v) :: L) i = get L i := by
  simp [get, beq_ne h]
theorem get_cons {α : Type} (j i : Nat) (v : α) (L : List (Nat × α)) : get ((j, v) :: L) i = if j = i then some v else get L i := by
  by_cases h : j = i
  · subst h; simp [get]
  · simp [get, h, beq_ne h]
theorem get_append {α : Type} (N L : List (Nat × α)) (i : Nat) : get (N ++ L) i = (get N i).or (get L i) := by
  induction N with
  | nil => simp [get]
  | cons p N ih =>
    obtain ⟨j, v⟩ := p
    simp only [List.cons_append, get_cons]
    split <;> simp [ih]

/-! ### 2. A frame -/
structure FrD (ds : List Deferred) (n : Nat) (a : Act) (L : List (Nat × Value)) : Prop where
  size : a.tmps.size = n
  defers : a.defers = ds
  at_ : ∀ i v, get L i = some v → a.tmps[i]? = some v

abbrev Fr := FrD []
variable {ds : List Deferred}
section
variable {n : Nat} {a : Act} {L : List (Nat × Value)}
theorem FrD.tmp (h : FrD ds n a L) (t : Nat) {v : Value} (hv : get L t = some v) : a.eval (.tmp t) = v := by
  have := h.at_ t v hv
  simp [Act.eval, this]
theorem FrD.put (h : FrD ds n a L) (d : Nat) (v : Value) (hd : Nat.blt d n = true) : FrD ds n (a.put (some d) v) ((d, v) :: L) := by
  have hd' : d < n := by simpa using hd
  refine ⟨by simp [Act.put, h.size], by simp [Act.put, h.defers], fun i u hu => ?_⟩
  rw [get_cons] at hu
  simp only [Act.put]
  split at hu
  · rename_i e
    subst e
    cases hu
    rw [Array.getElem?_setIfInBounds_self_of_lt (by rw [h.size]; exact hd')]
  · rename_i e
    rw [Array.getElem?_setIfInBounds_ne e]
    exact h.at_ i u hu
theorem FrD.put_none (h : FrD ds n a L) (v : Value) : FrD ds n (a.put none v) L := h
theorem FrD.bare (h : FrD ds n a L) : FrD ds n a [] := ⟨h.size, h.defers, fun i v hv => by simp [get] at hv⟩
theorem FrD.add {L' : List (Nat × Value)} (h' : FrD ds n a L') (h : FrD ds n a L) (t : Nat) {v : Value} (hv : get L t = some v) : FrD ds n a ((t, v) :: L') :=
  ⟨h.size, h.defers, fun i u hu => by
    rw [get_cons] at hu
    split at hu
    · rename_i e
      subst e
      cases hu
      exact h.at_ t v hv
    · exact h'.at_ i u hu⟩
end
theorem Fr.enter (args : Array Value) (n : Nat) (L : List (Nat × Value)) (hn : args.size ≤ n) (hL : ∀ i v, get L i = some v → args[i]? = some v) :
    Fr n { tmps := args ++ Array.replicate (n - args.size) undef, defers := [] } L := by
  refine ⟨by simp; omega, rfl, fun i v hv => ?_⟩
  have h := hL i v hv
  have hlt : i < args.size := (Array.getElem?_eq_some_iff.1 h).1
  rw [Array.getElem?_append_left hlt]
  exact h
/-- The arguments as slots. -/
def slotsOf (l : List Value) (k : Nat) : List (Nat × Value) := match l with | [] => [] | v :: r => (k, v) :: slotsOf r (k + 1)
theorem get_slotsOf (l : List Value) : ∀ (k i : Nat) (v : Value), get (slotsOf l k) i = some v → k ≤ i ∧ l[i - k]? = some v := by
  induction l with
  | nil => intro k i v h; simp [slotsOf, get] at h
  | cons x l ih =>
    intro k i v h
    rw [slotsOf, get_cons] at h
    split at h
    · rename_i e
      subst e
      cases h
      simp
    · obtain ⟨h1, h2⟩ := ih (k + 1) i v h
      refine ⟨by omega, ?_⟩
      rw [show i - k = (i - (k + 1)) + 1 by omega, List.getElem?_cons_succ]
      exact h2

/-! ### 3. The world: what has been written -/
structure Mods (B : Nat → Prop) (w w' : World) : Prop where
  os : w'.os = w.os
  tape : w'.tape = w.tape
  output : w'.output = w.output
  size : w.heap.size ≤ w'.heap.size
  block : ∀ k, k < w.heap.size → ¬ B k → w'.heap[k]? = w.heap[k]?

section
variable {B C : Nat → Prop} {w w1 w2 : World}
theorem Mods.refl (B : Nat → Prop) (w : World) : Mods B w w := ⟨rfl, rfl, rfl, Nat.le_refl _, fun _ _ _ => rfl⟩
theorem Mods.trans (h : Mods B w w1) (k : Mods C w1 w2) (hC : ∀ k, C k → B k ∨ w.heap.size ≤ k) : Mods B w w2 :=
  ⟨k.os.trans h.os, k.tape.trans h.tape, k.output.trans h.output, Nat.le_trans h.size k.size, fun i hi hn =>
    (k.block i (Nat.lt_of_lt_of_le hi h.size) (fun hc => (hC i hc).elim hn (fun hh => absurd hi (Nat.not_lt.2 hh)))).trans (h.block i hi hn)⟩
theorem Mods.mono (h : Mods B w w1) (hB : ∀ k, B k → k < w.heap.size → C k) : Mods C w w1 := ⟨h.os, h.tape, h.output, h.size, fun k hk hn => h.block k hk (fun hb => hn (hB k hb hk))⟩
theorem Mods.alloc (B : Nat → Prop) (w : World) (o : Obj) : Mods B w (w.alloc o) := ⟨rfl, rfl, rfl, by simp, fun k hk _ => (World.grownBy_alloc w o none).block k hk (by simp)⟩
theorem Mods.drew (B : Nat → Prop) (w : World) : Mods B w w.drew := ⟨rfl, rfl, rfl, Nat.le_refl _, fun _ _ _ => rfl⟩
theorem Mods.below (h : Mods (fun _ => False) w w1) : Below w.heap.size w w1 := ⟨h.os, h.tape, h.output, h.size, fun k hk => h.block k hk (fun h => h)⟩
theorem Mods.ofBelow (h : Below w.heap.size w w1) (B : Nat → Prop) : Mods B w w1 := ⟨h.os, h.tape, h.output, h.size, fun k hk _ => h.block k hk⟩
theorem Mods.ofGrown {row : Option Nat} (h : w.grownBy w1 row) : Mods (fun k => row = some k) w w1 := ⟨h.os, h.tape, h.output, h.size, fun k hk hn => h.block k hk (fun e => hn e.symm)⟩
theorem Mods.setCell (w : World) (a : Addr) (v : Value) : Mods (fun k => k = a.block) w (w.setCell a v) := ⟨rfl, rfl, rfl, by simp [World.setCell], fun k _ hn => Below.heap_setCell w a v k hn⟩
end

/-! ### 4. Assertions on the heap -/
structure Asn where
  own : Nat → Prop
  rd : Nat → Prop
  holds : World → Prop
  stable : ∀ {w w' : World}, (∀ k, own k ∨ rd k → w'.heap[k]? = w.heap[k]?) → holds w → holds w'

def Asn.emp : Asn := ⟨fun _ => False, fun _ => False, fun _ => True, fun _ _ => trivial⟩
def Asn.blk (b : Nat) (o : Obj) : Asn := ⟨fun k => k = b, fun _ => False, fun w => w.heap[b]? = some o, fun h hw => (h b (.inl rfl)).trans hw⟩
/-- What is read alone. -/
def Asn.ro (A : Asn) : Asn := ⟨fun _ => False, fun k => A.own k ∨ A.rd k, A.holds, fun h hw => A.stable (fun k hk => h k (.inr hk)) hw⟩

/-- w0: the world when the call began; B: the elder blocks that it may write. -/
structure Hp (B : Nat → Prop) (w0 w : World) (L : List (Nat × Asn)) : Prop where
  mods : Mods B w0 w
  holds : ∀ i A, get L i = some A → A.holds w
  mine : ∀ i A, get L i = some A → ∀ k, A.own k → B k ∨ w0.heap.size ≤ k
  inb : ∀ i A, get L i = some A → ∀ k, A.own k ∨ A.rd k → k < w.heap.size
  self : ∀ i A, get L i = some A → ∀ k, A.own k → ¬ A.rd k
  sep : ∀ i j A A', i ≠ j → get L i = some A → get L j = some A' → ∀ k, A.own k → ¬ (A'.own k ∨ A'.rd k)

def OwnedBy (L N : List (Nat × Asn)) (k : Nat) : Prop := ∃ j A, get L j = some A ∧ (get N j).isSome = true ∧ A.own k

section
variable {B : Nat → Prop} {w0 w w' : World} {L : List (Nat × Asn)}

theorem Hp.nil (B : Nat → Prop) (w : World) : Hp B w w [] :=
  ⟨Mods.refl _ _, fun i A h => by simp [get] at h, fun i A h => by simp [get] at h, fun i A h => by simp [get] at h, fun i A h => by simp [get] at h, fun i j A A' _ h => by simp [get] at h⟩

/-- What an operation, or a call, leaves: N's assertions stand anew (or for the first time), all others as they were. -/
theorem Hp.call (h : Hp B w0 w L) {C : Nat → Prop} (hm : Mods C w w') (N : List (Nat × Asn))
    (hC : ∀ k, C k → OwnedBy L N k)
    (hh : ∀ i A, get N i = some A → A.holds w')
    (ho : ∀ i A, get N i = some A → ∀ k, A.own k → OwnedBy L N k ∨ w.heap.size ≤ k)
    (hr : ∀ i A, get N i = some A → ∀ k, A.rd k → OwnedBy L N k ∨ (∃ j A', get L j = some A' ∧ A'.rd k) ∨ w.heap.size ≤ k)
    (hi : ∀ i A, get N i = some A → ∀ k, A.own k ∨ A.rd k → k < w'.heap.size)
    (hs : ∀ i A, get N i = some A → ∀ k, A.own k → ¬ A.rd k)
    (hp : ∀ i j A A', i ≠ j → get N i = some A → get N j = some A' → ∀ k, A.own k → ¬ (A'.own k ∨ A'.rd k)) :
    Hp B w0 w' (N ++ L) := by
  have hget : ∀ i A, get (N ++ L) i = some A → (get N i = some A) ∨ (get N i = none ∧ get L i = some A) := by
    intro i A hA
    rw [get_append] at hA
    cases hN : get N i with
    | none => rw [hN] at hA; exact .inr ⟨rfl, by simpa using hA⟩
    | some X => rw [hN] at hA; exact .inl (by simpa using hA)
  have hother : ∀ j A, get N j = none → get L j = some A → ∀ k, OwnedBy L N k → ¬ (A.own k ∨ A.rd k) := by
    intro j A hNj hLj k ⟨j', A', hj', hs', hown⟩
    have hne : j' ≠ j := fun e => by subst e; rw [hNj] at hs'; cases hs'
    exact h.sep j' j A' A hne hj' hLj k hown
  have hmine : ∀ k, OwnedBy L N k → B k ∨ w0.heap.size ≤ k := fun k ⟨j', A', hj', _, hown⟩ => h.mine j' A' hj' k hown
  refine ⟨h.mods.trans hm (fun k hk => hmine k (hC k hk)), ?_, ?_, ?_, ?_, ?_⟩
  · intro i A hA
    rcases hget i A hA with h1 | ⟨h1, h2⟩
    · exact hh i A h1
    · refine A.stable (fun k hk => ?_) (h.holds i A h2)
      exact hm.block k (h.inb i A h2 k hk) (fun hc => hother i A h1 h2 k (hC k hc) hk)
  · intro i A hA k hk
    rcases hget i A hA with h1 | ⟨h1, h2⟩
    · rcases ho i A h1 k hk with h3 | h3
      · exact hmine k h3
      · exact .inr (Nat.le_trans h.mods.size h3)
    · exact h.mine i A h2 k hk
  · intro i A hA k hk
    rcases hget i A hA with h1 | ⟨h1, h2⟩
    · exact hi i A h1 k hk
    · exact Nat.lt_of_lt_of_le (h.inb i A h2 k hk) hm.size
  · intro i A hA k hk
    rcases hget i A hA with h1 | ⟨h1, h2⟩
    · exact hs i A h1 k hk
    · exact h.self i A h2 k hk
  · intro i j A A' hij hA hA' k hk
    rcases hget i A hA with h1 | ⟨h1, h2⟩
    · rcases hget j A' hA' with h3 | ⟨h3, h4⟩
      · exact hp i j A A' hij h1 h3 k hk
      · rcases ho i A h1 k hk with h5 | h5
        · exact hother j A' h3 h4 k h5
        · intro hk'
          have := h.inb j A' h4 k hk'
          omega
    · rcases hget j A' hA' with h3 | ⟨h3, h4⟩
      · rintro (hk' | hk')
        · rcases ho j A' h3 k hk' with h5 | h5
          · exact hother i A h1 h2 k h5 (.inl hk)
          · have := h.inb i A h2 k (.inl hk)
            omega
        · rcases hr j A' h3 k hk' with h5 | ⟨j', A'', hj', hrd⟩ | h5
          · exact hother i A h1 h2 k h5 (.inl hk)
          · by_cases e : i = j'
            · subst e
              rw [h2] at hj'
              cases hj'
              exact h.self i A h2 k hk hrd
            · exact h.sep i j' A A'' e h2 hj' k hk (.inr hrd)
          · have := h.inb i A h2 k (.inl hk)
            omega
      · exact h.sep i j A A' hij h2 h4 k hk

/-- Nothing that is asserted has turned. -/
theorem Hp.same (h : Hp B w0 w L) (hm : Mods (fun _ => False) w w') : Hp B w0 w' L :=
  h.call hm [] (fun k hk => hk.elim) (fun i A hA => by simp [get] at hA) (fun i A hA => by simp [get] at hA) (fun i A hA => by simp [get] at hA)
    (fun i A hA => by simp [get] at hA) (fun i A hA => by simp [get] at hA) (fun i j A A' _ hA => by simp [get] at hA)
theorem Hp.drew (h : Hp B w0 w L) : Hp B w0 w.drew L := h.same (Mods.drew _ _)

/-- One label: it is turned, or new. -/
theorem Hp.one (h : Hp B w0 w L) {C : Nat → Prop} (hm : Mods C w w') (l : Nat) (A' : Asn)
    (hC : ∀ k, C k → ∃ A, get L l = some A ∧ A.own k)
    (hh : A'.holds w')
    (ho : ∀ k, A'.own k → (∃ A, get L l = some A ∧ A.own k) ∨ w.heap.size ≤ k)
    (hr : ∀ k, A'.rd k → (∃ A, get L l = some A ∧ A.own k) ∨ (∃ j A, get L j = some A ∧ A.rd k) ∨ w.heap.size ≤ k)
    (hi : ∀ k, A'.own k ∨ A'.rd k → k < w'.heap.size)
    (hs : ∀ k, A'.own k → ¬ A'.rd k) : Hp B w0 w' ((l, A') :: L) := by
  have one : ∀ i X, get [(l, A')] i = some X → i = l ∧ X = A' := by
    intro i X hX
    rw [get_cons] at hX
    split at hX
    · rename_i e; cases hX; exact ⟨e.symm, rfl⟩
    · simp [get] at hX
  have own : ∀ k, (∃ A, get L l = some A ∧ A.own k) → OwnedBy L [(l, A')] k := fun k ⟨A, h1, h2⟩ => ⟨l, A, h1, by simp [get], h2⟩
  refine h.call hm [(l, A')] (fun k hk => own k (hC k hk)) ?_ ?_ ?_ ?_ ?_ ?_
  · intro i X hX; obtain ⟨rfl, rfl⟩ := one i X hX; exact hh
  · intro i X hX k hk; obtain ⟨rfl, rfl⟩ := one i X hX; exact (ho k hk).imp (own k) id
  · intro i X hX k hk; obtain ⟨rfl, rfl⟩ := one i X hX; exact (hr k hk).imp (own k) id
  · intro i X hX; obtain ⟨rfl, rfl⟩ := one i X hX; exact hi
  · intro i X hX; obtain ⟨rfl, rfl⟩ := one i X hX; exact hs
  · intro i j X Y hij hX hY; obtain ⟨rfl, rfl⟩ := one i X hX; obtain ⟨rfl, rfl⟩ := one j Y hY; exact absurd rfl hij

/-- A new block. -/
theorem Hp.new (h : Hp B w0 w L) (l : Nat) (o : Obj) : Hp B w0 (w.alloc o) ((l, .blk w.heap.size o) :: L) :=
  h.one (Mods.alloc (fun _ => False) w o) l _ (fun k hk => hk.elim) (heap_alloc_new w o) (fun k hk => .inr (by simp only [Asn.blk] at hk; omega)) (fun k hk => hk.elim)
    (fun k hk => by rcases hk with hk | hk; (· simp only [Asn.blk] at hk; simp; omega); (· exact hk.elim)) (fun k _ hk => hk)

/-- A block of one's own holds another thing. -/
theorem Hp.put (h : Hp B w0 w L) (l : Nat) {b : Nat} {o : Obj} (hl : get L l = some (.blk b o)) (o' : Obj) (hm : Mods (fun k => k = b) w w') (hb : w'.heap[b]? = some o') : Hp B w0 w' ((l, .blk b o') :: L) :=
  h.one hm l _ (fun k hk => ⟨_, hl, hk⟩) hb (fun k hk => .inl ⟨_, hl, hk⟩) (fun k hk => hk.elim)
    (fun k hk => by rcases hk with hk | hk; (· have := h.inb l _ hl k (.inl hk); exact Nat.lt_of_lt_of_le this hm.size); (· exact hk.elim)) (fun k _ hk => hk)

/-- A label is let go. -/
theorem Hp.drop (h : Hp B w0 w L) (l : Nat) : Hp B w0 w ((l, .emp) :: L) :=
  h.one (Mods.refl (fun _ => False) w) l .emp (fun k hk => hk.elim) trivial (fun k hk => hk.elim) (fun k hk => hk.elim) (fun k hk => hk.elim (·.elim) (·.elim)) (fun k hk => hk.elim)

/-- The labels that go on. -/
theorem Hp.bare (h : Hp B w0 w L) : Hp B w0 w [] :=
  ⟨h.mods, fun i A h => by simp [get] at h, fun i A h => by simp [get] at h, fun i A h => by simp [get] at h, fun i A h => by simp [get] at h, fun i j A A' _ h => by simp [get] at h⟩
theorem Hp.sub (h : Hp B w0 w L) (L' : List (Nat × Asn)) (hs : ∀ i A, get L' i = some A → get L i = some A) : Hp B w0 w L' :=
  ⟨h.mods, fun i A hA => h.holds i A (hs i A hA), fun i A hA => h.mine i A (hs i A hA), fun i A hA => h.inb i A (hs i A hA), fun i A hA => h.self i A (hs i A hA), fun i j A A' hij hA hA' => h.sep i j A A' hij (hs i A hA) (hs j A' hA')⟩

theorem Hp.at (h : Hp B w0 w L) (l : Nat) {b : Nat} {o : Obj} (hl : get L l = some (.blk b o)) : w.heap[b]? = some o := h.holds l _ hl
end
theorem sub_nil {α : Type} (L : List (Nat × α)) : ∀ i A, get ([] : List (Nat × α)) i = some A → get L i = some A := fun i A h => by simp [get] at h
theorem sub_cons {α : Type} {L L' : List (Nat × α)} (hs : ∀ i A, get L' i = some A → get L i = some A) (l : Nat) {X : α} (hl : get L l = some X) : ∀ i A, get ((l, X) :: L') i = some A → get L i = some A := by
  intro i A hA
  rw [get_cons] at hA
  split at hA
  · rename_i e; subst e; cases hA; exact hl
  · exact hs i A hA

/-! ### 5. Operations -/
/-- Run in this frame, at this world, it yields v. -/
def At (P : Program) (o : Oper) (a : Act) (w : World) (v : Value) : Prop := (execOp a.eval o).run P w = .ok (.value v) w
/-- .. and leaves w'. -/
def To (P : Program) (o : Oper) (a : Act) (w : World) (v : Value) (w' : World) : Prop := (execOp a.eval o).run P w = .ok (.value v) w'
/-- It yields nothing. -/
def Sk (P : Program) (o : Oper) (a : Act) (w w' : World) : Prop := (execOp a.eval o).run P w = .ok .skip w'

section
variable {P : Program} {o : Oper} {a : Act} {w w' : World} {K : Act → World → Prop} {Q : Exit → Act → World → Prop} {n d : Nat} {L : List (Nat × Value)} {v : Value} {ops : Array Oper} {rest : List Oper}
theorem w_at (hF : FrD ds n a L) (h : At P o a w v) (hd : o.dst = some d) (hn : Nat.blt d n = true) (k : ∀ a', FrD ds n a' ((d, v) :: L) → K a' w) : o.wp P a w K Q := by
  unfold Oper.wp
  rw [show (execOp a.eval o).run P w = .ok (.value v) w from h, Oper.upon_value, hd]
  exact k _ (hF.put d v hn)
theorem w_to (hF : FrD ds n a L) (h : To P o a w v w') (hd : o.dst = some d) (hn : Nat.blt d n = true) (k : ∀ a', FrD ds n a' ((d, v) :: L) → K a' w') : o.wp P a w K Q := by
  unfold Oper.wp
  rw [show (execOp a.eval o).run P w = .ok (.value v) w' from h, Oper.upon_value, hd]
  exact k _ (hF.put d v hn)
theorem w_to0 (hF : FrD ds n a L) (h : To P o a w v w') (hd : o.dst = none) (k : K a w') : o.wp P a w K Q := by
  unfold Oper.wp
  rw [show (execOp a.eval o).run P w = .ok (.value v) w' from h, Oper.upon_value, hd]
  exact k
theorem w_sk (h : Sk P o a w w') (hd : o.dst = none) (k : K a w') : o.wp P a w K Q := by
  unfold Oper.wp
  rw [show (execOp a.eval o).run P w = .ok .skip w' from h, Oper.upon_skip, hd]
  exact k
/-- A call of a Go function. -/
theorem w_call {f : FuncId} {args : Array Value} {R : Ending → World → Prop} (hF : FrD ds n a L) (h : (execOp a.eval o).run P w = .ok (.enter f args) w) (hc : Calls P f args w R)
    (hd : o.dst = some d) (hn : Nat.blt d n = true) (hR : ∀ e w', R e w' → ∃ v, e = .returned v ∧ ∀ a', FrD ds n a' ((d, v) :: L) → K a' w') : o.wp P a w K Q := by
  unfold Oper.wp
  rw [h, Oper.upon_enter]
  refine hc.mono fun e w' hr => ?_
  obtain ⟨v, rfl, k⟩ := hR e w' hr
  simp only [hd]
  exact k _ (hF.put d v hn)
theorem w_call0 {f : FuncId} {args : Array Value} {R : Ending → World → Prop} (hF : FrD ds n a L) (h : (execOp a.eval o).run P w = .ok (.enter f args) w) (hc : Calls P f args w R)
    (hd : o.dst = none) (hR : ∀ e w', R e w' → ∃ v, e = .returned v ∧ K a w') : o.wp P a w K Q := by
  unfold Oper.wp
  rw [h, Oper.upon_enter]
  refine hc.mono fun e w' hr => ?_
  obtain ⟨v, rfl, k⟩ := hR e w' hr
  simp only [hd]
  exact k

/-! #### in a region of the text's order -/
theorem l_at (hF : FrD ds n a L) (hg : o.guard = none) (hd : o.dst = some d) (hn : Nat.blt d n = true) (h : At P o a w v) (k : ∀ a', FrD ds n a' ((d, v) :: L) → wpList P ops Q rest a' w) : wpList P ops Q (o :: rest) a w :=
  wpList_plain hg fun K hK => w_at hF h hd hn fun a' hF' => hK _ _ (k a' hF')
theorem l_to (hF : FrD ds n a L) (hg : o.guard = none) (hd : o.dst = some d) (hn : Nat.blt d n = true) (h : To P o a w v w') (k : ∀ a', FrD ds n a' ((d, v) :: L) → wpList P ops Q rest a' w') : wpList P ops Q (o :: rest) a w :=
  wpList_plain hg fun K hK => w_to hF h hd hn fun a' hF' => hK _ _ (k a' hF')
theorem l_sk (hg : o.guard = none) (hd : o.dst = none) (h : Sk P o a w w') (k : wpList P ops Q rest a w') : wpList P ops Q (o :: rest) a w :=
  wpList_plain hg fun K hK => w_sk h hd (hK _ _ k)
theorem l_call {f : FuncId} {args : Array Value} {R : Ending → World → Prop} (hF : FrD ds n a L) (hg : o.guard = none) (hd : o.dst = some d) (hn : Nat.blt d n = true) (h : (execOp a.eval o).run P w = .ok (.enter f args) w) (hc : Calls P f args w R)
    (hR : ∀ e w', R e w' → ∃ v, e = .returned v ∧ ∀ a', FrD ds n a' ((d, v) :: L) → wpList P ops Q rest a' w') : wpList P ops Q (o :: rest) a w :=
  wpList_plain hg fun K hK => w_call hF h hc hd hn fun e w' hr => let ⟨v, h1, h2⟩ := hR e w' hr; ⟨v, h1, fun a' hF' => hK _ _ (h2 a' hF')⟩
theorem l_call0 {f : FuncId} {args : Array Value} {R : Ending → World → Prop} (hF : FrD ds n a L) (hg : o.guard = none) (hd : o.dst = none) (h : (execOp a.eval o).run P w = .ok (.enter f args) w) (hc : Calls P f args w R)
    (hR : ∀ e w', R e w' → ∃ v, e = .returned v ∧ wpList P ops Q rest a w') : wpList P ops Q (o :: rest) a w :=
  wpList_plain hg fun K hK => w_call0 hF h hc hd fun e w' hr => let ⟨v, h1, h2⟩ := hR e w' hr; ⟨v, h1, hK _ _ h2⟩
/-- A guard is asked: the operation is carried out, or its slot is left empty. -/
theorem wanted_of (hF : FrD ds n a L) {gi : Nat} {gb b : Bool} {og : Oper} {gd : Nat} (hg : o.guard = some (gi, gb)) (ho : ops[gi]? = some og) (hgd : og.dst = some gd) (hv : get L gd = some (.bool b)) :
    Region.wanted o (yielded ops a.tmps) = (b == gb) := by
  have h1 := hF.at_ gd _ hv
  cases b <;> cases gb <;> simp [Region.wanted, hg, yielded, ho, hgd, h1]
theorem wanted_un (hF : FrD ds n a L) {gi : Nat} {gb : Bool} {og : Oper} {gd : Nat} (hg : o.guard = some (gi, gb)) (ho : ops[gi]? = some og) (hgd : og.dst = some gd) (hv : get L gd = some undef) :
    Region.wanted o (yielded ops a.tmps) = false := by
  have h1 := hF.at_ gd _ hv
  simp [Region.wanted, hg, yielded, ho, hgd, h1, undef]
theorem l_on (hF : FrD ds n a L) {gi : Nat} {gb : Bool} {og : Oper} {gd : Nat} (hg : o.guard = some (gi, gb)) (ho : ops[gi]? = some og) (hgd : og.dst = some gd) (hv : get L gd = some (.bool gb))
    (hd : o.dst = some d) (hn : Nat.blt d n = true) (h : At P o a w v) (k : ∀ a', FrD ds n a' ((d, v) :: L) → wpList P ops Q rest a' w) : wpList P ops Q (o :: rest) a w := by
  refine wpList_step fun K hK => ?_
  rw [if_pos (by rw [wanted_of hF hg ho hgd hv]; simp)]
  exact w_at hF h hd hn fun a' hF' => hK _ _ (k a' hF')
theorem l_off (hF : FrD ds n a L) {gi : Nat} {gb b : Bool} {og : Oper} {gd : Nat} (hg : o.guard = some (gi, gb)) (ho : ops[gi]? = some og) (hgd : og.dst = some gd) (hv : get L gd = some (.bool b)) (hb : (b == gb) = false)
    (hd : o.dst = some d) (hn : Nat.blt d n = true) (k : ∀ a', FrD ds n a' ((d, undef) :: L) → wpList P ops Q rest a' w) : wpList P ops Q (o :: rest) a w := by
  refine wpList_step fun K hK => ?_
  rw [if_neg (by rw [wanted_of hF hg ho hgd hv, hb]; simp), hd]
  exact hK _ _ (k _ (hF.put d undef hn))
end

/-! #### what they yield -/
section
variable {P : Program} {a : Act} {w w' : World} {dst : Option Tmp} {ty : TypeId} {pos : String} {af : Array Edge} {g : Option (Nat × Bool)} {x y z : Operand} {v u : Value} {t t' : TypeId}
theorem x_move (hx : a.eval x = v) : At P ⟨dst, .move x, ty, pos, af, g⟩ a w v := by unfold At; generalize a.eval = ρ at *; simp [execOp, hx, pure, Sem.run]
theorem x_assign (hx : a.eval x = v) : At P ⟨dst, .assign x, ty, pos, af, g⟩ a w v := by unfold At; generalize a.eval = ρ at *; simp [execOp, hx, pure, Sem.run]
theorem x_pick {b : Bool} (hx : a.eval x = .bool b) (hy : a.eval y = v) (hz : a.eval z = u) : At P ⟨dst, .pick x y z, ty, pos, af, g⟩ a w (bif b then v else u) := by
  unfold At; generalize a.eval = ρ at *; cases b <;> simp [execOp, hx, hy, hz, asBool, go_sem]
theorem x_pick_or {b c : Bool} (hx : a.eval x = .bool b) (hy : a.eval y = .bool true) (hz : b = false → a.eval z = .bool c) : At P ⟨dst, .pick x y z, ty, pos, af, g⟩ a w (.bool (b || c)) := by
  unfold At; generalize a.eval = ρ at *; cases b
  · simp [execOp, hx, hy, hz rfl, asBool, go_sem]
  · simp [execOp, hx, hy, asBool, go_sem]
theorem x_pick_and {b c : Bool} (hx : a.eval x = .bool b) (hy : b = true → a.eval y = .bool c) (hz : a.eval z = .bool false) : At P ⟨dst, .pick x y z, ty, pos, af, g⟩ a w (.bool (b && c)) := by
  unfold At; generalize a.eval = ρ at *; cases b
  · simp [execOp, hx, hz, asBool, go_sem]
  · simp [execOp, hx, hy rfl, asBool, go_sem]
theorem eqIn_bool (ht : P.underlying t = some .bool) (d : Nat) (b c : Bool) : (Op.equalIn (d + 1) t (.bool b) (.bool c)).run P w = .ok (b == c) w := by
  simp [Op.equalIn, run_underlying ht, go_sem]
theorem eq_bool (ht : P.underlying t = some .bool) (b c : Bool) : (Op.equal t (.bool b) (.bool c)).run P w = .ok (b == c) w := eqIn_bool ht 9999 b c
theorem x_len_slice {A : Option Addr} {m c : Nat} {e : TypeId} (ht : P.underlying t = some (.slice e)) (hx : a.eval x = .slice A m c) : At P ⟨dst, .call ⟨.builtin .len, #[x], #[t]⟩, ty, pos, af, g⟩ a w (.int .i64 m) := by
  unfold At; generalize a.eval = ρ at *; simp [execOp, hx, Builtin.len_, goInt, run_underlying ht, go_sem]
theorem x_len_string {s : ByteArray} (ht : P.underlying t = some .string) (hx : a.eval x = .string s) : At P ⟨dst, .call ⟨.builtin .len, #[x], #[t]⟩, ty, pos, af, g⟩ a w (.int .i64 s.size) := by
  unfold At; generalize a.eval = ρ at *; simp [execOp, hx, Builtin.len_, goInt, run_underlying ht, go_sem]

theorem w64 {x : Int} (h0 : -9223372036854775808 ≤ x) (h1 : x < 9223372036854775808) : IntKind.i64.wrap x = x := by rw [IntKind.wrap_i64]; omega
theorem wu64 {x : Int} (h0 : 0 ≤ x) (h1 : x < 18446744073709551616) : IntKind.u64.wrap x = x := by simp [IntKind.wrap, IntKind.bits, IntKind.signed]; omega
theorem wu32 {x : Int} (h0 : 0 ≤ x) (h1 : x < 4294967296) : IntKind.u32.wrap x = x := by rw [IntKind.wrap_u32]; omega
theorem wu8 {x : Int} (h0 : 0 ≤ x) (h1 : x < 256) : IntKind.u8.wrap x = x := by rw [IntKind.wrap_u8]; omega
section ints
variable {k k' : IntKind} {m q : Int}
theorem x_add {r : Int} (hx : a.eval x = .int k m) (hy : a.eval y = .int k q) (hr : k.wrap (m + q) = r) : At P ⟨dst, .binOp .add t x y t', ty, pos, af, g⟩ a w (.int k r) := by
  subst hr; unfold At; generalize a.eval = ρ at *; simp [execOp, hx, hy, binOp, Op.intArith, go_sem]
theorem x_sub {r : Int} (hx : a.eval x = .int k m) (hy : a.eval y = .int k q) (hr : k.wrap (m - q) = r) : At P ⟨dst, .binOp .sub t x y t', ty, pos, af, g⟩ a w (.int k r) := by
  subst hr; unfold At; generalize a.eval = ρ at *; simp [execOp, hx, hy, binOp, Op.intArith, go_sem]
theorem x_mul {r : Int} (hx : a.eval x = .int k m) (hy : a.eval y = .int k q) (hr : k.wrap (m * q) = r) : At P ⟨dst, .binOp .mul t x y t', ty, pos, af, g⟩ a w (.int k r) := by
  subst hr; unfold At; generalize a.eval = ρ at *; simp [execOp, hx, hy, binOp, Op.intArith, go_sem]
theorem x_quo {r : Int} (hx : a.eval x = .int k m) (hy : a.eval y = .int k q) (h0 : q ≠ 0) (hr : k.wrap (m.tdiv q) = r) : At P ⟨dst, .binOp .quo t x y t', ty, pos, af, g⟩ a w (.int k r) := by
  subst hr; unfold At; generalize a.eval = ρ at *; simp [execOp, hx, hy, binOp, Op.intDiv, h0, go_sem]
theorem x_rem {r : Int} (hx : a.eval x = .int k m) (hy : a.eval y = .int k q) (h0 : q ≠ 0) (hr : m.tmod q = r) : At P ⟨dst, .binOp .rem t x y t', ty, pos, af, g⟩ a w (.int k r) := by
  subst hr; unfold At; generalize a.eval = ρ at *; simp [execOp, hx, hy, binOp, Op.intDiv, h0, go_sem]
theorem x_bits {op : BinOp} {r : Int} (hop : op = .and ∨ op = .or ∨ op = .xor ∨ op = .andNot) (hx : a.eval x = .int k m) (hy : a.eval y = .int k q) (hr : bits op k m q = r) : At P ⟨dst, .binOp op t x y t', ty, pos, af, g⟩ a w (.int k r) := by
  subst hr
  unfold At; generalize a.eval = ρ at *; rcases hop with rfl | rfl | rfl | rfl <;> simp [execOp, hx, hy, binOp, Op.intBits, bits, go_sem]
theorem x_shl {r : Int} (hx : a.eval x = .int k m) (hy : a.eval y = .int k' q) (h0 : ¬ q < 0) (hr : k.wrap (m * 2 ^ (min q.toNat k.bits)) = r) : At P ⟨dst, .binOp .shl t x y t', ty, pos, af, g⟩ a w (.int k r) := by
  subst hr; unfold At; generalize a.eval = ρ at *; simp [execOp, hx, hy, binOp, Op.shift, h0, go_sem]
theorem x_shr {r : Int} (hx : a.eval x = .int k m) (hy : a.eval y = .int k' q) (h0 : ¬ q < 0) (hr : m.fdiv (2 ^ (min q.toNat k.bits)) = r) : At P ⟨dst, .binOp .shr t x y t', ty, pos, af, g⟩ a w (.int k r) := by
  subst hr; unfold At; generalize a.eval = ρ at *; simp [execOp, hx, hy, binOp, Op.shift, h0, go_sem]
theorem x_eql (hx : a.eval x = .int k m) (hy : a.eval y = .int k q) : At P ⟨dst, .binOp .eql t x y t', ty, pos, af, g⟩ a w (.bool (decide (m = q))) := by
  unfold At; generalize a.eval = ρ at *; simp [execOp, hx, hy, binOp, Op.intCmp, go_sem]; rfl
theorem x_neq (hx : a.eval x = .int k m) (hy : a.eval y = .int k q) : At P ⟨dst, .binOp .neq t x y t', ty, pos, af, g⟩ a w (.bool (!decide (m = q))) := by
  unfold At; generalize a.eval = ρ at *; simp [execOp, hx, hy, binOp, Op.intCmp, go_sem, bne]; rfl
theorem x_lss (hx : a.eval x = .int k m) (hy : a.eval y = .int k q) : At P ⟨dst, .binOp .lss t x y t', ty, pos, af, g⟩ a w (.bool (decide (m < q))) := by
  unfold At; generalize a.eval = ρ at *; simp [execOp, hx, hy, binOp, Op.intCmp, go_sem]
theorem x_leq (hx : a.eval x = .int k m) (hy : a.eval y = .int k q) : At P ⟨dst, .binOp .leq t x y t', ty, pos, af, g⟩ a w (.bool (decide (m ≤ q))) := by
  unfold At; generalize a.eval = ρ at *; simp [execOp, hx, hy, binOp, Op.intCmp, go_sem]
theorem x_gtr (hx : a.eval x = .int k m) (hy : a.eval y = .int k q) : At P ⟨dst, .binOp .gtr t x y t', ty, pos, af, g⟩ a w (.bool (decide (q < m))) := by
  unfold At; generalize a.eval = ρ at *; simp [execOp, hx, hy, binOp, Op.intCmp, go_sem]
theorem x_geq (hx : a.eval x = .int k m) (hy : a.eval y = .int k q) : At P ⟨dst, .binOp .geq t x y t', ty, pos, af, g⟩ a w (.bool (decide (q ≤ m))) := by
  unfold At; generalize a.eval = ρ at *; simp [execOp, hx, hy, binOp, Op.intCmp, go_sem]
theorem x_neg {r : Int} (hx : a.eval x = .int k m) (hr : k.wrap (0 - m) = r) : At P ⟨dst, .unOp .neg t x, ty, pos, af, g⟩ a w (.int k r) := by
  subst hr; unfold At; generalize a.eval = ρ at *; simp [execOp, hx, Op.unary, Op.intArith, go_sem]
theorem x_cpl {r : Int} (hx : a.eval x = .int k m) (hr : bits .xor k (if k.signed then -1 else k.max) m = r) : At P ⟨dst, .unOp .xor t x, ty, pos, af, g⟩ a w (.int k r) := by
  subst hr; unfold At; generalize a.eval = ρ at *; simp [execOp, hx, Op.unary, Op.intBits, bits, go_sem]
theorem x_conv {r : Int} (ht : P.underlying t' = some (.int k')) (hs : ∃ d, P.underlying t = some d) (hx : a.eval x = .int k m) (hr : k'.wrap m = r) : At P ⟨dst, .convert t t' x, ty, pos, af, g⟩ a w (.int k' r) := by
  obtain ⟨d, hd⟩ := hs
  subst hr; unfold At; generalize a.eval = ρ at *; simp [execOp, hx, convert, run_underlying ht, run_underlying hd, Conv.intToInt, go_sem]
end ints
theorem x_not {b : Bool} (hx : a.eval x = .bool b) : At P ⟨dst, .unOp .not t x, ty, pos, af, g⟩ a w (.bool (!b)) := by
  unfold At; generalize a.eval = ρ at *; simp [execOp, hx, Op.unary, go_sem]
theorem x_eqb {b c : Bool} (hx : a.eval x = .bool b) (hy : a.eval y = .bool c) (ht : P.underlying t = some .bool) : At P ⟨dst, .binOp .eql t x y t', ty, pos, af, g⟩ a w (.bool (b == c)) := by
  unfold At; generalize a.eval = ρ at *; simp [execOp, hx, hy, binOp, eq_bool ht, go_sem]
theorem x_neb {b c : Bool} (hx : a.eval x = .bool b) (hy : a.eval y = .bool c) (ht : P.underlying t = some .bool) : At P ⟨dst, .binOp .neq t x y t', ty, pos, af, g⟩ a w (.bool (!(b == c))) := by
  unfold At; generalize a.eval = ρ at *; simp [execOp, hx, hy, binOp, eq_bool ht, go_sem]
end

/-! ### 6. Memory -/
/-- What the program's table says of a type: its zero value, its cells, its bytes, whether it is a struct or an array. -/
structure TyI (P : Program) (t : TypeId) (z : Value) (n : Nat) (bytes : Nat) (agg : Bool) : Prop where
  info : (P.info? t).map (fun i => (i.zero, i.size, i.bytes)) = some (some z, n, bytes)
  und : ∃ d, P.underlying t = some d ∧ (match d with | .struct _ | .array _ _ => true | _ => false) = agg

section
variable {P : Program} {t : TypeId} {z : Value} {n by' : Nat} {ag : Bool} {w : World}
theorem TyI.parts (h : TyI P t z n by' ag) : ∃ i, P.info? t = some i ∧ i.zero = some z ∧ i.size = n ∧ i.bytes = by' := by
  obtain ⟨i, hi, hz⟩ := Option.map_eq_some_iff.1 h.info
  simp only [Prod.mk.injEq] at hz
  exact ⟨i, hi, hz.1, hz.2.1, hz.2.2⟩
theorem TyI.zero (h : TyI P t z n by' ag) (w : World) : (zeroValue t).run P w = .ok z w := by
  obtain ⟨i, hi, hz, _⟩ := h.parts
  simp [zeroValue, typeInfo, hi, hz, go_sem]
theorem TyI.size (h : TyI P t z n by' ag) (w : World) : (sizeOf t).run P w = .ok n w := by
  obtain ⟨i, hi, _, hz, _⟩ := h.parts
  simp [sizeOf, typeInfo, hi, hz, go_sem]
theorem TyI.isAgg (h : TyI P t z n by' ag) (w : World) : (isAgg t).run P w = .ok ag w := by
  obtain ⟨d, hd, he⟩ := h.und
  unfold Go.isAgg
  rw [Sem.run_bind, run_underlying hd w]
  cases d <;> simp_all
end

theorem add_off (b o k : Nat) : (⟨b, o, none⟩ : Addr).add k = ⟨b, o + k, none⟩ := by unfold Addr.add; split <;> simp_all

/-- Cells written into a row. -/
def spl (cur : Array Value) (off : Nat) (cs : Array Value) : Array Value := (cur.toList.take off ++ cs.toList ++ cur.toList.drop (off + cs.size)).toArray
theorem spl_size (cur : Array Value) (off : Nat) (cs : Array Value) (h : off + cs.size ≤ cur.size) : (spl cur off cs).size = cur.size := by
  simp [spl]; omega
theorem spl_one (cur : Array Value) (off : Nat) (v : Value) (h : off < cur.size) : spl cur off #[v] = cur.setIfInBounds off v := by
  apply Array.ext'
  simp only [spl, List.toList_toArray, Array.toList_setIfInBounds]
  rw [List.set_eq_take_append_cons_drop, if_pos (by simpa using h)]
  simp

section
variable {P : Program} {a : Act} {w w' : World} {dst : Option Tmp} {ty : TypeId} {pos : String} {af : Array Edge} {g : Option (Nat × Bool)} {x y : Operand} {v z : Value} {t t' : TypeId} {n by' : Nat} {ag : Bool}
theorem x_alloc (h : TyI P t z n by' ag) : To P ⟨dst, .alloc t, ty, pos, af, g⟩ a w (.pointer (some ⟨w.heap.size, 0, none⟩)) (w.alloc (.cells z.cells t)) := by
  unfold To; generalize a.eval = ρ at *
  simp [execOp, Instr.alloc, h.zero, newVar, newRow, go_sem]
theorem x_box (hx : a.eval x = v) : To P ⟨dst, .box t x, ty, pos, af, g⟩ a w (.pointer (some ⟨w.heap.size, 0, none⟩)) (w.alloc (.cells v.cells t)) := by
  unfold To; generalize a.eval = ρ at *
  simp [execOp, Instr.box, hx, newVar, newRow, go_sem]
theorem x_load1 {ad : Addr} (h : TyI P t z n by' false) (hx : a.eval x = .pointer (some ad)) (hc : w.cell? ad = some v) : At P ⟨dst, .load t x, ty, pos, af, g⟩ a w v := by
  unfold At; generalize a.eval = ρ at *
  simp [execOp, Instr.loadAt, Instr.sureAddr, hx, loadVar, h.isAgg, hc, go_sem]
theorem x_loadn {ad : Addr} {cs : Array Value} (h : TyI P t z n by' true) (hx : a.eval x = .pointer (some ad)) (hn : cs.size = n) (hc : ∀ j u, cs.toList[j]? = some u → w.cell? (ad.add j) = some u) : At P ⟨dst, .load t x, ty, pos, af, g⟩ a w (.agg cs) := by
  unfold At; generalize a.eval = ρ at *
  have hl : (loadCells ad cs.toList.length).run P w = .ok cs.toList.toArray w := run_loadCells_list (P := P) w ad cs.toList hc
  simp only [Array.length_toList, Array.toArray_toList, hn, loadCells] at hl
  simp [execOp, Instr.loadAt, Instr.sureAddr, hx, loadVar, h.isAgg, h.size, hl, go_sem]
theorem x_store {b off : Nat} {cur : Array Value} {T : TypeId} (h : TyI P t z n by' ag) (hx : a.eval x = .pointer (some ⟨b, off, none⟩)) (hy : a.eval y = v) (hb : w.heap[b]? = some (.cells cur T (0, 0)))
    (hv : v.cells.size = n) (h1 : ∀ u ∈ v.cells.toList, u.oneCell' = true) (hl : off + n ≤ cur.size) : Sk P ⟨dst, .store t x y, ty, pos, af, g⟩ a w (w.setRow b (spl cur off v.cells)) := by
  unfold Sk; generalize a.eval = ρ at *
  have hst := run_storeCells_at P b off T v.cells.toList 0 cur w hb (by simp; omega) h1
  simp only [Nat.add_zero, Array.length_toList] at hst
  have key : (storeVar t ⟨b, off, none⟩ v).run P w = .ok () (w.setRow b (spl cur off v.cells)) := by
    unfold storeVar spl
    rw [Sem.run_bind, h.size, Result.andThen_ok, if_neg (by simp [hv]), hst]
  simp only [execOp, Instr.storeAt, Instr.sureAddr, hx, hy, Sem.run_bind, Sem.run_pure, Result.andThen_ok, key]
theorem x_faddr {b off o' fi : Nat} {fs : Array Field} {f : Field} {z' : Value} (hs : P.underlying t = some (.struct fs)) (hf : fs[fi]? = some f) (h : TyI P f.type z' n by' ag) (hn : n ≠ 0) (hx : a.eval x = .pointer (some ⟨b, off, none⟩)) (ho : off + f.offset = o') :
    At P ⟨dst, .fieldAddr t x fi, ty, pos, af, g⟩ a w (.pointer (some ⟨b, o', none⟩)) := by
  subst ho
  unfold At; generalize a.eval = ρ at *
  simp [execOp, Instr.fieldAt, Instr.sureAddr, hx, run_underlying hs, hf, fieldPlace, h.size, hn, add_off, go_sem]
theorem x_iaddr_arr {b off m : Nat} {k : IntKind} {i : Int} {e : TypeId} (ht : P.underlying t = some (.array m e)) (h : TyI P e z n by' ag) (hx : a.eval x = .pointer (some ⟨b, off, none⟩)) (hy : a.eval y = .int k i) (h0 : 0 ≤ i) (h1 : i < m) :
    At P ⟨dst, .indexAddr t x y, ty, pos, af, g⟩ a w (.pointer (some ⟨b, off + i.toNat * n, none⟩)) := by
  unfold At; generalize a.eval = ρ at *
  simp [execOp, Instr.indexAt, Instr.sureAddr, hx, hy, asIntOf, run_underlying ht, h.size, h0, h1, add_off, go_sem]
theorem x_iaddr_sl {ad : Addr} {m c : Nat} {k : IntKind} {i : Int} {e : TypeId} (ht : P.underlying t = some (.slice e)) (h : TyI P e z n by' ag) (hx : a.eval x = .slice (some ad) m c) (hy : a.eval y = .int k i) (h0 : 0 ≤ i) (h1 : i < m) :
    At P ⟨dst, .indexAddr t x y, ty, pos, af, g⟩ a w (.pointer (some (ad.add (i.toNat * n)))) := by
  unfold At; generalize a.eval = ρ at *
  simp [execOp, Instr.indexAt, hx, hy, asIntOf, run_underlying ht, h.size, h0, h1, go_sem]
end

/-! #### steps that change the heap, in a region of the text's order -/
section
variable {P : Program} {o : Oper} {a : Act} {w w0 w' : World} {Q : Exit → Act → World → Prop} {nt d : Nat} {L : List (Nat × Value)} {v z : Value} {ops : Array Oper} {rest : List Oper} {B : Nat → Prop} {H : List (Nat × Asn)}
  {ty : TypeId} {pos : String} {af : Array Edge} {x y : Operand} {t : TypeId} {n by' : Nat} {ag : Bool} {gg : Option (Nat × Bool)} {K : Act → World → Prop}
theorem w_alloc (l : Nat) (hF : FrD ds nt a L) (hH : Hp B w0 w H) (hn : Nat.blt d nt = true) (h : TyI P t z n by' ag)
    (k : ∀ a' w' b, FrD ds nt a' ((d, .pointer (some ⟨b, 0, none⟩)) :: L) → Hp B w0 w' ((l, .blk b (.cells z.cells t)) :: H) → K a' w') : Oper.wp P ⟨some d, .alloc t, ty, pos, af, gg⟩ a w K Q :=
  w_to hF (x_alloc h) rfl hn fun a' hF' => k a' _ _ hF' (hH.new l _)
theorem w_box (l : Nat) (hF : FrD ds nt a L) (hH : Hp B w0 w H) (hn : Nat.blt d nt = true) (hx : a.eval x = v)
    (k : ∀ a' w' b, FrD ds nt a' ((d, .pointer (some ⟨b, 0, none⟩)) :: L) → Hp B w0 w' ((l, .blk b (.cells v.cells t)) :: H) → K a' w') : Oper.wp P ⟨some d, .box t x, ty, pos, af, gg⟩ a w K Q :=
  w_to hF (x_box hx) rfl hn fun a' hF' => k a' _ _ hF' (hH.new l _)
theorem Mods.setRow (w : World) (b : Nat) (cs : Array Value) : Mods (fun k => k = b) w (w.setRow b cs) := ⟨rfl, rfl, rfl, by simp, fun k _ hn => setRow_other w b k _ hn⟩
theorem w_store (l : Nat) {b off : Nat} {cur : Array Value} {T : TypeId} (hH : Hp B w0 w H) (h : TyI P t z n by' ag) (hl : get H l = some (.blk b (.cells cur T (0, 0)))) (hx : a.eval x = .pointer (some ⟨b, off, none⟩)) (hy : a.eval y = v)
    (hv : v.cells.size = n) (h1 : ∀ u ∈ v.cells.toList, u.oneCell' = true) (hle : off + n ≤ cur.size)
    (k : ∀ w', Hp B w0 w' ((l, .blk b (.cells (spl cur off v.cells) T (0, 0))) :: H) → K a w') : Oper.wp P ⟨Option.none, .store t x y, ty, pos, af, gg⟩ a w K Q :=
  w_sk (x_store h hx hy (hH.at l hl) hv h1 hle) rfl (k _ (hH.put l hl _ (Mods.setRow _ _ _) (setRow_heap w b cur _ T _ (hH.at l hl))))
end
/-- The cells of a block of one's own. -/
theorem Hp.cell {B : Nat → Prop} {w0 w : World} {H : List (Nat × Asn)} (hH : Hp B w0 w H) (l : Nat) {b : Nat} {cur : Array Value} {T : TypeId} {fz : Nat × Nat} (hl : get H l = some (.blk b (.cells cur T fz))) (j : Nat) {v : Value} (hj : cur[j]? = some v) : w.cell? ⟨b, j, none⟩ = some v := by
  rw [cell_of_row w b j cur T fz (hH.at l hl), hj]


theorem one1 {v : Value} (h : v.cells = #[v]) (h1 : v.oneCell' = true) : ∀ u ∈ v.cells.toList, u.oneCell' = true := by
  rw [h]; intro u hu; simp at hu; subst hu; exact h1
theorem FrD.getD {n : Nat} {a : Act} {L : List (Nat × Value)} (hF : FrD ds n a L) (t : Nat) {v : Value} (hv : get L t = some v) : a.tmps.getD t undef = v := by
  have := hF.at_ t v hv
  simp [this]

/-! ### 7. A function's end -/
section
variable {P : Program} {fn : Func} {R : Ending → World → Prop} {a : Act} {w : World} {n : Nat} {L : List (Nat × Value)} {v u x : Value}
theorem fin_ret (hF : Fr n a L) (h : (results fn a.tmps).run P w = .ok v w) (hR : R (.returned v) w) : bodyPost P fn R .ret a w := ⟨hF.defers, v, h, hR⟩
theorem fin_end (hF : Fr n a L) (h : (results fn a.tmps).run P w = .ok v w) (hR : R (.returned v) w) : bodyPost P fn R .normal a w := ⟨hF.defers, v, h, hR⟩
theorem res0 (hr : fn.results = #[]) : (results fn a.tmps).run P w = .ok (.tuple #[]) w := by simp [results, hr, go_sem]
theorem res1 (hF : FrD ds n a L) {t : Nat} (hr : fn.results = #[.tmp t]) (hv : get L t = some v) : (results fn a.tmps).run P w = .ok v w := by
  rw [results_tmp hr, hF.getD t hv]
theorem res2 (hF : FrD ds n a L) {t t' : Nat} (hr : fn.results = #[.tmp t, .tmp t']) (hv : get L t = some v) (hu : get L t' = some u) : (results fn a.tmps).run P w = .ok (.tuple #[v, u]) w := by
  rw [results_tmp2 hr, hF.getD t hv, hF.getD t' hu]
theorem resc (hF : FrD ds n a L) {t : Nat} {ty : TypeId} {b : Nat} {cs : Array Value} {T : TypeId} {fz : Nat × Nat} {z : Value} {k by' : Nat} (hr : fn.results = #[.cell t ty]) (hv : get L t = some (.pointer (some ⟨b, 0, none⟩))) (hb : w.heap[b]? = some (.cells cs T fz))
    (h : TyI P ty z k by' true) (hn : cs.size = k) : (results fn a.tmps).run P w = .ok (.agg cs) w := by
  obtain ⟨d, hd, he⟩ := h.und
  obtain ⟨i, hi, _, hz, _⟩ := h.parts
  exact results_cell_row hr _ w b T cs fz d (hF.getD t hv) hb hd (by cases d <;> simp_all) (by rw [hi]; simp [hz, hn])
theorem resc1 (hF : FrD ds n a L) {t : Nat} {ty : TypeId} {ad : Addr} {z : Value} {k by' : Nat} (hr : fn.results = #[.cell t ty]) (hv : get L t = some (.pointer (some ad))) (hc : w.cell? ad = some v)
    (h : TyI P ty z k by' false) : (results fn a.tmps).run P w = .ok v w := by
  have h1 := hF.getD t hv
  have h2 : (loadVar ty ad).run P w = .ok v w := by simp [loadVar, h.isAgg, hc, go_sem]
  have h3 : a.tmps[t]?.getD undef = .pointer (some ad) := by simpa using h1
  simp only [results, hr]
  simp [h3, asAddr, go_sem] at h2 ⊢
  simp [h.isAgg, hc, go_sem]
end


/-! ### 8. Data in memory -/
/-- How a datum of one kind lies in cells; ok: the blocks that are read for it. -/
structure Rep (α : Type) where
  n : Nat
  pos : 0 < n
  R : World → (Nat → Prop) → α → List Value → Prop
  len : ∀ {w ok x cs}, R w ok x cs → cs.length = n
  one : ∀ {w ok x cs}, R w ok x cs → ∀ u ∈ cs, u.oneCell' = true
  move : ∀ {w w' : World} {ok ok' : Nat → Prop} {x cs}, (∀ k, ok k → k < w.heap.size → w'.heap[k]? = w.heap[k]?) → (∀ k, ok k → k < w.heap.size → ok' k) → R w ok x cs → R w' ok' x cs

def Rep.flat {α : Type} (enc : α → Value) (h1 : ∀ x, (enc x).oneCell' = true) : Rep α where
  n := 1
  pos := by decide
  R := fun _ _ x cs => cs = [enc x]
  len := fun h => by rw [h]; rfl
  one := fun h u hu => by rw [h] at hu; simp at hu; subst hu; exact h1 _
  move := fun _ _ h => h
def Rep.int (k : IntKind) : Rep Int := Rep.flat (Value.int k) (fun _ => rfl)
def Rep.bool : Rep Bool := Rep.flat Value.bool (fun _ => rfl)
def Rep.str : Rep ByteArray := Rep.flat Value.string (fun _ => rfl)

/-- Elements one behind the other. -/
def Elems {α : Type} (E : Rep α) (w : World) (ok : Nat → Prop) (xs : List α) (cs : List Value) : Prop :=
  cs.length = xs.length * E.n ∧ ∀ i x, xs[i]? = some x → E.R w ok x ((cs.drop (i * E.n)).take E.n)

section
variable {α : Type} {E : Rep α} {w w' : World} {ok ok' : Nat → Prop} {xs ys : List α} {cs ds : List Value}
theorem Elems.nil (E : Rep α) (w : World) (ok : Nat → Prop) : Elems E w ok [] [] := ⟨by simp, fun i x h => by simp at h⟩
theorem Elems.move (h : Elems E w ok xs cs) (hw : ∀ k, ok k → k < w.heap.size → w'.heap[k]? = w.heap[k]?) (ho : ∀ k, ok k → k < w.heap.size → ok' k) : Elems E w' ok' xs cs := ⟨h.1, fun i x hx => E.move hw ho (h.2 i x hx)⟩
theorem Elems.append (h : Elems E w ok xs cs) (k : Elems E w ok ys ds) : Elems E w ok (xs ++ ys) (cs ++ ds) := by
  refine ⟨by rw [List.length_append, List.length_append, h.1, k.1, Nat.add_mul], fun i x hx => ?_⟩
  by_cases hi : i < xs.length
  · rw [List.getElem?_append_left hi] at hx
    have := h.2 i x hx
    have hle : i * E.n + E.n ≤ cs.length := by rw [h.1, ← Nat.succ_mul]; exact Nat.mul_le_mul_right _ hi
    rw [List.drop_append, List.take_append_of_le_length (by rw [List.length_drop]; omega)]
    exact this
  · rw [List.getElem?_append_right (by omega)] at hx
    have := k.2 _ x hx
    have e : i * E.n = cs.length + (i - xs.length) * E.n := by rw [h.1, ← Nat.add_mul]; congr 1; omega
    rw [e, List.drop_append, List.drop_of_length_le (by omega), List.nil_append, show cs.length + (i - xs.length) * E.n - cs.length = (i - xs.length) * E.n by omega]
    exact this
theorem Elems.single {x : α} (h : E.R w ok x cs) : Elems E w ok [x] cs := by
  refine ⟨by simp [E.len h], fun i y hy => ?_⟩
  cases i with
  | zero => simp at hy; subst hy; simpa [List.take_of_length_le (Nat.le_of_eq (E.len h))] using h
  | succ i => simp at hy
theorem Elems.one (h : Elems E w ok xs cs) : ∀ u ∈ cs, u.oneCell' = true := by
  intro u hu
  obtain ⟨j, hj, rfl⟩ := List.getElem_of_mem hu
  have hE := E.pos
  have hi : j / E.n < xs.length := by rw [Nat.div_lt_iff_lt_mul hE, ← h.1]; exact hj
  have hr := h.2 (j / E.n) _ (List.getElem?_eq_getElem hi)
  refine E.one hr _ ?_
  have hm := Nat.mod_lt j hE
  have hdm := Nat.div_add_mod j E.n
  have hdm' : j / E.n * E.n + j % E.n = j := by rw [Nat.mul_comm]; exact hdm
  refine List.mem_of_getElem? (i := j % E.n) ?_
  rw [List.getElem?_take, if_pos hm, List.getElem?_drop, hdm', List.getElem?_eq_getElem hj]
theorem elems_flat {enc : α → Value} {h1} : Elems (Rep.flat enc h1) w ok xs cs ↔ cs = xs.map enc := by
  constructor
  · intro h
    apply List.ext_getElem?
    intro i
    by_cases hi : i < xs.length
    · have := h.2 i _ (List.getElem?_eq_getElem hi)
      simp only [Rep.flat, Nat.mul_one] at this
      rw [List.getElem?_map, List.getElem?_eq_getElem hi, Option.map_some]
      have h0 : ((cs.drop i).take 1)[0]? = some (enc xs[i]) := by rw [this]; rfl
      rw [List.getElem?_take, if_pos (by decide), List.getElem?_drop, Nat.add_zero] at h0
      exact h0
    · have hl : cs.length = xs.length := by simpa [Rep.flat] using h.1
      rw [List.getElem?_eq_none (by omega), List.getElem?_eq_none (by simpa using hi)]
  · rintro rfl
    refine ⟨by simp [Rep.flat], fun i x hx => ?_⟩
    simp only [Rep.flat, Nat.mul_one]
    have hi : i < xs.length := (List.getElem?_eq_some_iff.1 hx).1
    have hxi : xs[i] = x := by rw [List.getElem?_eq_getElem hi] at hx; exact Option.some.inj hx
    rw [← List.map_drop, List.drop_eq_getElem_cons hi]
    simp [hxi]
end

/-- A slice that reads as xs. -/
def Rd {α : Type} (E : Rep α) (w : World) (ok : Nat → Prop) (A : Option Addr) (xs : List α) (c : Nat) : Prop :=
  xs.length ≤ c ∧ c ≤ maxLen ∧ (0 < xs.length → ∃ b off arr T fz, A = some ⟨b, off, none⟩ ∧ ok b ∧ w.heap[b]? = some (.cells arr T fz) ∧ ∃ cs, (∀ j u, cs[j]? = some u → arr[off + j]? = some u) ∧ Elems E w ok xs cs)

section
variable {α : Type} {E : Rep α} {w w' : World} {ok ok' : Nat → Prop} {xs : List α} {A : Option Addr} {c : Nat}
theorem Rd.nil (E : Rep α) (w : World) (ok : Nat → Prop) : Rd E w ok none [] 0 := ⟨Nat.le_refl _, by simp [maxLen], fun h => by simp at h⟩
theorem Rd.move (h : Rd E w ok A xs c) (hw : ∀ k, ok k → k < w.heap.size → w'.heap[k]? = w.heap[k]?) (ho : ∀ k, ok k → k < w.heap.size → ok' k) : Rd E w' ok' A xs c := by
  refine ⟨h.1, h.2.1, fun h0 => ?_⟩
  obtain ⟨b, off, arr, T, fz, rfl, hb, hh, cs, hc, he⟩ := h.2.2 h0
  have hlt := (Array.getElem?_eq_some_iff.1 hh).1
  exact ⟨b, off, arr, T, fz, rfl, ho b hb hlt, (hw b hb hlt).trans hh, cs, hc, he.move hw ho⟩
theorem Rd.all (h : Rd E w ok A xs c) : Rd E w (fun k => k < w.heap.size) A xs c := h.move (fun _ _ _ => rfl) (fun _ _ hk => hk)
theorem Rd.le (h : Rd E w ok A xs c) : xs.length ≤ maxLen := Nat.le_trans h.1 h.2.1
theorem Rd.some_ (h : Rd E w ok A xs c) (h0 : 0 < xs.length) : ∃ b off, A = some ⟨b, off, none⟩ := by
  obtain ⟨b, off, _, _, _, e, _⟩ := h.2.2 h0
  exact ⟨b, off, e⟩
theorem Rd.cells (h : Rd E w ok A xs c) : ∃ cs, Elems E w ok xs cs ∧ ((A = none ∧ xs = []) ∨ ∃ ad, A = some ad ∧ ∀ j u, cs[j]? = some u → w.cell? (ad.add j) = some u) := by
  by_cases h0 : 0 < xs.length
  · obtain ⟨b, off, arr, T, fz, rfl, _, hh, cs, hc, he⟩ := h.2.2 h0
    exact ⟨cs, he, .inr ⟨_, rfl, fun j u hj => by rw [add_off, cell_of_row w b (off + j) arr T fz hh]; exact hc j u hj⟩⟩
  · have hx : xs = [] := List.eq_nil_of_length_eq_zero (by omega)
    subst hx
    refine ⟨[], Elems.nil _ _ _, ?_⟩
    cases A with
    | none => exact .inl ⟨rfl, rfl⟩
    | some ad => exact .inr ⟨ad, rfl, fun j u hj => by simp at hj⟩
/-- One element. -/
theorem Rd.at_ (h : Rd E w ok A xs c) {i : Nat} {x : α} (hx : xs[i]? = some x) : ∃ b off cs, A = some ⟨b, off, none⟩ ∧ E.R w ok x cs ∧ ∀ j u, cs[j]? = some u → w.cell? ⟨b, off + i * E.n + j, none⟩ = some u := by
  have hi : i < xs.length := (List.getElem?_eq_some_iff.1 hx).1
  obtain ⟨b, off, arr, T, fz, rfl, _, hh, cs, hc, he⟩ := h.2.2 (by omega)
  refine ⟨b, off, _, rfl, he.2 i x hx, fun j u hj => ?_⟩
  rw [cell_of_row w b _ arr T fz hh]
  rw [List.getElem?_take] at hj
  split at hj
  · rw [List.getElem?_drop] at hj
    rw [Nat.add_assoc]
    exact hc _ u hj
  · cases hj
end

/-- A slice of one's own that holds xs. -/
def Row {α : Type} (E : Rep α) (T : TypeId) (w : World) (ok : Nat → Prop) (v : Value) (xs : List α) : Prop := ∃ cs, w.ownsRow 0 T E.n v xs.length cs ∧ Elems E w ok xs cs

section
variable {α : Type} {E : Rep α} {T : TypeId} {w w' : World} {ok ok' : Nat → Prop} {v : Value} {xs : List α}
theorem Row.nil (E : Rep α) (T : TypeId) (w : World) (ok : Nat → Prop) : Row E T w ok (.slice none 0 0) [] := ⟨[], World.ownsRow_nil _ _ _ _, Elems.nil _ _ _⟩
theorem own_moved {w w' : World} {base : Nat} {e : TypeId} {size n : Nat} {v : Value} {xs : List Value} (h : w.ownsRow base e size v n xs) (hm : ∀ k, v.ownBlock = some k → w'.heap[k]? = w.heap[k]?) : w'.ownsRow base e size v n xs := by
  obtain ⟨h1, h2⟩ := h
  refine ⟨h1, ?_⟩
  rcases h2 with h2 | ⟨g, cap, cur, rfl, hg, hh, r⟩
  · exact .inl h2
  · exact .inr ⟨g, cap, cur, rfl, hg, (hm g (by simp [Value.ownBlock])).trans hh, r⟩
theorem Row.move (h : Row E T w ok v xs) (hb : ∀ k, v.ownBlock = some k → w'.heap[k]? = w.heap[k]?) (hw : ∀ k, ok k → k < w.heap.size → w'.heap[k]? = w.heap[k]?) (ho : ∀ k, ok k → k < w.heap.size → ok' k) : Row E T w' ok' v xs := by
  obtain ⟨cs, h1, h2⟩ := h
  exact ⟨cs, own_moved h1 hb, h2.move hw ho⟩
theorem Row.lt (h : Row E T w ok v xs) (k : Nat) (hk : v.ownBlock = some k) : k < w.heap.size := by
  obtain ⟨cs, h1, _⟩ := h
  exact (h1.lt k hk).2
theorem Row.form (h : Row E T w ok v xs) : ∃ A c, v = .slice A xs.length c := by
  obtain ⟨cs, h1, _⟩ := h
  rcases h1.2 with ⟨rfl, h0⟩ | ⟨g, cap, cur, rfl, _⟩
  · exact ⟨none, 0, by rw [h0]⟩
  · exact ⟨_, cap, rfl⟩
/-- It is read. -/
theorem Row.rd {A : Option Addr} {m c : Nat} (h : Row E T w ok (.slice A m c) xs) (ho : ∀ k, ok k → k < w.heap.size → ok' k) (hb : ∀ k, (Value.slice A m c).ownBlock = some k → ok' k) : Rd E w ok' A xs c := by
  obtain ⟨cs, h1, h2⟩ := h
  rcases h1.2 with ⟨h3, h0⟩ | ⟨g, cap, cur, h3, _, hh, h4, h5, h6, h7⟩
  · injection h3 with h31 h32 h33
    subst h31 h33
    have hx : xs = [] := List.eq_nil_of_length_eq_zero h0
    subst hx
    exact Rd.nil _ _ _
  · injection h3 with h31 h32 h33
    subst h31 h33
    refine ⟨h4, h5, fun _ => ⟨g, 0, cur, T, (0, 0), rfl, hb g rfl, hh, cs, fun j u hj => ?_, h2.move (fun _ _ _ => rfl) ho⟩⟩
    rw [Nat.zero_add]
    rw [← h7, List.getElem?_take] at hj
    split at hj
    · simpa using hj
    · cases hj
/-- append: whatever is behind is elements of the same kind. -/
theorem Row.append {P : Program} {ok2 : Nat → Prop} {t : TypeId} {z : Value} {by' : Nat} {ag : Bool} (ht : P.underlying t = some (.slice T)) (hT : TyI P T z E.n by' ag) (hz : z.cells.size = E.n) {ys : List α} {A : Option Addr} {c : Nat} (ty : TypeId)
    (h : Row E T w ok v xs) (hy : Rd E w ok2 A ys c) (h1 : ∀ k, ok k → v.ownBlock ≠ some k) (h2 : ∀ k, ok2 k → v.ownBlock ≠ some k) (hl : (xs.length + ys.length) * by' ≤ 140737488355328) (hl' : xs.length + ys.length ≤ maxLen) :
    ∃ v' w', (Builtin.append_ #[t, t] ty #[v, .slice A ys.length c]).run P w = .ok v' w' ∧ Row E T w' (fun k => ok k ∨ ok2 k) v' (xs ++ ys) ∧ Mods (fun k => v.ownBlock = some k) w w' ∧ (v'.ownBlock = v.ownBlock ∨ v'.ownBlock = some w.heap.size) := by
  obtain ⟨cs, ho, he⟩ := h
  obtain ⟨ds, hd, hA⟩ := hy.cells
  obtain ⟨i, hi, hiz, his, hib⟩ := hT.parts
  have el : ∀ w' : World, Mods (fun k => v.ownBlock = some k) w w' → Elems E w' (fun k => ok k ∨ ok2 k) (xs ++ ys) (cs ++ ds) := fun w' hm =>
    (he.move (fun k hk hlt => hm.block k hlt (h1 k hk)) (fun k hk _ => .inl hk)).append (hd.move (fun k hk hlt => hm.block k hlt (h2 k hk)) (fun k hk _ => .inr hk))
  rcases hA with ⟨rfl, rfl⟩ | ⟨ad, rfl, hc⟩
  · have h0 : c = c := rfl
    refine ⟨v, w, ?_, ⟨cs, by simpa using ho, ?_⟩, Mods.refl _ _, .inl rfl⟩
    · rcases ho.2 with ⟨rfl, _⟩ | ⟨g, cap, cur, rfl, _, _, hnc, _⟩
      · simp [Builtin.append_, run_underlying ht, sizeOf, typeInfo, hi, Builtin.lenOf, Builtin.firstCells, go_sem]
      · simp [Builtin.append_, run_underlying ht, sizeOf, typeInfo, hi, Builtin.lenOf, Builtin.firstCells, hnc, storeCells, go_sem]
    · simpa using he.move (fun _ _ _ => rfl) (fun k hk _ => Or.inl hk)
  · obtain ⟨v', w', hr, h3, h4, _, h5⟩ := run_append_own_at (P := P) w 0 t ty T i z E.n by' ht hi hiz his hib hz E.pos v xs.length cs ho ad ys.length c ds hd.1 hc hd.one hl' hl (Nat.zero_le _)
    have hm := Mods.ofGrown h4
    exact ⟨v', w', hr, ⟨cs ++ ds, by rw [List.length_append]; exact h3, el w' hm⟩, hm, h5⟩
end

/-- The assertions. -/
def Asn.rd_ {α : Type} (E : Rep α) (A : Option Addr) (xs : List α) (c : Nat) (ok : Nat → Prop) : Asn :=
  ⟨fun _ => False, ok, fun w => Rd E w ok A xs c, fun h hw => hw.move (fun k hk _ => h k (.inr hk)) (fun k hk _ => hk)⟩
def Asn.row {α : Type} (E : Rep α) (T : TypeId) (v : Value) (xs : List α) (ok : Nat → Prop) : Asn :=
  ⟨fun k => v.ownBlock = some k, ok, fun w => Row E T w ok v xs, fun h hw => hw.move (fun k hk => h k (.inl hk)) (fun k hk _ => h k (.inr hk)) (fun k hk _ => hk)⟩

section
variable {P : Program} {o : Oper} {a : Act} {w w0 w' : World} {Q : Exit → Act → World → Prop} {nt d d2 : Nat} {L : List (Nat × Value)} {v z : Value} {ops : Array Oper} {rest : List Oper} {B : Nat → Prop} {H : List (Nat × Asn)}
  {ty ty2 : TypeId} {pos pos2 : String} {af af2 : Array Edge} {x y : Operand} {t : TypeId} {n by' : Nat} {ag : Bool} {α : Type} {E : Rep α} {T : TypeId} {ok : Nat → Prop} {xs ys : List α} {A : Option Addr} {c : Nat} {gg : Option (Nat × Bool)} {K : Act → World → Prop}
/-- What came in and is read. -/
theorem Hp.readable (h : Hp B w0 w H) (l : Nat) (hr : Rd E w ok A xs c) (hok : ∀ k, ok k → k < w.heap.size) (hs : ∀ i A', get H i = some A' → ∀ k, A'.own k → ¬ ok k) : Hp B w0 w ((l, .rd_ E A xs c ok) :: H) := by
  refine ⟨h.mods, ?_, ?_, ?_, ?_, ?_⟩
  · intro i X hX; rw [get_cons] at hX; split at hX
    · cases hX; exact hr
    · exact h.holds i X hX
  · intro i X hX; rw [get_cons] at hX; split at hX
    · cases hX; exact fun k hk => hk.elim
    · exact h.mine i X hX
  · intro i X hX; rw [get_cons] at hX; split at hX
    · cases hX; exact fun k hk => hk.elim (·.elim) (hok k)
    · exact h.inb i X hX
  · intro i X hX; rw [get_cons] at hX; split at hX
    · cases hX; exact fun k hk => hk.elim
    · exact h.self i X hX
  · intro i j X Y hij hX hY k hk
    rw [get_cons] at hX hY
    split at hX
    · cases hX; exact hk.elim
    · split at hY
      · cases hY; rintro (h1 | h1)
        · exact h1
        · exact hs i X hX k hk h1
      · exact h.sep i j X Y hij hX hY k hk
/-- An argument that is read. -/
theorem Hp.arg (h : Hp B w0 w H) (l : Nat) (hr : Rd E w ok A xs c) (hok : ∀ k, ok k → k < w0.heap.size ∧ ¬ B k) : Hp B w0 w ((l, .rd_ E A xs c ok) :: H) :=
  h.readable l hr (fun k hk => Nat.lt_of_lt_of_le (hok k hk).1 h.mods.size) (fun i A' hA k hk hk2 => (h.mine i A' hA k hk).elim (hok k hk2).2 (fun h2 => Nat.not_lt.2 h2 (hok k hk2).1))
/-- A row of one's own that is empty. -/
theorem Hp.row0 (h : Hp B w0 w H) (l : Nat) (E : Rep α) (T : TypeId) : Hp B w0 w ((l, .row E T (.slice Option.none 0 0) [] (fun _ => False)) :: H) :=
  h.one (Mods.refl (fun _ => False) w) l _ (fun k hk => hk.elim) (Row.nil _ _ _ _) (fun k hk => by simp [Asn.row, Value.ownBlock] at hk) (fun k hk => hk.elim) (fun k hk => by simp [Asn.row, Value.ownBlock] at hk) (fun k _ hk => hk)
theorem Hp.rd (h : Hp B w0 w H) (l : Nat) (hl : get H l = some (.rd_ E A xs c ok)) : Rd E w ok A xs c := h.holds l _ hl
theorem Hp.row (h : Hp B w0 w H) (l : Nat) (hl : get H l = some (.row E T v xs ok)) : Row E T w ok v xs := h.holds l _ hl
theorem Hp.rowRd {m : Nat} (h : Hp B w0 w H) (l : Nat) (hl : get H l = some (.row E T (.slice A m c) xs ok)) : Rd E w (fun k => ok k ∨ (Value.slice A m c).ownBlock = some k) A xs c := (h.row l hl).rd (fun k hk _ => .inl hk) (fun k hk => .inr hk)

/-- xs[i], an element of one cell: its address, then the load. -/
theorem l_idx {enc : α → Value} {h1 : ∀ x, (enc x).oneCell' = true} {k : IntKind} {i : Int} {x' : α} {e : TypeId} (hF : FrD ds nt a L) (hn : Nat.blt d nt = true) (hn2 : Nat.blt d2 nt = true) (ht : P.underlying t = some (.slice e)) (h : TyI P e z 1 by' false)
    (hr : Rd (Rep.flat enc h1) w ok A xs c) (hx : a.eval x = .slice A xs.length c) (hy : a.eval y = .int k i) (h0 : 0 ≤ i) (hx' : xs[i.toNat]? = some x')
    (k' : ∀ a' p, FrD ds nt a' ((d2, enc x') :: (d, p) :: L) → wpList P ops Q rest a' w) :
    wpList P ops Q (⟨some d, .indexAddr t x y, ty, pos, af, Option.none⟩ :: ⟨some d2, .load e (.tmp d), ty2, pos2, af2, Option.none⟩ :: rest) a w := by
  obtain ⟨b, off, cs, rfl, hR, hc⟩ := hr.at_ hx'
  have hlt : i.toNat < xs.length := (List.getElem?_eq_some_iff.1 hx').1
  refine l_at hF rfl rfl hn (x_iaddr_sl ht h hx hy h0 (by omega)) fun a1 hF1 => ?_
  refine l_at hF1 rfl rfl hn2 (x_load1 h (hF1.tmp d (get_cons_same _ _ _)) ?_) fun a2 hF2 => k' a2 _ hF2
  have := hc 0 (enc x') (by rw [show cs = [enc x'] from hR]; rfl)
  rw [add_off]
  simpa [Rep.flat] using this
/-- xs[i], an element of several cells. -/
theorem l_idxs {k : IntKind} {i : Int} {x' : α} {e : TypeId} (hF : FrD ds nt a L) (hn : Nat.blt d nt = true) (hn2 : Nat.blt d2 nt = true) (ht : P.underlying t = some (.slice e)) (h : TyI P e z n by' true) (hEn : E.n = n)
    (hr : Rd E w ok A xs c) (hx : a.eval x = .slice A xs.length c) (hy : a.eval y = .int k i) (h0 : 0 ≤ i) (hx' : xs[i.toNat]? = some x')
    (k' : ∀ a' p cs, E.R w ok x' cs → FrD ds nt a' ((d2, .agg cs.toArray) :: (d, p) :: L) → wpList P ops Q rest a' w) :
    wpList P ops Q (⟨some d, .indexAddr t x y, ty, pos, af, Option.none⟩ :: ⟨some d2, .load e (.tmp d), ty2, pos2, af2, Option.none⟩ :: rest) a w := by
  subst hEn
  obtain ⟨b, off, cs, rfl, hR, hc⟩ := hr.at_ hx'
  have hlt : i.toNat < xs.length := (List.getElem?_eq_some_iff.1 hx').1
  refine l_at hF rfl rfl hn (x_iaddr_sl ht h hx hy h0 (by omega)) fun a1 hF1 => ?_
  refine l_at hF1 rfl rfl hn2 (x_loadn (cs := cs.toArray) h (hF1.tmp d (get_cons_same _ _ _)) (by simpa using E.len hR) (fun j u hj => ?_)) fun a2 hF2 => k' a2 _ cs hR hF2
  rw [add_off, add_off]
  exact hc j u (by simpa using hj)
/-- A literal of a slice: its row. -/
theorem x_lit {ρs : Array (Nat × Value)} {m : Nat} {parts : Array (Nat × Operand)} {cells : Array Value} {e : TypeId} (ht : P.underlying t = some (.slice e)) (h : TyI P e z n by' ag) (hp : parts.map (fun p => (p.1, a.eval p.2)) = ρs) (hm : m * n ≠ 0) (hm2 : m * n ≤ 2 ^ 24)
    (hf : Instr.fill (fun i => some (i * n, n)) ((Array.range (m * n)).map (z.cells[· % z.cells.size]!)) ρs.toList = some cells) : To P ⟨some d, .buildSlice t m parts, ty, pos, af, gg⟩ a w (.slice (some ⟨w.heap.size, 0, Option.none⟩) m m) (w.alloc (.cells cells e)) := by
  subst hp
  unfold To
  generalize a.eval = ρ at *
  have key : (Instr.buildSlice t m (parts.map fun (p : Nat × Operand) => (p.1, ρ p.2))).run P w = .ok (.slice (some ⟨w.heap.size, 0, Option.none⟩) m m) (w.alloc (.cells cells e)) := by
    unfold Instr.buildSlice
    rw [Sem.run_bind, run_underlying ht]
    simp only [Result.andThen_ok]
    rw [Sem.run_bind, h.size]
    simp only [Result.andThen_ok]
    rw [if_neg (by omega), if_neg hm]
    simp only [Sem.run_bind, h.zero, Result.andThen_ok, Sem.run_pure, hf, newRow, newObj]
    rfl
  simp only [execOp, Sem.run_bind, key, Result.andThen_ok, Sem.run_pure]
theorem row_lit {cells : Array Value} (hc : Elems E w ok xs cells.toList) (hm : xs.length ≤ maxLen) : Row E T (w.alloc (.cells cells T)) ok (.slice (some ⟨w.heap.size, 0, Option.none⟩) xs.length xs.length) xs := by
  refine ⟨cells.toList, World.ownsRow_lit w cells xs.length (Nat.zero_le _) hm (by simpa using hc.1), hc.move (fun k _ hk => (World.grownBy_alloc w _ Option.none).block k hk (by simp)) (fun k hk _ => hk)⟩
/-- A literal of whole numbers, or of other elements of one cell. -/
theorem w_lit (l : Nat) {enc : α → Value} {h1 : ∀ x, (enc x).oneCell' = true} (ys : List α) {ρs : Array (Nat × Value)} {m : Nat} {parts : Array (Nat × Operand)} {e : TypeId} (hF : FrD ds nt a L) (hH : Hp B w0 w H) (hn : Nat.blt d nt = true) (ht : P.underlying t = some (.slice e)) (h : TyI P e z 1 by' ag)
    (hp : parts.map (fun p => (p.1, a.eval p.2)) = ρs) (hl : ys.length = m) (hm : m ≠ 0) (hm2 : m ≤ 2 ^ 24)
    (hf : Instr.fill (fun i => some (i * 1, 1)) ((Array.range (m * 1)).map (z.cells[· % z.cells.size]!)) ρs.toList = some (ys.map enc).toArray)
    (k' : ∀ a' w' b, FrD ds nt a' ((d, .slice (some ⟨b, 0, Option.none⟩) ys.length ys.length) :: L) → Hp B w0 w' ((l, .row (Rep.flat enc h1) e (.slice (some ⟨b, 0, Option.none⟩) ys.length ys.length) ys (fun _ => False)) :: H) → K a' w') :
    Oper.wp P ⟨some d, .buildSlice t m parts, ty, pos, af, gg⟩ a w K Q := by
  subst hl
  refine w_to hF (x_lit ht h hp (by omega) (by omega) hf) rfl hn fun a' hF' => k' a' _ _ hF' ?_
  refine hH.one (Mods.alloc (fun _ => False) w _) l _ (fun k hk => hk.elim) (row_lit (E := Rep.flat enc h1) (elems_flat.2 (by simp)) (by simp [maxLen] at *; omega)) (fun k hk => .inr ?_) (fun k hk => hk.elim) (fun k hk => ?_) (fun k _ hk => hk)
  · simp [Asn.row, Value.ownBlock] at hk; omega
  · rcases hk with hk | hk
    · simp [Asn.row, Value.ownBlock] at hk; simp; omega
    · exact hk.elim
/-- append of elements that lie in other blocks. -/
theorem w_append (l s : Nat) {As : Asn} {ok2 : Nat → Prop} {A2 : Option Addr} {c2 : Nat} {e : TypeId} (hF : FrD ds nt a L) (hH : Hp B w0 w H) (hn : Nat.blt d nt = true) (ht : P.underlying t = some (.slice e)) (hT : TyI P e z E.n by' ag) (hz : z.cells.size = E.n)
    (hl : get H l = some (.row E e v xs ok)) (hs : get H s = some As) (hls : Nat.beq l s = false) (hr : Rd E w ok2 A2 ys c2) (ho : ∀ k, ok2 k → As.own k ∨ As.rd k)
    (hx : a.eval x = v) (hy : a.eval y = .slice A2 ys.length c2) (hle : (xs.length + ys.length) * by' ≤ 140737488355328) (hle' : xs.length + ys.length ≤ maxLen)
    (ok' : Nat → Prop) (hok : ∀ w' : World, ∀ v', Row E e w' (fun k => ok k ∨ ok2 k) v' (xs ++ ys) → Row E e w' ok' v' (xs ++ ys)) (hsub : ∀ k, ok' k → ok k ∨ As.rd k)
    (k' : ∀ a' w' v', FrD ds nt a' ((d, v') :: L) → Hp B w0 w' ((l, .row E e v' (xs ++ ys) ok') :: H) → K a' w') :
    Oper.wp P ⟨some d, .call ⟨.builtin .append, #[x, y], #[t, t]⟩, ty, pos, af, gg⟩ a w K Q := by
  have hne : l ≠ s := fun e => by subst e; rw [Nat.beq_refl] at hls; cases hls
  obtain ⟨v', w', hrun, hrow, hmod, hat⟩ := (hH.row l hl).append ht hT hz ty hr (fun k hk e => hH.self l _ hl k e hk) (fun k hk e => hH.sep l s _ _ hne hl hs k e (ho k hk)) hle hle'
  have hto : To P ⟨some d, .call ⟨.builtin .append, #[x, y], #[t, t]⟩, ty, pos, af, gg⟩ a w v' w' := by
    unfold To
    generalize a.eval = ρ at *
    simp only [execOp, resolve, invoke, builtin, Sem.run_bind, Sem.run_pure, Result.andThen_ok, List.map_toArray, List.map_cons, List.map_nil, hx, hy, hrun]
  have hrow' := hok w' v' hrow
  refine w_to hF hto rfl hn fun a' hF' => k' a' w' v' hF' ?_
  have hlt : ∀ k, v.ownBlock = some k → k < w.heap.size := fun k hk => (hH.row l hl).lt k hk
  refine hH.one hmod l _ (fun k hk => ⟨_, hl, hk⟩) hrow' (fun k hk => ?_) (fun k hk => ?_) (fun k hk => ?_) (fun k hk hk2 => ?_)
  · rcases hat with h | h
    · exact .inl ⟨_, hl, by simp only [Asn.row] at hk ⊢; rw [← h]; exact hk⟩
    · simp only [Asn.row] at hk; rw [h] at hk; cases hk; exact .inr (Nat.le_refl _)
  · rcases hsub k hk with h | h
    · exact .inr (.inl ⟨l, _, hl, h⟩)
    · exact .inr (.inl ⟨s, _, hs, h⟩)
  · rcases hk with hk | hk
    · exact hrow'.lt k hk
    · rcases hsub k hk with h | h
      · exact Nat.lt_of_lt_of_le (hH.inb l _ hl k (.inr h)) hmod.size
      · exact Nat.lt_of_lt_of_le (hH.inb s _ hs k (.inr h)) hmod.size
  · rcases hat with h | h
    · have hk3 : v.ownBlock = some k := h ▸ hk
      rcases hsub k hk2 with h2 | h2
      · exact hH.self l _ hl k hk3 h2
      · exact hH.sep l s _ _ hne hl hs k hk3 (.inr h2)
    · simp only [Asn.row] at hk; rw [h] at hk; cases hk
      rcases hsub _ hk2 with h2 | h2
      · exact Nat.lt_irrefl _ (hH.inb l _ hl _ (.inr h2))
      · exact Nat.lt_irrefl _ (hH.inb s _ hs _ (.inr h2))
theorem row_flat {enc : α → Value} {h1 : ∀ x, (enc x).oneCell' = true} {e : TypeId} {w' : World} {v' : Value} {zs : List α} {ok1 : Nat → Prop} (h : Row (Rep.flat enc h1) e w' ok1 v' zs) (ok' : Nat → Prop) : Row (Rep.flat enc h1) e w' ok' v' zs := by
  obtain ⟨cs, h2, h3⟩ := h
  exact ⟨cs, h2, elems_flat.2 (elems_flat.1 h3)⟩
end


/-! ### 9. Guards, calls, regions of any order -/
section
variable {P : Program} {o oi : Oper} {a : Act} {w w0 w' : World} {K : Act → World → Prop} {Q : Exit → Act → World → Prop} {n d i : Nat} {L : List (Nat × Value)} {v u : Value} {ops : Array Oper} {rest : List Oper} {B : Nat → Prop} {H HS : List (Nat × Asn)}
theorem wpList_on (hw : Region.wanted o (yielded ops a.tmps) = true) (h : ∀ K : Act → World → Prop, (∀ a w, wpList P ops Q rest a w → K a w) → o.wp P a w K Q) : wpList P ops Q (o :: rest) a w :=
  wpList_step fun K hK => by rw [if_pos hw]; exact h K hK
theorem l_atg (hF : FrD ds n a L) (hw : Region.wanted o (yielded ops a.tmps) = true) (hd : o.dst = some d) (hn : Nat.blt d n = true) (h : At P o a w v) (k : ∀ a', FrD ds n a' ((d, v) :: L) → wpList P ops Q rest a' w) : wpList P ops Q (o :: rest) a w :=
  wpList_on hw fun K hK => w_at hF h hd hn fun a' hF' => hK _ _ (k a' hF')
theorem l_offg (hF : FrD ds n a L) (hw : Region.wanted o (yielded ops a.tmps) = false) (hd : o.dst = some d) (hn : Nat.blt d n = true) (k : ∀ a', FrD ds n a' ((d, undef) :: L) → wpList P ops Q rest a' w) : wpList P ops Q (o :: rest) a w := by
  refine wpList_step fun K hK => ?_
  rw [if_neg (by rw [hw]; simp), hd]
  exact hK _ _ (k _ (hF.put d undef hn))
/-- Which way a test goes. -/
theorem split_bool {G : Prop} (hF : FrD ds n a L) (gd : Nat) {b : Bool} (hv : get L gd = some (.bool b)) (ht : b = true → G) (hf : b = false → G) : G := by
  cases b
  · exact hf rfl
  · exact ht rfl
theorem x_pickT {dst : Option Tmp} {ty : TypeId} {pos : String} {af : Array Edge} {g : Option (Nat × Bool)} {x y z : Operand} {b : Bool} (hx : a.eval x = .bool b) (hb : b = true) (hy : a.eval y = v) : At P ⟨dst, .pick x y z, ty, pos, af, g⟩ a w v := by
  subst hb; unfold At; generalize a.eval = ρ at *; simp [execOp, hx, hy, asBool, go_sem]
theorem x_pickF {dst : Option Tmp} {ty : TypeId} {pos : String} {af : Array Edge} {g : Option (Nat × Bool)} {x y z : Operand} {b : Bool} (hx : a.eval x = .bool b) (hb : b = false) (hz : a.eval z = v) : At P ⟨dst, .pick x y z, ty, pos, af, g⟩ a w v := by
  subst hb; unfold At; generalize a.eval = ρ at *; simp [execOp, hx, hz, asBool, go_sem]
theorem x_enter {dst : Option Tmp} {ty : TypeId} {pos : String} {af : Array Edge} {g : Option (Nat × Bool)} {f : FuncId} {fn : Func} {xs : Array Operand} {ats : Array TypeId} {vs : Array Value} (hf : P.funcs[f]? = some fn) (hn : (fn.name == "runtime.NumGoroutine") = false) (hb : fn.body.isNone = false)
    (ha : xs.map a.eval = vs) : (execOp a.eval ⟨dst, .call ⟨.value (.func f), xs, ats⟩, ty, pos, af, g⟩).run P w = .ok (.enter f vs) w := by
  subst ha
  have h0 : a.eval (.func f) = .func (.func f) #[] #[] := rfl
  have hn' : ¬ fn.name = "runtime.NumGoroutine" := by simpa using hn
  have hb' : ¬ fn.body = Option.none := by intro h; rw [h] at hb; simp at hb
  generalize a.eval = ρ at *
  simp [execOp, resolve, Deferred.ofValue, h0, invoke, callFunc, hf, hn', hb', go_sem]

/-- What the loads of a region see. -/
def SL (HS : List (Nat × Asn)) (w : World) : Prop := ∀ l A, get HS l = some A → A.holds w
theorem SL.of (hH : Hp B w0 w H) (hs : ∀ i A, get HS i = some A → get H i = some A) : SL HS w := fun l A h => hH.holds l A (hs l A h)
theorem r_start {id : Nat} (HS : List (Nat × Asn)) (hm : P.follows .mixedOrders = true) (hH : Hp B w0 w H) (h : Hp B w0 w.drew H → wpAnyH P .any ops Q (SL HS) ops.size (Array.replicate ops.size false) a w.drew) : (Code.region id ops true).wp P Q a w :=
  wp_region_held hm (h hH.drew)
theorem SL.rd {α : Type} {E : Rep α} {A : Option Addr} {xs : List α} {c : Nat} {ok : Nat → Prop} (h : SL HS w) (l : Nat) (hl : get HS l = some (.rd_ E A xs c ok)) : Rd E w ok A xs c := h l _ hl
theorem SL.row {α : Type} {E : Rep α} {T : TypeId} {xs : List α} {ok : Nat → Prop} (h : SL HS w) (l : Nat) (hl : get HS l = some (.row E T v xs ok)) : Row E T w ok v xs := h l _ hl
theorem SL.at_ {b : Nat} {ob : Obj} (h : SL HS w) (l : Nat) (hl : get HS l = some (.blk b ob)) : w.heap[b]? = some ob := h l _ hl
variable {fuel : Nat} {listed listed' : Array Bool}
theorem r_take (i : Nat) (hF : FrD ds n a L) (hi : ops[i]? = some oi) (hd : oi.dst = some d) (hn : Nat.blt d n = true) (hs : Region.noSelect ops = true) (hf : Region.free .any ops listed i = true) (hr : (Region.ready .any ops listed).contains i = true)
    (hQ : ∀ c a w, Q (.panic c) (a.put oi.dst v) w → Q (.panic c) a w) (hw : Region.wanted oi (yielded ops a.tmps) = true) (hS : SL HS w) (hy : ∀ w, SL HS w → At P oi a w v) (hl : listed.setIfInBounds i true = listed')
    (k : ∀ a', FrD ds n a' ((d, v) :: L) → wpAnyH P .any ops Q (SL HS) fuel listed' a' w) : wpAnyH P .any ops Q (SL HS) (fuel + 1) listed a w := by
  subst hl
  exact wpAnyH_take hi hs hf hr hQ (.inl ⟨hw, fun w hw => hy w hw⟩) hS (k _ (by rw [hd]; exact hF.put d v hn))
theorem r_off (i : Nat) (hF : FrD ds n a L) (hi : ops[i]? = some oi) (hd : oi.dst = some d) (hn : Nat.blt d n = true) (hs : Region.noSelect ops = true) (hf : Region.free .any ops listed i = true) (hr : (Region.ready .any ops listed).contains i = true)
    (hQ : ∀ c a w, Q (.panic c) (a.put oi.dst undef) w → Q (.panic c) a w) (hw : Region.wanted oi (yielded ops a.tmps) = false) (hS : SL HS w) (hl : listed.setIfInBounds i true = listed')
    (k : ∀ a', FrD ds n a' ((d, undef) :: L) → wpAnyH P .any ops Q (SL HS) fuel listed' a' w) : wpAnyH P .any ops Q (SL HS) (fuel + 1) listed a w := by
  subst hl
  exact wpAnyH_take hi hs hf hr hQ (.inr ⟨hw, rfl⟩) hS (k _ (by rw [hd]; exact hF.put d undef hn))
theorem r_do (i : Nat) (hi : ops[i]? = some oi) (hr : Region.ready .any ops listed = [i]) (hw : Region.wanted oi (yielded ops a.tmps) = true) (hl : listed.setIfInBounds i true = listed')
    (h : oi.wp P a w (fun a' w' => SL HS w' ∧ wpAnyH P .any ops Q (SL HS) fuel listed' a' w') Q) : wpAnyH P .any ops Q (SL HS) (fuel + 1) listed a w := by
  subst hl
  refine wpAnyH_all hr (by simp) fun j hj => ?_
  simp at hj
  subst hj
  unfold wpOp
  simp only [hi, hw, if_true]
  exact .inl h
theorem r_do2 (i j : Nat) {oj : Oper} {li lj : Array Bool} (hi : ops[i]? = some oi) (hj : ops[j]? = some oj) (hr : Region.ready .any ops listed = [i, j]) (hw : Region.wanted oi (yielded ops a.tmps) = true) (hwj : Region.wanted oj (yielded ops a.tmps) = true) (hl : listed.setIfInBounds i true = li) (hlj : listed.setIfInBounds j true = lj)
    (h : oi.wp P a w (fun a' w' => SL HS w' ∧ wpAnyH P .any ops Q (SL HS) fuel li a' w') Q) (h2 : oj.wp P a w (fun a' w' => SL HS w' ∧ wpAnyH P .any ops Q (SL HS) fuel lj a' w') Q) : wpAnyH P .any ops Q (SL HS) (fuel + 1) listed a w := by
  subst hl hlj
  refine wpAnyH_all hr (by simp) fun m hm => ?_
  simp at hm
  rcases hm with rfl | rfl
  · unfold wpOp
    simp only [hi, hw, if_true]
    exact .inl h
  · unfold wpOp
    simp only [hj, hwj, if_true]
    exact .inl h2
theorem r_end (hr : Region.ready .any ops listed = []) (h : Q .normal a w) : wpAnyH P .any ops Q (SL HS) fuel listed a w := wpAnyH_done hr h fuel
end
section
variable {B : Nat → Prop} {w0 w w' : World} {H : List (Nat × Asn)} {α : Type} {E : Rep α} {T : TypeId} {v : Value} {xs : List α} {ok : Nat → Prop}
/-- A row that a call has made. -/
theorem Hp.newRow (h : Hp B w0 w H) (l : Nat) (hm : Mods (fun _ => False) w w') (hr : Row E T w' ok v xs) (hf : ∀ k, v.ownBlock = some k → w.heap.size ≤ k) (ho : ∀ k, ok k → w.heap.size ≤ k ∧ k < w'.heap.size ∧ v.ownBlock ≠ some k) : Hp B w0 w' ((l, .row E T v xs ok) :: H) :=
  h.one hm l _ (fun k hk => hk.elim) hr (fun k hk => .inr (hf k hk)) (fun k hk => .inr (.inr (ho k hk).1)) (fun k hk => hk.elim (fun hk => hr.lt k hk) (fun hk => (ho k hk).2.1)) (fun k hk hk2 => (ho k hk2).2.2 hk)
end


/-! ### 10. Elements, fields -/
/-- An element of a list of numbers. -/
def gi (xs : List Int) (i : Int) : Int := xs.getD i.toNat 0
theorem gi_some {xs : List Int} {i : Int} (h0 : 0 ≤ i) (h1 : i < xs.length) : xs[i.toNat]? = some (gi xs i) := by
  have h : i.toNat < xs.length := by omega
  simp [gi, List.getElem?_eq_getElem h, List.getD_eq_getElem?_getD]
section
variable {P : Program} {a : Act} {w : World} {dst : Option Tmp} {ty : TypeId} {pos : String} {af : Array Edge} {g : Option (Nat × Bool)} {x y : Operand} {v z : Value} {t : TypeId} {n by' : Nat} {ag : Bool} {α : Type} {E : Rep α} {xs : List α} {A : Option Addr} {c : Nat} {ok : Nat → Prop}
def adr (A : Option Addr) (k : Nat) : Addr := (A.getD ⟨0, 0, Option.none⟩).add k
theorem x_iaddr_A {k : IntKind} {i : Int} {e : TypeId} (ht : P.underlying t = some (.slice e)) (h : TyI P e z n by' ag) (hr : Rd E w ok A xs c) (hx : a.eval x = .slice A xs.length c) (hy : a.eval y = .int k i) (h0 : 0 ≤ i) (h1 : i < xs.length) (w2 : World) :
    At P ⟨dst, .indexAddr t x y, ty, pos, af, g⟩ a w2 (.pointer (some (adr A (i.toNat * n)))) := by
  obtain ⟨b, off, rfl⟩ := hr.some_ (by omega)
  exact x_iaddr_sl ht h hx hy h0 h1
theorem Rd.cellA {enc : α → Value} {h1 : ∀ x, (enc x).oneCell' = true} (hr : Rd (Rep.flat enc h1) w ok A xs c) {i : Nat} {x' : α} (hx' : xs[i]? = some x') : w.cell? (adr A (i * 1)) = some (enc x') := by
  obtain ⟨b, off, cs, rfl, hR, hc⟩ := hr.at_ hx'
  have := hc 0 (enc x') (by rw [show cs = [enc x'] from hR]; rfl)
  simp only [adr, Option.getD_some]
  rw [add_off]
  simpa [Rep.flat] using this
theorem Rd.cellsA (hr : Rd E w ok A xs c) (hn : E.n = n) {i : Nat} {x' : α} (hx' : xs[i]? = some x') : ∃ cs, E.R w ok x' cs ∧ ∀ j u, cs.toArray.toList[j]? = some u → w.cell? ((adr A (i * n)).add j) = some u := by
  subst hn
  obtain ⟨b, off, cs, rfl, hR, hc⟩ := hr.at_ hx'
  refine ⟨cs, hR, fun j u hj => ?_⟩
  simp only [adr, Option.getD_some]
  rw [add_off, add_off]
  exact hc j u (by simpa using hj)
end
theorem blk_cell {w : World} {b : Nat} {cs : Array Value} {T : TypeId} {fz : Nat × Nat} (h : w.heap[b]? = some (.cells cs T fz)) (j : Nat) {v : Value} (hj : cs[j]? = some v) : w.cell? ⟨b, j, Option.none⟩ = some v := by
  rw [cell_of_row w b j cs T fz h, hj]
theorem blk_whole {w : World} {b : Nat} {cs : Array Value} {T : TypeId} {fz : Nat × Nat} (h : w.heap[b]? = some (.cells cs T fz)) : ∀ j u, cs.toList[j]? = some u → w.cell? ((⟨b, 0, Option.none⟩ : Addr).add j) = some u := by
  intro j u hj
  rw [add_off, Nat.zero_add, cell_of_row w b j cs T fz h]
  simpa using hj
theorem spl_all (cur cs : Array Value) (h : cs.size = cur.size) : spl cur 0 cs = cs := by
  apply Array.ext'
  simp only [spl, List.toList_toArray, List.take_zero, List.nil_append, Nat.zero_add]
  rw [List.drop_of_length_le (by simp [h])]
  simp
section
variable {P : Program} {a : Act} {w w0 : World} {K : Act → World → Prop} {Q : Exit → Act → World → Prop} {v z : Value} {B : Nat → Prop} {H : List (Nat × Asn)} {ty : TypeId} {pos : String} {af : Array Edge} {x y : Operand} {t : TypeId} {n by' : Nat} {ag : Bool} {gg : Option (Nat × Bool)}
/-- A whole variable is written. -/
theorem w_storeA (l : Nat) {b : Nat} {cur : Array Value} {T : TypeId} (hH : Hp B w0 w H) (h : TyI P t z n by' ag) (hl : get H l = some (.blk b (.cells cur T (0, 0)))) (hx : a.eval x = .pointer (some ⟨b, 0, Option.none⟩)) (hy : a.eval y = v)
    (hv : v.cells.size = n) (h1 : ∀ u ∈ v.cells.toList, u.oneCell' = true) (hle : n = cur.size)
    (k : ∀ w', Hp B w0 w' ((l, .blk b (.cells v.cells T (0, 0))) :: H) → K a w') : Oper.wp P ⟨Option.none, .store t x y, ty, pos, af, gg⟩ a w K Q := by
  refine w_store l hH h hl hx hy hv h1 (by omega) fun w' hH' => k w' ?_
  rw [spl_all cur v.cells (by omega)] at hH'
  exact hH'
end


/-! ### 11. Cuts, marks, least and greatest -/
section
variable {P : Program} {a : Act} {w w0 : World} {K : Act → World → Prop} {Q : Exit → Act → World → Prop} {v z : Value} {B : Nat → Prop} {H : List (Nat × Asn)} {dst : Option Tmp} {ty : TypeId} {pos : String} {af : Array Edge} {x y : Operand} {t : TypeId} {n d : Nat} {by' : Nat} {ag : Bool} {gg : Option (Nat × Bool)} {α : Type} {E : Rep α} {xs : List α} {A : Option Addr} {c : Nat} {ok : Nat → Prop} {L : List (Nat × Value)} {e : TypeId}
theorem Elems.take {cs : List Value} (h : Elems E w ok xs cs) (m : Nat) : Elems E w ok (xs.take m) (cs.take (m * E.n)) := by
  by_cases hm : m ≤ xs.length
  · refine ⟨by rw [List.length_take, List.length_take, h.1, Nat.min_eq_left (Nat.mul_le_mul_right _ hm), Nat.min_eq_left hm], fun i y hy => ?_⟩
    rw [List.getElem?_take] at hy
    split at hy
    · rename_i hi
      have := h.2 i y hy
      rw [List.drop_take, List.take_take]
      have hle : E.n ≤ m * E.n - i * E.n := by rw [← Nat.sub_mul]; exact Nat.le_mul_of_pos_left _ (by omega)
      rw [Nat.min_eq_left hle]
      exact this
    · cases hy
  · have h1 : xs.length ≤ m := by omega
    rw [List.take_of_length_le h1, List.take_of_length_le (by rw [h.1]; exact Nat.mul_le_mul_right _ h1)]
    exact h
theorem Elems.drop {cs : List Value} (h : Elems E w ok xs cs) (m : Nat) : Elems E w ok (xs.drop m) (cs.drop (m * E.n)) := by
  refine ⟨by rw [List.length_drop, List.length_drop, h.1, Nat.sub_mul], fun i y hy => ?_⟩
  rw [List.getElem?_drop] at hy
  have := h.2 (m + i) y hy
  rw [List.drop_drop, ← Nat.add_mul]
  exact this
theorem Rd.take (h : Rd E w ok A xs c) (m : Nat) : Rd E w ok A (xs.take m) c := by
  refine ⟨Nat.le_trans (by rw [List.length_take]; exact Nat.min_le_right _ _) h.1, h.2.1, fun h0 => ?_⟩
  have h1 : 0 < xs.length := by rw [List.length_take] at h0; omega
  obtain ⟨b, off, arr, T, fz, rfl, hb, hh, cs, hc, he⟩ := h.2.2 h1
  exact ⟨b, off, arr, T, fz, rfl, hb, hh, _, fun j u hj => hc j u (by rw [List.getElem?_take] at hj; split at hj; exact hj; cases hj), he.take m⟩
theorem Rd.cap (h : Rd E w ok A xs c) {c' : Nat} (h1 : xs.length ≤ c') (h2 : c' ≤ c) : Rd E w ok A xs c' := ⟨h1, Nat.le_trans h2 h.2.1, h.2.2⟩
/-- Where 'xs[m:]' begins. -/
def dropA (A : Option Addr) (c m k : Nat) : Option Addr := if c = m then A else A.map (·.add (m * k))
theorem Rd.drop (h : Rd E w ok A xs c) {m : Nat} (hm : m ≤ xs.length) : Rd E w ok (dropA A c m E.n) (xs.drop m) (c - m) := by
  refine ⟨by rw [List.length_drop]; have := h.1; omega, Nat.le_trans (Nat.sub_le _ _) h.2.1, fun h0 => ?_⟩
  have h1 : 0 < xs.length := by rw [List.length_drop] at h0; omega
  have hlt : m < xs.length := by rw [List.length_drop] at h0; omega
  have hc' : c ≠ m := by have := h.1; omega
  obtain ⟨b, off, arr, T, fz, rfl, hb, hh, cs, hc, he⟩ := h.2.2 h1
  refine ⟨b, off + m * E.n, arr, T, fz, ?_, hb, hh, _, fun j u hj => ?_, he.drop m⟩
  · simp only [dropA, if_neg hc', Option.map_some]
    rw [add_off]
  · rw [List.getElem?_drop] at hj
    rw [Nat.add_assoc]
    exact hc _ u hj
theorem x_slice_h {k : IntKind} {m : Int} (ht : P.underlying t = some (.slice e)) (h : TyI P e z n by' ag) (hx : a.eval x = .slice A xs.length c) (hy : a.eval y = .int k m) (h0 : 0 ≤ m) (h1 : m ≤ xs.length) (hc : xs.length ≤ c) :
    At P ⟨dst, .slice t x Option.none (some y) Option.none, ty, pos, af, gg⟩ a w (.slice A (xs.take m.toNat).length c) := by
  unfold At; generalize a.eval = ρ at *
  have hl : (xs.take m.toNat).length = m.toNat := by rw [List.length_take]; omega
  have hm : m ≤ (c : Int) := by omega
  have hA : A.map (fun x => x.add (0 * n)) = A := by cases A <;> simp [Addr.add]
  simp [execOp, Instr.sliceAt, Instr.slice, Instr.sliceBounds, Instr.sliceBound, asIntOf, hx, hy, run_underlying ht, h.size, h0, hm, hl, go_sem] 
  all_goals (try (cases A <;> simp [Addr.add]))
theorem x_slice_l {k : IntKind} {m : Int} (ht : P.underlying t = some (.slice e)) (h : TyI P e z E.n by' ag) (hx : a.eval x = .slice A xs.length c) (hy : a.eval y = .int k m) (h0 : 0 ≤ m) (h1 : m ≤ xs.length) (hc : xs.length ≤ c) :
    At P ⟨dst, .slice t x (some y) Option.none Option.none, ty, pos, af, gg⟩ a w (.slice (dropA A c m.toNat E.n) (xs.drop m.toNat).length (c - m.toNat)) := by
  unfold At; generalize a.eval = ρ at *
  have hl : (xs.drop m.toNat).length = xs.length - m.toNat := List.length_drop
  simp [execOp, Instr.sliceAt, Instr.slice, Instr.sliceBounds, Instr.sliceBound, asIntOf, hx, hy, run_underlying ht, h.size, h0, h1, hl, dropA, go_sem]
theorem x_slice_lh {k k' : IntKind} {m q : Int} (ht : P.underlying t = some (.slice e)) (h : TyI P e z E.n by' ag) {lo : Operand} (hx : a.eval x = .slice A xs.length c) (hl' : a.eval lo = .int k m) (hy : a.eval y = .int k' q) (h0 : 0 ≤ m) (h01 : m ≤ q) (h1 : q ≤ xs.length) (hc : xs.length ≤ c) :
    At P ⟨dst, .slice t x (some lo) (some y) Option.none, ty, pos, af, gg⟩ a w (.slice (dropA A c m.toNat E.n) ((xs.take q.toNat).drop m.toNat).length (c - m.toNat)) := by
  unfold At; generalize a.eval = ρ at *
  have hl : ((xs.take q.toNat).drop m.toNat).length = q.toNat - m.toNat := by rw [List.length_drop, List.length_take]; omega
  have hq : q ≤ (c : Int) := by omega
  have hq0 : 0 ≤ q := by omega
  have hmq : m ≤ ((q.toNat : Nat) : Int) := by omega
  simp [execOp, Instr.sliceAt, Instr.slice, Instr.sliceBounds, Instr.sliceBound, asIntOf, hx, hy, hl', run_underlying ht, h.size, h0, hq, hq0, hmq, hl, dropA, go_sem]
  intro hlt
  omega
end


def mn (x y : Int) : Int := if y < x then y else x
def mx (x y : Int) : Int := if x < y then y else x
section
variable {P : Program} {a : Act} {w w0 : World} {K : Act → World → Prop} {Q : Exit → Act → World → Prop} {B : Nat → Prop} {H : List (Nat × Asn)} {dst : Option Tmp} {ty : TypeId} {pos : String} {af : Array Edge} {x y z : Operand} {t : TypeId} {n d : Nat} {gg : Option (Nat × Bool)} {L : List (Nat × Value)} {k k' : IntKind} {p q r : Int} {ats : Array TypeId}
theorem x_min2 (hx : a.eval x = .int k p) (hy : a.eval y = .int k' q) : At P ⟨dst, .call ⟨.builtin .min, #[x, y], ats⟩, ty, pos, af, gg⟩ a w (.int k (mn p q)) := by
  unfold At; generalize a.eval = ρ at *; simp [execOp, resolve, invoke, builtin, hx, hy, Builtin.min_, Builtin.min2, mn, go_sem]
theorem x_min3 (hx : a.eval x = .int k p) (hy : a.eval y = .int k q) (hz : a.eval z = .int k r) : At P ⟨dst, .call ⟨.builtin .min, #[x, y, z], ats⟩, ty, pos, af, gg⟩ a w (.int k (mn (mn p q) r)) := by
  unfold At; generalize a.eval = ρ at *; simp [execOp, resolve, invoke, builtin, hx, hy, hz, Builtin.min_, Builtin.min2, mn, go_sem]; rfl
theorem x_max2 (hx : a.eval x = .int k p) (hy : a.eval y = .int k' q) : At P ⟨dst, .call ⟨.builtin .max, #[x, y], ats⟩, ty, pos, af, gg⟩ a w (.int k (mx p q)) := by
  unfold At; generalize a.eval = ρ at *; simp [execOp, resolve, invoke, builtin, hx, hy, Builtin.max_, Builtin.max2, mx, go_sem]
/-- []byte of a constant text: the row is marked; it is only read from now on. -/
theorem w_mark (l : Nat) {e : TypeId} {b m c : Nat} {xs : List Int} {ok : Nat → Prop} (hF : FrD ds n a L) (hH : Hp B w0 w H) (hn : Nat.blt d n = true) (ht : P.underlying t = some (.slice e)) (he : P.underlying e = some (.int .u8))
    (hl : get H l = some (.row (.int .u8) e (.slice (some ⟨b, 0, Option.none⟩) m c) xs ok)) (hx : a.eval x = .slice (some ⟨b, 0, Option.none⟩) m c)
    (k' : ∀ a' w', FrD ds n a' ((d, .slice (some ⟨b, 0, Option.none⟩) m c) :: L) → Hp B w0 w' ((l, .rd_ (.int .u8) (some ⟨b, 0, Option.none⟩) xs c (fun i => i = b)) :: H) → K a' w') :
    Oper.wp P ⟨some d, .convert t t x, ty, pos, af, gg⟩ a w K Q := by
  obtain ⟨cs, ho, hel⟩ := hH.row l hl
  rcases ho.2 with ⟨h3, _⟩ | ⟨g, cap, cur, h3, _, hh, h4, h5, h6, h7⟩
  · simp at h3
  · simp only [Value.slice.injEq, Option.some.injEq, Addr.mk.injEq, and_true] at h3
    obtain ⟨hb1, hm1, hc1⟩ := h3
    subst hb1 hc1
    have hsh : w.shape? b = some (e, cur.size) := by simp [World.shape?, hh]
    have hfz : (w.freeze ⟨b, cur.size, Option.none⟩ 1).heap[b]? = some (.cells cur e (cur.size, cur.size + 1)) := by
      unfold World.freeze
      rw [if_neg (by decide)]
      simp only [Array.getElem?_modify, if_true, hh, Option.map_some]
      simp
    have hmods : Mods (fun k => k = b) w (w.freeze ⟨b, cur.size, Option.none⟩ 1) := by
      unfold World.freeze
      rw [if_neg (by decide)]
      refine ⟨rfl, rfl, rfl, by simp, fun k hk hne => ?_⟩
      simp only [Array.getElem?_modify]
      rw [if_neg (fun e => hne e.symm)]
    have hto : To P ⟨some d, .convert t t x, ty, pos, af, gg⟩ a w (.slice (some ⟨b, 0, Option.none⟩) m c) (w.freeze ⟨b, cur.size, Option.none⟩ 1) := by
      unfold To
      generalize a.eval = ρ at *
      simp [execOp, hx, convert, run_underlying ht, run_underlying he, markStringish, hsh, go_sem]
    refine w_to hF hto rfl hn fun a' hF' => k' a' _ hF' ?_
    refine hH.one hmods l _ (fun k hk => ⟨_, hl, by simp [Asn.row, Value.ownBlock, hk]⟩) ?_ (fun k hk => hk.elim) (fun k hk => ?_) (fun k hk => ?_) (fun k hk => hk.elim)
    · refine ⟨by rw [hm1] at *; omega, h5, fun _ => ⟨b, 0, cur, e, _, rfl, rfl, hfz, cs, fun j u hj => ?_, elems_flat.2 (elems_flat.1 hel)⟩⟩
      rw [Nat.zero_add]
      rw [← h7, List.getElem?_take] at hj
      split at hj
      · simpa using hj
      · cases hj
    · exact .inl ⟨_, hl, by simp only [Asn.rd_] at hk; simp [Asn.row, Value.ownBlock, hk]⟩
    · rcases hk with hk | hk
      · exact hk.elim
      · simp only [Asn.rd_] at hk
        have := hH.inb l _ hl k (.inl (by simp [Asn.row, Value.ownBlock, hk]))
        exact Nat.lt_of_lt_of_le this hmods.size
end


/-! ### 12. Texts -/
section
variable {P : Program} {a : Act} {w w0 : World} {K : Act → World → Prop} {Q : Exit → Act → World → Prop} {B : Nat → Prop} {H : List (Nat × Asn)} {dst : Option Tmp} {ty : TypeId} {pos : String} {af : Array Edge} {x y z : Operand} {t t' e : TypeId} {n d : Nat} {gg : Option (Nat × Bool)} {L : List (Nat × Value)} {A : Option Addr} {xs : List Int} {c : Nat} {ok : Nat → Prop}
theorem run_b2s (ht : P.underlying t = some (.slice e)) (he : P.underlying e = some (.int .u8)) (hd : P.underlying t' = some .string) (hr : Rd (.int .u8) w ok A xs c) : (convert t t' (.slice A xs.length c)).run P w = .ok (.string (strOfNums xs)) w := by
  obtain ⟨cs, hel, hA⟩ := hr.cells
  rcases hA with ⟨rfl, rfl⟩ | ⟨ad, rfl, hc⟩
  · rw [run_convert_bytes_nil w t e ht he _ _ t' hd]
    rfl
  · have hcs := elems_flat.1 hel
    have hl : (loadCells ad xs.length).run P w = .ok (xs.map (Value.int .u8)).toArray w := by
      have := run_loadCells_list (P := P) w ad cs hc
      rw [hcs] at this
      simpa using this
    rw [run_convert_bytes_string w t t' e _ _ c ht he hd, run_bytesToString w ad xs.length c xs hl, foldl_push_bytes]
    simp [strOfNums, ByteArray.empty, ByteArray.emptyWithCapacity]
    rfl
/-- string(b) -/
theorem x_b2s (ht : P.underlying t = some (.slice e)) (he : P.underlying e = some (.int .u8)) (hd : P.underlying t' = some .string) (hr : Rd (.int .u8) w ok A xs c) (hx : a.eval x = .slice A xs.length c) : At P ⟨dst, .convert t t' x, ty, pos, af, gg⟩ a w (.string (strOfNums xs)) := by
  unfold At; generalize a.eval = ρ at *
  simp only [execOp, hx, Sem.run_bind, run_b2s ht he hd hr, Result.andThen_ok, Sem.run_pure]
theorem str_eq (p q : ByteArray) : (p.toList == q.toList) = decide (p = q) := by
  by_cases h : p = q
  · subst h; simp
  · have : p.toList ≠ q.toList := fun e => h (by
      rw [ByteArray.toList_eq, ByteArray.toList_eq] at e
      cases p; cases q
      simp only [Array.toList_inj] at e
      rw [e])
    simp [h, this]
theorem x_eqs {p q : ByteArray} (hx : a.eval x = .string p) (hy : a.eval y = .string q) : At P ⟨dst, .binOp .eql t x y t', ty, pos, af, gg⟩ a w (.bool (decide (p = q))) := by
  unfold At; generalize a.eval = ρ at *
  simp [execOp, hx, hy, binOp, Op.stringOp, go_sem]
  exact str_eq p q
theorem x_nes {p q : ByteArray} (hx : a.eval x = .string p) (hy : a.eval y = .string q) : At P ⟨dst, .binOp .neq t x y t', ty, pos, af, gg⟩ a w (.bool (!decide (p = q))) := by
  unfold At; generalize a.eval = ρ at *
  simp [execOp, hx, hy, binOp, Op.stringOp, go_sem]
  exact str_eq p q
/-- A literal of no elements: empty, and not nil. -/
theorem w_lit0 {α : Type} (E : Rep α) (l : Nat) {zz : Value} {by' : Nat} {ag : Bool} (hF : FrD ds n a L) (hH : Hp B w0 w H) (hn : Nat.blt d n = true) (ht : P.underlying t = some (.slice e)) (h : TyI P e zz E.n by' ag)
    (k' : ∀ a' w' b, FrD ds n a' ((d, .slice (some ⟨b, 0, Option.none⟩) 0 0) :: L) → Hp B w0 w' ((l, .row E e (.slice (some ⟨b, 0, Option.none⟩) 0 0) ([] : List α) (fun _ => False)) :: H) → K a' w') : Oper.wp P ⟨some d, .buildSlice t 0 #[], ty, pos, af, gg⟩ a w K Q := by
  have key : (Instr.buildSlice t 0 (Array.map (fun (p : Nat × Operand) => (p.1, a.eval p.2)) #[])).run P w = .ok (.slice (some ⟨w.heap.size, 0, Option.none⟩) 0 0) (w.alloc (.cells #[] e)) := by
    unfold Instr.buildSlice
    rw [Sem.run_bind, run_underlying ht]
    simp only [Result.andThen_ok]
    rw [Sem.run_bind, h.size]
    have h0 : Array.range 0 = #[] := rfl
    simp [Instr.fill, newRow, newObj, Sem.run, h0]
    try rfl
  have hto : To P ⟨some d, .buildSlice t 0 #[], ty, pos, af, gg⟩ a w (.slice (some ⟨w.heap.size, 0, Option.none⟩) 0 0) (w.alloc (.cells #[] e)) := by
    unfold To
    simp only [execOp, Sem.run_bind, key, Result.andThen_ok, Sem.run_pure]
  refine w_to hF hto rfl hn fun a' hF' => k' a' _ _ hF' ?_
  refine hH.one (Mods.alloc (fun _ => False) w _) l _ (fun k hk => hk.elim) ⟨[], ?_, Elems.nil _ _ _⟩ (fun k hk => .inr ?_) (fun k hk => hk.elim) (fun k hk => ?_) (fun k _ hk => hk)
  · have := World.ownsRow_lit (base := 0) (e := e) (size := E.n) w #[] 0 (Nat.zero_le _) (by simp [maxLen]) (by simp)
    simpa using this
  · simp [Asn.row, Value.ownBlock] at hk; omega
  · rcases hk with hk | hk
    · simp [Asn.row, Value.ownBlock] at hk; simp; omega
    · exact hk.elim
end


/-! ### 13. Data of several cells, slices of slices -/
def Rep.pair {α β : Type} (a : Rep α) (b : Rep β) : Rep (α × β) where
  n := a.n + b.n
  pos := Nat.add_pos_left a.pos _
  R := fun w ok x cs => ∃ c d, cs = c ++ d ∧ a.R w ok x.1 c ∧ b.R w ok x.2 d
  len := by rintro w ok x cs ⟨c, d, rfl, h1, h2⟩; rw [List.length_append, a.len h1, b.len h2]
  one := by
    rintro w ok x cs ⟨c, d, rfl, h1, h2⟩ u hu
    rcases List.mem_append.1 hu with h | h
    · exact a.one h1 u h
    · exact b.one h2 u h
  move := by rintro w w' ok ok' x cs hw ho ⟨c, d, rfl, h1, h2⟩; exact ⟨c, d, rfl, a.move hw ho h1, b.move hw ho h2⟩
def Rep.iso {α β : Type} (a : Rep α) (f : β → α) : Rep β where
  n := a.n
  pos := a.pos
  R := fun w ok x cs => a.R w ok (f x) cs
  len := a.len
  one := a.one
  move := a.move
def Rep.slice {α : Type} (E : Rep α) : Rep (List α) where
  n := 1
  pos := by decide
  R := fun w ok xs cs => ∃ A c, cs = [.slice A xs.length c] ∧ Rd E w ok A xs c
  len := by rintro w ok x cs ⟨A, c, rfl, _⟩; rfl
  one := by rintro w ok x cs ⟨A, c, rfl, _⟩ u hu; simp at hu; subst hu; rfl
  move := by rintro w w' ok ok' x cs hw ho ⟨A, c, rfl, h⟩; exact ⟨A, c, rfl, h.move hw ho⟩


/-! ### 14. Pointers, arrays and structs as values, make -/
section
variable {P : Program} {a : Act} {w w0 w' : World} {K : Act → World → Prop} {Q : Exit → Act → World → Prop} {v z : Value} {B : Nat → Prop} {H : List (Nat × Asn)} {dst : Option Tmp} {ty : TypeId} {pos : String} {af : Array Edge} {x y : Operand} {t : TypeId} {n d : Nat} {by' : Nat} {ag : Bool} {gg : Option (Nat × Bool)} {α : Type} {E : Rep α} {xs : List α} {A : Option Addr} {c : Nat} {ok : Nat → Prop} {L : List (Nat × Value)} {e : TypeId}
theorem x_nil {ad : Addr} (hx : a.eval x = .pointer (some ad)) : At P ⟨dst, .nilCheck x, ty, pos, af, gg⟩ a w (.pointer (some ad)) := by
  unfold At; generalize a.eval = ρ at *; simp [execOp, hx, go_sem]
theorem x_buildA {m : Nat} {parts : Array (Nat × Operand)} {ρs : Array (Nat × Value)} {z' : Value} {n' b' : Nat} {ag' : Bool} {cells : Array Value} (ht : P.underlying t = some (.array m e)) (h : TyI P t z n by' ag) (h' : TyI P e z' n' b' ag')
    (hp : parts.map (fun p => (p.1, a.eval p.2)) = ρs) (hf : Instr.fill (fun i => some (i * n', n')) z.cells ρs.toList = some cells) : At P ⟨dst, .build t parts, ty, pos, af, gg⟩ a w (.agg cells) := by
  subst hp
  unfold At
  generalize a.eval = ρ at *
  have key : (Instr.build t (parts.map fun (p : Nat × Operand) => (p.1, ρ p.2))).run P w = .ok (.agg cells) w := by
    unfold Instr.build
    simp only [Sem.run_bind, h.zero, Result.andThen_ok, run_underlying ht, h'.size, hf, Sem.run_pure]
  simp only [execOp, Sem.run_bind, key, Result.andThen_ok, Sem.run_pure]
theorem x_buildS {fs : Array Field} {places : Array (Nat × Nat)} {parts : Array (Nat × Operand)} {ρs : Array (Nat × Value)} {cells : Array Value} (ht : P.underlying t = some (.struct fs)) (h : TyI P t z n by' ag)
    (hpl : (fs.mapM fun f => (do pure (f.offset, ← sizeOf f.type) : Sem (Nat × Nat))).run P w = .ok places w)
    (hp : parts.map (fun p => (p.1, a.eval p.2)) = ρs) (hf : Instr.fill (places[·]?) z.cells ρs.toList = some cells) : At P ⟨dst, .build t parts, ty, pos, af, gg⟩ a w (.agg cells) := by
  subst hp
  unfold At
  generalize a.eval = ρ at *
  have key : (Instr.build t (parts.map fun (p : Nat × Operand) => (p.1, ρ p.2))).run P w = .ok (.agg cells) w := by
    unfold Instr.build
    simp only [Sem.run_bind, h.zero, Result.andThen_ok, run_underlying ht, hpl, hf, Sem.run_pure]
  simp only [execOp, Sem.run_bind, key, Result.andThen_ok, Sem.run_pure]
/-- A call hands back a new block. -/
theorem Hp.fresh (h : Hp B w0 w H) (l : Nat) {b : Nat} {o : Obj} (hm : Mods (fun _ => False) w w') (hb : w'.heap[b]? = some o) (hs : w.heap.size ≤ b) : Hp B w0 w' ((l, .blk b o) :: H) :=
  h.one hm l _ (fun k hk => hk.elim) hb (fun k hk => .inr (by simp only [Asn.blk] at hk; omega)) (fun k hk => hk.elim)
    (fun k hk => by rcases hk with hk | hk; (· simp only [Asn.blk] at hk; subst hk; exact (Array.getElem?_eq_some_iff.1 hb).1); (· exact hk.elim)) (fun k _ hk => hk)
/-- A block of cells, read as a slice. -/
theorem rd_of_blk {enc : α → Value} {h1 : ∀ x, (enc x).oneCell' = true} {b : Nat} {T : TypeId} {fz : Nat × Nat} {cs : Array Value} (h : w.heap[b]? = some (.cells cs T fz)) (hc : cs.toList = xs.map enc) (hm : xs.length ≤ maxLen) : Rd (Rep.flat enc h1) w (fun k => k = b) (some ⟨b, 0, Option.none⟩) xs xs.length :=
  ⟨Nat.le_refl _, hm, fun _ => ⟨b, 0, cs, T, fz, rfl, rfl, h, cs.toList, fun j u hj => by rw [Nat.zero_add]; simpa using hj, elems_flat.2 hc⟩⟩
theorem rd_cell0 {enc : α → Value} {h1 : ∀ x, (enc x).oneCell' = true} {b : Nat} (hr : Rd (Rep.flat enc h1) w ok (some ⟨b, 0, Option.none⟩) xs c) {i : Nat} {x' : α} (hx : xs[i]? = some x') : w.cell? ⟨b, 0 + i * 1, Option.none⟩ = some (enc x') := by
  have := hr.cellA hx
  unfold adr at this
  rw [Option.getD_some, add_off] at this
  exact this
/-- make of n noughts. -/
theorem w_make (l : Nat) {enc : α → Value} {h1 : ∀ x, (enc x).oneCell' = true} {kl kc : IntKind} {m : Nat} (u : α) (hF : FrD ds n a L) (hH : Hp B w0 w H) (hn : Nat.blt d n = true) (ht : P.underlying t = some (.slice e)) (h : TyI P e z 1 by' ag) (hz : z = enc u)
    (hx : a.eval x = .int kl (m : Int)) (hy : a.eval y = .int kc (m : Int)) (hb : by' * m ≤ 281474976710656) (hm : m ≤ maxLen)
    (k' : ∀ a' w' b, FrD ds n a' ((d, .slice (some ⟨b, 0, Option.none⟩) (List.replicate m u).length m) :: L) → Hp B w0 w' ((l, .row (Rep.flat enc h1) e (.slice (some ⟨b, 0, Option.none⟩) (List.replicate m u).length m) (List.replicate m u) (fun _ => False)) :: H) → K a' w') :
    Oper.wp P ⟨some d, .makeSlice t x y, ty, pos, af, gg⟩ a w K Q := by
  have hlen : (List.replicate m u).length = m := List.length_replicate
  rw [hlen] at k'
  obtain ⟨i, hi, hz', hs, hby⟩ := h.parts
  obtain ⟨w', hrun, ho, hg⟩ := run_make_full (P := P) w 0 t e i z 1 ht hi hz' hs kl kc m (by rw [hby]; exact hb) hm (Nat.zero_le _)
  have hto : To P ⟨some d, .makeSlice t x y, ty, pos, af, gg⟩ a w (.slice (some ⟨w.heap.size, 0, Option.none⟩) m m) w' := by
    unfold To
    generalize a.eval = ρ at *
    simp only [execOp, Sem.run_bind, hx, hy, hrun, Result.andThen_ok, Sem.run_pure]
  have hrow : Row (Rep.flat enc h1) e w' (fun _ => False) (.slice (some ⟨w.heap.size, 0, Option.none⟩) m m) (List.replicate m u) := by
    refine ⟨_, by rw [List.length_replicate]; exact ho, elems_flat.2 ?_⟩
    have hc : z.cells = #[z] := by
      subst hz
      have := h1 u
      cases hu : enc u <;> simp_all [Value.cells, Value.oneCell']
    rw [hc, Nat.mul_one, toList_madeCells_one, hz, List.map_replicate]
  refine w_to hF hto rfl hn fun a' hF' => k' a' w' _ hF' ?_
  have hm : Mods (fun _ => False) w w' := (Mods.ofGrown hg).mono (fun k hk _ => by cases hk)
  exact hH.newRow l hm hrow (fun k hk => by simp [Value.ownBlock] at hk; omega) (fun k hk => hk.elim)
end

theorem wpAnyH_weaken {P : Program} {md : Region.Mode} {ops : Array Oper} {Q : Exit → Act → World → Prop} {S S' : World → Prop} (hS : ∀ w, S' w → S w) : ∀ (fuel : Nat) (listed : Array Bool) (a : Act) (w : World), wpAnyH P md ops Q S' fuel listed a w → wpAnyH P md ops Q S fuel listed a w
  | 0, _, _, _, h => h
  | fuel + 1, _, _, _, h => ⟨h.1, fun i hi => wpOp_mono (fun a' w' h' => ⟨hS _ h'.1, wpAnyH_weaken hS fuel _ a' w' h'.2⟩) (h.2 i hi)⟩
/-- More is known from now on. -/
theorem r_more {P : Program} {ops : Array Oper} {Q : Exit → Act → World → Prop} {HS : List (Nat × Asn)} {fuel : Nat} {listed : Array Bool} {a : Act} {w : World} (HS' : List (Nat × Asn)) (hs : ∀ i A, get HS i = some A → get HS' i = some A) (h : wpAnyH P .any ops Q (SL HS') fuel listed a w) : wpAnyH P .any ops Q (SL HS) fuel listed a w :=
  wpAnyH_weaken (fun w hw l A hl => hw l A (hs l A hl)) fuel listed a w h
theorem wp_norm_k {P : Program} {Q : Exit → Act → World → Prop} {a : Act} {w : World} {x : Code} (h : ∀ K : Act → World → Prop, (∀ a w, Q .normal a w → K a w) → x.wp P (Exit.then K Q) a w) : x.wp P Q a w :=
  wp_mono (h _ fun _ _ h => h) fun e a w hq => by cases e <;> exact hq

end Go.Proofs.Ytlcnoibjhmflnaa.Sx
