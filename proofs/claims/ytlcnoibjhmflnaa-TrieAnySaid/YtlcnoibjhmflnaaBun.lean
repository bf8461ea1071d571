/- Labels bound into one, and apart again; closures; parts of structs. -/
import Derived.Test.YtlcnoibjhmflnaaIter
import Derived.Test.YtlcnoibjhmflnaaFld
set_option linter.unusedVariables false
set_option linter.unusedSimpArgs false
namespace Go.Proofs.Ytlcnoibjhmflnaa.Sx
open Go.RowKit
section
variable {B : Nat → Prop} {w0 w w' : World} {H L N : List (Nat × Asn)}
theorem get_one {l i : Nat} {X A : Asn} (h : get ((l, X) :: N) i = some A) : (i = l ∧ A = X) ∨ (i ≠ l ∧ get N i = some A) := by
  rw [get_cons] at h
  split at h
  · rename_i e; cases h; exact .inl ⟨e.symm, rfl⟩
  · rename_i e; exact .inr ⟨fun h => e h.symm, h⟩
theorem Hp.bundle (h : Hp B w0 w H) (l : Nat) (hL : ∀ i A, get L i = some A → get H i = some A) (hN : ∀ i A, get N i = some A → get H i = some A) (ha : Apart L N) : Hp B w0 w ((l, Asn.all L) :: N) := by
  have hok := (h.sub L hL).okAll
  refine ⟨h.mods, ?_, ?_, ?_, ?_, ?_⟩
  · intro i A hA
    rcases get_one hA with ⟨_, rfl⟩ | ⟨_, h2⟩
    · exact hok.holds
    · exact h.holds i A (hN i A h2)
  · intro i A hA k hk
    rcases get_one hA with ⟨_, rfl⟩ | ⟨_, h2⟩
    · obtain ⟨j, X, hj, hX⟩ := hk; exact h.mine j X (hL j X hj) k hX
    · exact h.mine i A (hN i A h2) k hk
  · intro i A hA k hk
    rcases get_one hA with ⟨_, rfl⟩ | ⟨_, h2⟩
    · exact hok.inb k hk
    · exact h.inb i A (hN i A h2) k hk
  · intro i A hA k hk
    rcases get_one hA with ⟨_, rfl⟩ | ⟨_, h2⟩
    · exact hok.self k hk
    · exact h.self i A (hN i A h2) k hk
  · intro i j A A' hij hA hA' k hk
    rcases get_one hA with ⟨e1, rfl⟩ | ⟨_, h2⟩
    · rcases get_one hA' with ⟨e2, _⟩ | ⟨_, h3⟩
      · exact absurd (e1.trans e2.symm) hij
      · have := h.apart hL hN ha k hk
        intro h4
        exact this (h4.imp (fun h5 => ⟨j, A', h3, h5⟩) (fun h5 => ⟨j, A', h3, h5⟩))
    · rcases get_one hA' with ⟨_, rfl⟩ | ⟨_, h3⟩
      · rintro (⟨q, X, hq, hX⟩ | ⟨q, X, hq, hX⟩)
        · exact h.sep q i X A (fun e => by subst e; rw [ha q X hq] at h2; cases h2) (hL q X hq) (hN i A h2) k hX (.inl hk)
        · exact h.sep i q A X (fun e => by subst e; rw [ha i X hq] at h2; cases h2) (hN i A h2) (hL q X hq) k hk (.inr hX)
      · exact h.sep i j A A' hij (hN i A h2) (hN j A' h3) k hk
theorem Hp.unbundle (h : Hp B w0 w H) (l : Nat) (hl : get H l = some (Asn.all L)) (hN : ∀ i A, get N i = some A → get H i = some A) (hnl : get N l = none) : Hp B w0 w (L ++ N) := by
  have hL := Hp.ofAll (h.holds l _ hl)
  have hget : ∀ i A, get (L ++ N) i = some A → get L i = some A ∨ (get L i = none ∧ get N i = some A) := by
    intro i A hA
    rw [get_append] at hA
    cases hq : get L i with
    | none => rw [hq] at hA; exact .inr ⟨rfl, by simpa using hA⟩
    | some X => rw [hq] at hA; exact .inl (by simpa using hA)
  have hne : ∀ i A, get N i = some A → i ≠ l := fun i A hA e => by subst e; rw [hnl] at hA; cases hA
  refine ⟨h.mods, ?_, ?_, ?_, ?_, ?_⟩
  · intro i A hA
    rcases hget i A hA with h1 | ⟨_, h1⟩
    · exact hL.holds i A h1
    · exact h.holds i A (hN i A h1)
  · intro i A hA k hk
    rcases hget i A hA with h1 | ⟨_, h1⟩
    · exact h.mine l _ hl k ⟨i, A, h1, hk⟩
    · exact h.mine i A (hN i A h1) k hk
  · intro i A hA k hk
    rcases hget i A hA with h1 | ⟨_, h1⟩
    · exact hL.inb i A h1 k hk
    · exact h.inb i A (hN i A h1) k hk
  · intro i A hA k hk
    rcases hget i A hA with h1 | ⟨_, h1⟩
    · exact hL.self i A h1 k hk
    · exact h.self i A (hN i A h1) k hk
  · intro i j A A' hij hA hA' k hk
    rcases hget i A hA with h1 | ⟨_, h1⟩
    · rcases hget j A' hA' with h2 | ⟨_, h2⟩
      · exact hL.sep i j A A' hij h1 h2 k hk
      · exact h.sep l j _ A' (fun e => hne j A' h2 e.symm) hl (hN j A' h2) k ⟨i, A, h1, hk⟩
    · rcases hget j A' hA' with h2 | ⟨_, h2⟩
      · intro h3
        exact h.sep i l A _ (hne i A h1) (hN i A h1) hl k hk (h3.imp (fun h4 => ⟨j, A', h2, h4⟩) (fun h4 => ⟨j, A', h2, h4⟩))
      · exact h.sep i j A A' hij (hN i A h1) (hN j A' h2) k hk
end
/-- A block of the caller's. -/
theorem Hp.ownblk {w : World} {b : Nat} {o : Obj} (l : Nat) (hb : w.heap[b]? = some o) : Hp (fun k => k = b) w w [(l, .blk b o)] := by
  have hlt : b < w.heap.size := (Array.getElem?_eq_some_iff.1 hb).1
  refine ⟨Mods.refl _ _, ?_, ?_, ?_, ?_, ?_⟩
  · intro i A hA; rcases get_one hA with ⟨_, rfl⟩ | ⟨_, h⟩
    · exact hb
    · simp [get] at h
  · intro i A hA k hk; rcases get_one hA with ⟨_, rfl⟩ | ⟨_, h⟩
    · exact .inl hk
    · simp [get] at h
  · intro i A hA k hk; rcases get_one hA with ⟨_, rfl⟩ | ⟨_, h⟩
    · rcases hk with hk | hk
      · rw [show k = b from hk]; exact hlt
      · exact hk.elim
    · simp [get] at h
  · intro i A hA k hk; rcases get_one hA with ⟨_, rfl⟩ | ⟨_, h⟩
    · exact fun h => h
    · simp [get] at h
  · intro i j A A' hij hA hA'
    rcases get_one hA with ⟨e1, _⟩ | ⟨_, h⟩
    · rcases get_one hA' with ⟨e2, _⟩ | ⟨_, h⟩
      · exact absurd (e1.trans e2.symm) hij
      · simp [get] at h
    · simp [get] at h
section
variable {P : Program} {a : Act} {w : World}
/-- A call of a function value. -/
theorem x_enterC {dst : Option Tmp} {ty : TypeId} {pos : String} {af : Array Edge} {g : Option (Nat × Bool)} {f : FuncId} {fn : Func} {fo : Operand} {xs : Array Operand} {ats : Array TypeId} {vs caps args : Array Value} (hf : P.funcs[f]? = some fn) (hn : (fn.name == "runtime.NumGoroutine") = false) (hb : fn.body.isNone = false)
    (hg : a.eval fo = .func (.func f) #[] caps) (ha : xs.map a.eval = vs) (he : vs ++ caps = args) : (execOp a.eval ⟨dst, .call ⟨.value fo, xs, ats⟩, ty, pos, af, g⟩).run P w = .ok (.enter f args) w := by
  subst ha he
  have hn' : ¬ fn.name = "runtime.NumGoroutine" := by simpa using hn
  have hb' : ¬ fn.body = Option.none := by intro h; rw [h] at hb; simp at hb
  generalize a.eval = ρ at *
  simp [execOp, resolve, Deferred.ofValue, hg, invoke, callFunc, hf, hn', hb', go_sem]
/-- Cells of a block, from one on. -/
theorem blk_sub {b : Nat} {cs : Array Value} {T : TypeId} {fz : Nat × Nat} (h : w.heap[b]? = some (.cells cs T fz)) (off n : Nat) {sub : Array Value} (he : (cs.toList.drop off).take n = sub.toList) : ∀ j u, sub.toList[j]? = some u → w.cell? ((⟨b, off, Option.none⟩ : Addr).add j) = some u := by
  intro j u hj
  rw [← he, List.getElem?_take] at hj
  split at hj
  · rw [List.getElem?_drop] at hj
    rw [add_off, cell_of_row w b (off + j) cs T fz h]
    simpa using hj
  · cases hj
theorem cels_sub {A : Option Addr} {b o : Nat} {m off n : Nat} {cs sub : Array Value} (hA : A = some ⟨b, o, Option.none⟩) (h : ∀ j u, cs.toList[j]? = some u → w.cell? ((adr A m).add j) = some u) (he : (cs.toList.drop off).take n = sub.toList) : ∀ j u, sub.toList[j]? = some u → w.cell? ((adr A (m + off)).add j) = some u := by
  intro j u hj
  rw [← he, List.getElem?_take] at hj
  split at hj
  · rw [List.getElem?_drop] at hj
    have := h (off + j) u hj
    subst hA
    have e : ∀ q, adr (some (⟨b, o, Option.none⟩ : Addr)) q = ⟨b, o + q, Option.none⟩ := fun q => by simp only [adr, Option.getD_some]; exact add_off _ _ _
    rw [e, add_off] at this ⊢
    rw [show o + (m + off) + j = o + m + (off + j) by omega]
    exact this
  · cases hj
end
end Go.Proofs.Ytlcnoibjhmflnaa.Sx
