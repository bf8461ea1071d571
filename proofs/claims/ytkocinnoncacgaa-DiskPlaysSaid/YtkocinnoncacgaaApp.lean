/- append behind a slice that is full: a new block, or the same slice. -/
import Derived.Test.YtkocinnoncacgaaFld
set_option linter.unusedVariables false
set_option linter.unusedSimpArgs false
namespace Go.Proofs.Ytkocinnoncacgaa.Sx
open Go.RowKit
section
variable {α : Type} {enc : α → Value} {h1 : ∀ x, (enc x).oneCell' = true} {P : Program} {w w0 : World} {ok1 ok2 : Nat → Prop} {A1 A2 : Option Addr} {xs ys : List α} {c2 : Nat} {t e : TypeId} {z : Value} {by' : Nat} {ag : Bool}
theorem grown_row {w : World} {cells : List Value} {cap : Nat} {zs : List α} (ht : TyI P e z 1 by' ag) (hz : z.cells.size = 1) (hc : cells = zs.map enc) (h2 : zs.length ≤ cap) (h3 : cap ≤ maxLen) :
    Row (Rep.flat enc h1) e (w.drew.alloc (.cells (cells.toArray ++ Builtin.zeroCells z.cells (cap - zs.length)) e)) (fun _ => False) (.slice (some ⟨w.heap.size, 0, none⟩) zs.length cap) zs := by
  subst hc
  refine ⟨zs.map enc, ⟨by simp [Rep.flat], .inr ⟨w.heap.size, cap, _, rfl, Nat.zero_le _, heap_alloc_new w.drew _, h2, h3, ?_, ?_⟩⟩, elems_flat.2 rfl⟩
  · simp only [Array.size_append, List.size_toArray, List.length_map, size_zeroCells, hz, Rep.flat]; omega
  · simp only [Array.toList_append, Rep.flat, Nat.mul_one]
    exact List.take_left' (by simp)
theorem run_append_full (ht : P.underlying t = some (.slice e)) (hT : TyI P e z 1 by' ag) (hz : z.cells.size = 1) (ty : TypeId)
    (hx : Rd (Rep.flat enc h1) w ok1 A1 xs xs.length) (hy : Rd (Rep.flat enc h1) w ok2 A2 ys c2) (hl : (xs.length + ys.length) * by' ≤ 140737488355328) (hl' : xs.length + ys.length ≤ maxLen) :
    ∃ A' c' w', (Builtin.append_ #[t, t] ty #[.slice A1 xs.length xs.length, .slice A2 ys.length c2]).run P w = .ok (.slice A' (xs ++ ys).length c') w' ∧ Mods (fun _ => False) w w' ∧
      Rd (Rep.flat enc h1) w' (fun k => ok1 k ∨ (w.heap.size ≤ k ∧ k < w'.heap.size)) A' (xs ++ ys) c' := by
  obtain ⟨i, hi, hiz, his, hib⟩ := hT.parts
  have hsmall : xs.length + ys.length ≤ 9223372036854775807 := by simp only [maxLen] at hl'; omega
  by_cases h0 : ys = []
  · subst h0
    refine ⟨A1, xs.length, w, ?_, Mods.refl _ _, ?_⟩
    · cases A1 <;> cases A2 <;> simp [Builtin.append_, run_underlying ht, sizeOf, typeInfo, hi, Builtin.lenOf, Builtin.firstCells, loadCells, loadCellsFrom, storeCells, go_sem]
    · rw [List.append_nil]; exact hx.move (fun _ _ _ => rfl) (fun k hk _ => .inl hk)
  · have hy0 : 0 < ys.length := by cases ys with | nil => exact absurd rfl h0 | cons _ _ => simp
    obtain ⟨ds, hd, hA⟩ := hy.cells
    rcases hA with ⟨_, h⟩ | ⟨a2, rfl, hc2⟩
    · exact absurd h h0
    have hds : ds = ys.map enc := elems_flat.1 hd
    obtain ⟨cs, hcs, hA1⟩ := hx.cells
    have hcs' : cs = xs.map enc := elems_flat.1 hcs
    have fin : ∀ (old : Nat) (v : List Value), old < xs.length + ys.length → v = (xs ++ ys).map enc →
        (Rd (Rep.flat enc h1) (w.drew.alloc (.cells (v.toArray ++ Builtin.zeroCells z.cells (grownCap w (xs.length + ys.length) old e - (xs ++ ys).length)) e)) (fun k => ok1 k ∨ (w.heap.size ≤ k ∧ k < (w.drew.alloc (.cells (v.toArray ++ Builtin.zeroCells z.cells (grownCap w (xs.length + ys.length) old e - (xs ++ ys).length)) e)).heap.size)) (some ⟨w.heap.size, 0, none⟩) (xs ++ ys) (grownCap w (xs.length + ys.length) old e)) := by
      intro old v ho hv
      have hge := grownCap_ge w (xs.length + ys.length) old e
      have hcm : grownCap w (xs.length + ys.length) old e ≤ maxLen := grownCap_le_maxLen w (xs.length + ys.length) old e hl'
      exact (grown_row (h1 := h1) (w := w) hT hz hv (by rw [List.length_append]; exact hge) hcm).rd (fun k hk _ => hk.elim) (fun k hk => .inr (by simp [Value.ownBlock] at hk; subst hk; simp))
    have hm : ∀ (o : Obj), Mods (fun _ => False) w (w.drew.alloc o) := fun o => (Mods.drew _ w).trans (Mods.alloc (fun _ => False) w.drew o) (fun k hk => hk.elim)
    rcases hA1 with ⟨rfl, rfl⟩ | ⟨a1, rfl, hc1⟩
    · have hr := run_append_nil (P := P) w t ty e i z ht hi hiz a2 ys.length c2 ds (by rw [hds, his]; simp) hc2 hy0 (by simp at hsmall ⊢; omega) (by rw [hib]; simp at hl; omega)
      have h := fin 0 ds (by simp; omega) (by rw [hds]; rfl)
      rw [List.length_append] at h
      simp only [List.length_nil, Nat.zero_add, List.nil_append] at h ⊢
      exact ⟨_, _, _, hr, hm _, h⟩
    · have hr := run_append_grow (P := P) w t ty e i z ht hi hiz a1 xs.length xs.length cs (by rw [hcs', his]; simp) hc1 a2 ys.length c2 ds (by rw [hds, his]; simp) hc2 (by omega) (by simp at hsmall ⊢; omega) (by rw [hib]; exact growslice_fits (by omega) hl)
      have h := fin xs.length (cs ++ ds) (by omega) (by rw [hcs', hds, List.map_append])
      rw [List.length_append] at h ⊢
      have e1 : (cs ++ ds).toArray = cs.toArray ++ ds.toArray := by simp
      rw [e1] at h
      exact ⟨_, _, _, hr, hm _, h⟩
end
section
variable {α : Type} {enc : α → Value} {h1 : ∀ x, (enc x).oneCell' = true} {P : Program} {a : Act} {w w0 : World} {K : Act → World → Prop} {Q : Exit → Act → World → Prop} {B : Nat → Prop} {H : List (Nat × Asn)} {ds : List Deferred} {L : List (Nat × Value)} {nt d : Nat} {ty : TypeId} {pos : String} {af : Array Edge} {x y : Operand} {gg : Option (Nat × Bool)}
  {ok1 ok2 : Nat → Prop} {A1 A2 : Option Addr} {xs ys : List α} {c2 : Nat} {t e : TypeId} {z : Value} {by' : Nat} {ag : Bool}
/-- append(xs[:len:len], ys...): l: the label of what comes; l1: of what is read of xs. -/
theorem w_appendFull (l l1 : Nat) {X1 : Asn} (hF : FrD ds nt a L) (hH : Hp B w0 w H) (hn : Nat.blt d nt = true) (ht : P.underlying t = some (.slice e)) (hT : TyI P e z 1 by' ag) (hz : z.cells.size = 1)
    (hl1 : get H l1 = some X1) (hx : Rd (Rep.flat enc h1) w ok1 A1 xs xs.length) (hok1 : ∀ k, ok1 k → X1.rd k) (hy : Rd (Rep.flat enc h1) w ok2 A2 ys c2)
    (hax : a.eval x = .slice A1 xs.length xs.length) (hay : a.eval y = .slice A2 ys.length c2) (hle : (xs.length + ys.length) * by' ≤ 140737488355328) (hle' : xs.length + ys.length ≤ maxLen)
    (k' : ∀ a' w' A' c' okn, FrD ds nt a' ((d, .slice A' (xs ++ ys).length c') :: L) → (∀ k, okn k → ok1 k ∨ w.heap.size ≤ k) → Hp B w0 w' ((l, .rd_ (Rep.flat enc h1) A' (xs ++ ys) c' okn) :: H) → K a' w') :
    Oper.wp P ⟨some d, .call ⟨.builtin .append, #[x, y], #[t, t]⟩, ty, pos, af, gg⟩ a w K Q := by
  obtain ⟨A', c', w', hrun, hm, hr⟩ := run_append_full ht hT hz ty hx hy hle hle'
  have hto : To P ⟨some d, .call ⟨.builtin .append, #[x, y], #[t, t]⟩, ty, pos, af, gg⟩ a w (.slice A' (xs ++ ys).length c') w' := by
    unfold To
    generalize a.eval = ρ at *
    simp only [execOp, resolve, invoke, builtin, Sem.run_bind, Sem.run_pure, Result.andThen_ok, List.map_toArray, List.map_cons, List.map_nil, hax, hay, hrun]
  refine w_to hF hto rfl hn fun a' hF' => k' a' w' A' c' (fun k => ok1 k ∨ (w.heap.size ≤ k ∧ k < w'.heap.size)) hF' (fun k hk => hk.imp id (·.1)) ?_
  have hH' := hH.same hm
  refine hH.one hm l _ (fun k hk => hk.elim) hr (fun k hk => hk.elim) (fun k hk => ?_) (fun k hk => ?_) (fun k hk => hk.elim)
  · rcases hk with hk | hk
    · exact .inr (.inl ⟨l1, X1, hl1, hok1 k hk⟩)
    · exact .inr (.inr hk.1)
  · rcases hk with hk | hk
    · exact hk.elim
    · rcases hk with hk | hk
      · exact Nat.lt_of_lt_of_le (hH.inb l1 X1 hl1 k (.inr (hok1 k hk))) hm.size
      · exact hk.2
end
section
variable {α : Type} {E : Rep α} {w : World} {ok : Nat → Prop} {A : Option Addr} {xs : List α} {c : Nat}
/-- The whole of a slice, with no room behind. -/
theorem rd_full (h : Rd E w ok A xs c) : Rd E w ok A xs xs.length := h.cap (Nat.le_refl _) h.1
theorem full_eval {a : Act} {t : Tmp} {A : Option Addr} (h : a.eval (.tmp t) = .slice A (xs.take (xs.length : Int).toNat).length (xs.length : Int).toNat) : a.eval (.tmp t) = .slice A xs.length xs.length := by
  rw [h]; simp
end
end Go.Proofs.Ytkocinnoncacgaa.Sx
