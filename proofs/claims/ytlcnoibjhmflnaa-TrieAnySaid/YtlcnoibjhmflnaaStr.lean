/- Texts, and lists of bytes. -/
import Derived.Test.YtlcnoibjhmflnaaOpen
import Derived.Test.YtlcnoibjhmflnaaFld
set_option linter.unusedVariables false
set_option linter.unusedSimpArgs false
namespace Go.Proofs.Ytlcnoibjhmflnaa.Sx
open Go.RowKit
section
variable {P : Program} {a : Act} {w : World} {dst : Option Tmp} {ty : TypeId} {pos : String} {af : Array Edge} {x y z : Operand} {t t' : TypeId} {gg : Option (Nat × Bool)}
theorem sn_append (xs ys : List Int) : strOfNums xs ++ strOfNums ys = strOfNums (xs ++ ys) := by
  apply ByteArray.ext
  simp [strOfNums]
theorem sn_take (xs : List Int) (k : Nat) : (strOfNums xs).extract 0 k = strOfNums (xs.take k) := by
  apply ByteArray.ext
  simp [strOfNums, List.map_take]
/-- s + t -/
theorem x_adds {xs ys : List Int} (hx : a.eval x = .string (strOfNums xs)) (hy : a.eval y = .string (strOfNums ys)) (hl : xs.length + ys.length ≤ 9223372036854775807) : At P ⟨dst, .binOp .add t x y t', ty, pos, af, gg⟩ a w (.string (strOfNums (xs ++ ys))) := by
  have h1 := strOfNums_size xs
  have h2 := strOfNums_size ys
  unfold At; generalize a.eval = ρ at *
  have h3 : ¬ (9223372036854775807 < ((xs.length : Int) + (ys.length : Int))) := by omega
  simp [execOp, hx, hy, binOp, Op.stringOp, eqGuard, h1, h2, h3, sn_append, go_sem]
/-- s[:k] -/
theorem x_sliceS {xs : List Int} {k : IntKind} {m : Int} (ht : P.underlying t = some .string) (hx : a.eval x = .string (strOfNums xs)) (hy : a.eval y = .int k m) (h0 : 0 ≤ m) (h1 : m ≤ xs.length) : At P ⟨dst, .slice t x Option.none (some y) Option.none, ty, pos, af, gg⟩ a w (.string (strOfNums (xs.take m.toNat))) := by
  have hs := strOfNums_size xs
  unfold At; generalize a.eval = ρ at *
  simp [execOp, Instr.sliceAt, Instr.slice, Instr.sliceBounds, Instr.sliceBound, asIntOf, hx, hy, run_underlying ht, h0, hs, h1, sn_take, go_sem]
theorem x_len_sn {xs : List Int} (ht : P.underlying t = some .string) (hx : a.eval x = .string (strOfNums xs)) : At P ⟨dst, .call ⟨.builtin .len, #[x], #[t]⟩, ty, pos, af, gg⟩ a w (.int .i64 xs.length) := by
  have := x_len_string (P := P) (a := a) (w := w) (dst := dst) (ty := ty) (pos := pos) (af := af) (g := gg) ht hx
  rw [strOfNums_size] at this
  exact this
end
/-! ### slices of slices of bytes -/
abbrev BB : Rep (List Int) := Rep.slice (Rep.int .u8)
def gb (xs : List (List Int)) (i : Int) : List Int := xs.getD i.toNat []
theorem gb_some {xs : List (List Int)} {i : Int} (h0 : 0 ≤ i) (h1 : i < xs.length) : xs[i.toNat]? = some (gb xs i) := by
  have hi : i.toNat < xs.length := by omega
  simp [gb, List.getD_eq_getElem?_getD, List.getElem?_eq_getElem hi]
theorem Rd.bb {w : World} {ok : Nat → Prop} {A : Option Addr} {xs : List (List Int)} {c : Nat} (hr : Rd BB w ok A xs c) {i : Nat} {f : List Int} (hx : xs[i]? = some f) : ∃ A' c', Rd (.int .u8) w ok A' f c' ∧ w.cell? (adr A (i * 1)) = some (.slice A' f.length c') ∧ True := by
  obtain ⟨cs, ⟨A', c', rfl, hr'⟩, hc⟩ := hr.cellsA (n := 1) rfl hx
  refine ⟨A', c', hr', ?_, trivial⟩
  have := hc 0 _ rfl
  obtain ⟨b, off, rfl⟩ := hr.some_ (by have := (List.getElem?_eq_some_iff.1 hx).1; omega)
  have e : ∀ q, adr (some (⟨b, off, Option.none⟩ : Addr)) q = ⟨b, off + q, Option.none⟩ := fun q => by simp only [adr, Option.getD_some]; exact add_off _ _ _
  rw [e, add_off] at this
  rw [e]; exact this
/-! ### slices of texts -/
def gs (xs : List ByteArray) (i : Int) : ByteArray := xs.getD i.toNat ⟨#[]⟩
theorem gs_some {xs : List ByteArray} {i : Int} (h0 : 0 ≤ i) (h1 : i < xs.length) : xs[i.toNat]? = some (gs xs i) := by
  have hi : i.toNat < xs.length := by omega
  simp [gs, List.getD_eq_getElem?_getD, List.getElem?_eq_getElem hi]
section
variable {P : Program} {a : Act} {w : World} {dst : Option Tmp} {ty : TypeId} {pos : String} {af : Array Edge} {x y : Operand} {t e : TypeId} {gg : Option (Nat × Bool)} {α : Type} {E : Rep α} {ok : Nat → Prop} {A : Option Addr} {xs : List α} {c n by' : Nat} {ag : Bool} {z : Value}
/-- The address of an element of an array that is an element of a slice. -/
theorem x_iaddrA {N m o' : Nat} {k : IntKind} {i : Int} (hr : Rd E w ok A xs c) (hl : 0 < xs.length) (w2 : World) (ht : P.underlying t = some (.array N e)) (h : TyI P e z n by' ag) (hx : a.eval x = .pointer (some (adr A m))) (hy : a.eval y = .int k i) (h0 : 0 ≤ i) (h1 : i < N) (ho : m + i.toNat * n = o') :
    At P ⟨dst, .indexAddr t x y, ty, pos, af, gg⟩ a w2 (.pointer (some (adr A o'))) := by
  subst ho
  obtain ⟨b, off, rfl⟩ := hr.some_ hl
  have e : ∀ q, adr (some (⟨b, off, Option.none⟩ : Addr)) q = ⟨b, off + q, Option.none⟩ := fun q => by simp only [adr, Option.getD_some]; exact add_off _ _ _
  rw [e] at hx ⊢
  have := x_iaddr_arr (P := P) (a := a) (w := w2) (dst := dst) (ty := ty) (pos := pos) (af := af) (g := gg) ht h hx hy h0 h1
  rw [Nat.add_assoc] at this
  exact this
end
/-! ### slices of pairs of bytes -/
abbrev P2 : Rep (List (List Int)) := Rep.arr 2 (by decide) BB
def gp (xs : List (List (List Int))) (i : Int) : List (List Int) := xs.getD i.toNat []
theorem gp_some {xs : List (List (List Int))} {i : Int} (h0 : 0 ≤ i) (h1 : i < xs.length) : xs[i.toNat]? = some (gp xs i) := by
  have hi : i.toNat < xs.length := by omega
  simp [gp, List.getD_eq_getElem?_getD, List.getElem?_eq_getElem hi]
theorem rd_p2 {w : World} {ok : Nat → Prop} {A : Option Addr} {xs : List (List (List Int))} {c : Nat} (hr : Rd P2 w ok A xs c) {i : Nat} {f : List (List Int)} (hx : xs[i]? = some f) : ∃ A0 c0 A1 c1, Rd (.int .u8) w ok A0 (gb f 0) c0 ∧ Rd (.int .u8) w ok A1 (gb f 1) c1 ∧ w.cell? (adr A (i * 2)) = some (.slice A0 (gb f 0).length c0) ∧ w.cell? (adr A (i * 2 + 1)) = some (.slice A1 (gb f 1).length c1) ∧ True := by
  obtain ⟨cs, ⟨h2, hel⟩, hc⟩ := hr.cellsA (n := 2) rfl hx
  obtain ⟨p, q, rfl⟩ : ∃ p q, f = [p, q] := by
    match f, h2 with
    | [p, q], _ => exact ⟨p, q, rfl⟩
  obtain ⟨c1, d1, e1, ⟨A0, c0, rfl, hr0⟩, hel1⟩ := hel.cons_inv
  obtain ⟨c2, d2, e2, ⟨A1, c1', rfl, hr1⟩, _⟩ := hel1.cons_inv
  subst e2
  obtain ⟨b, off, rfl⟩ := hr.some_ (by have := (List.getElem?_eq_some_iff.1 hx).1; omega)
  have e : ∀ q, adr (some (⟨b, off, Option.none⟩ : Addr)) q = ⟨b, off + q, Option.none⟩ := fun q => by simp only [adr, Option.getD_some]; exact add_off _ _ _
  refine ⟨A0, c0, A1, c1', hr0, hr1, ?_, ?_, trivial⟩
  · have := hc 0 _ (by rw [e1]; rfl)
    rw [e, add_off] at this
    rw [e]; exact this
  · have := hc 1 _ (by rw [e1]; rfl)
    rw [e, add_off] at this
    rw [e, ← Nat.add_assoc]; exact this
/-! ### A slice of one element, only read from then on; three that may come up -/
section
variable {P : Program} {a : Act} {w w0 : World} {K : Act → World → Prop} {Q : Exit → Act → World → Prop} {z : Value} {B : Nat → Prop} {H : List (Nat × Asn)} {ty : TypeId} {pos : String} {af : Array Edge} {t e : TypeId} {n d : Nat} {by' : Nat} {ag : Bool} {gg : Option (Nat × Bool)} {α : Type} {ds : List Deferred} {L : List (Nat × Value)}
theorem w_lit1 (l : Nat) (E : Rep α) (y : α) (cells : Array Value) (ok : Nat → Prop) {ρs : Array (Nat × Value)} {parts : Array (Nat × Operand)} (hF : FrD ds n a L) (hH : Hp B w0 w H) (hn : Nat.blt d n = true) (ht : P.underlying t = some (.slice e)) (h : TyI P e z E.n by' ag)
    (hp : parts.map (fun p => (p.1, a.eval p.2)) = ρs) (hm2 : 1 * E.n ≤ 2 ^ 24)
    (hf : Instr.fill (fun i => some (i * E.n, E.n)) ((Array.range (1 * E.n)).map (z.cells[· % z.cells.size]!)) ρs.toList = some cells)
    (hel : E.R w ok y cells.toList) (hok : ∀ k, ok k → ∃ j X, get H j = some X ∧ X.rd k)
    (k' : ∀ a' w' b, FrD ds n a' ((d, .slice (some ⟨b, 0, Option.none⟩) 1 1) :: L) → (B b ∨ w0.heap.size ≤ b) → Hp B w0 w' ((l, .rd_ E (some ⟨b, 0, Option.none⟩) [y] 1 (fun k => ok k ∨ k = b)) :: H) → K a' w') :
    Oper.wp P ⟨some d, .buildSlice t 1 parts, ty, pos, af, gg⟩ a w K Q := by
  refine w_litE l E [y] cells ok hF hH hn ht h hp rfl (by decide) hm2 hf (Elems.single hel) hok fun a' w' b hF' hH' => ?_
  have hb := hH'.mine l _ (by rw [get_cons, if_pos rfl]) b (by simp [Asn.row, Value.ownBlock])
  have hH2 := hH'.freeze l (by rw [get_cons, if_pos rfl]) (fun k => ok k ∨ k = b) (fun k => by simp [Value.ownBlock, eq_comm])
  refine k' a' w' b hF' hb ?_
  refine hH2.sub _ ?_
  intro i A hA
  rw [get_cons] at hA ⊢
  split at hA
  · rename_i e; rw [if_pos e]; exact hA
  · rename_i e; rw [if_neg e, get_cons, if_neg e]; exact hA
end
section
variable {P : Program} {ops : Array Oper} {Q : Exit → Act → World → Prop} {HS : List (Nat × Asn)} {fuel : Nat} {listed : Array Bool} {a : Act} {w : World} {oi oj om : Oper}
theorem r_do3 (i j m : Nat) {li lj lm : Array Bool} (hi : ops[i]? = some oi) (hj : ops[j]? = some oj) (hm : ops[m]? = some om) (hr : Region.ready .any ops listed = [i, j, m]) (hw : Region.wanted oi (yielded ops a.tmps) = true) (hwj : Region.wanted oj (yielded ops a.tmps) = true) (hwm : Region.wanted om (yielded ops a.tmps) = true) (hl : listed.setIfInBounds i true = li) (hlj : listed.setIfInBounds j true = lj) (hlm : listed.setIfInBounds m true = lm)
    (h : oi.wp P a w (fun a' w' => SL HS w' ∧ wpAnyH P .any ops Q (SL HS) fuel li a' w') Q) (h2 : oj.wp P a w (fun a' w' => SL HS w' ∧ wpAnyH P .any ops Q (SL HS) fuel lj a' w') Q) (h3 : om.wp P a w (fun a' w' => SL HS w' ∧ wpAnyH P .any ops Q (SL HS) fuel lm a' w') Q) : wpAnyH P .any ops Q (SL HS) (fuel + 1) listed a w := by
  subst hl hlj hlm
  refine wpAnyH_all hr (by simp) fun q hq => ?_
  simp at hq
  rcases hq with rfl | rfl | rfl
  · unfold wpOp
    simp only [hi, hw, if_true]
    exact .inl h
  · unfold wpOp
    simp only [hj, hwj, if_true]
    exact .inl h2
  · unfold wpOp
    simp only [hm, hwm, if_true]
    exact .inl h3
end
end Go.Proofs.Ytlcnoibjhmflnaa.Sx
