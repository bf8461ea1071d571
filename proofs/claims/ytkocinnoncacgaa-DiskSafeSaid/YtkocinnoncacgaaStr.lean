/- Texts, and lists of bytes. -/
import Derived.Test.YtkocinnoncacgaaOpen
set_option linter.unusedVariables false
set_option linter.unusedSimpArgs false
namespace Go.Proofs.Ytkocinnoncacgaa.Sx
open Go.RowKit
section
variable {P : Program} {a : Act} {w : World} {dst : Option Tmp} {ty : TypeId} {pos : String} {af : Array Edge} {x y z : Operand} {t t' : TypeId} {gg : Option (Nat × Bool)}
theorem sn_append (xs ys : List Int) : strOfNums xs ++ strOfNums ys = strOfNums (xs ++ ys) := by
  apply ByteArray.ext
  simp [strOfNums]
theorem sn_take (xs : List Int) (k : Nat) : (strOfNums xs).extract 0 k = strOfNums (xs.take k) := by
  apply ByteArray.ext
  simp [strOfNums, List.map_take]
/-- s + t -/
theorem x_adds {xs ys : List Int} (hx : a.eval x = .string (strOfNums xs)) (hy : a.eval y = .string (strOfNums ys)) (hl : xs.length + ys.length ≤ 9223372036854775807) : At P ⟨dst, .binOp .add t x y t', ty, pos, af, gg⟩ a w (.string (strOfNums (xs ++ ys))) := by
  have h1 := strOfNums_size xs
  have h2 := strOfNums_size ys
  unfold At; generalize a.eval = ρ at *
  have h3 : ¬ (9223372036854775807 < ((xs.length : Int) + (ys.length : Int))) := by omega
  simp [execOp, hx, hy, binOp, Op.stringOp, eqGuard, h1, h2, h3, sn_append, go_sem]
/-- s[:k] -/
theorem x_sliceS {xs : List Int} {k : IntKind} {m : Int} (ht : P.underlying t = some .string) (hx : a.eval x = .string (strOfNums xs)) (hy : a.eval y = .int k m) (h0 : 0 ≤ m) (h1 : m ≤ xs.length) : At P ⟨dst, .slice t x Option.none (some y) Option.none, ty, pos, af, gg⟩ a w (.string (strOfNums (xs.take m.toNat))) := by
  have hs := strOfNums_size xs
  unfold At; generalize a.eval = ρ at *
  simp [execOp, Instr.sliceAt, Instr.slice, Instr.sliceBounds, Instr.sliceBound, asIntOf, hx, hy, run_underlying ht, h0, hs, h1, sn_take, go_sem]
theorem x_len_sn {xs : List Int} (ht : P.underlying t = some .string) (hx : a.eval x = .string (strOfNums xs)) : At P ⟨dst, .call ⟨.builtin .len, #[x], #[t]⟩, ty, pos, af, gg⟩ a w (.int .i64 xs.length) := by
  have := x_len_string (P := P) (a := a) (w := w) (dst := dst) (ty := ty) (pos := pos) (af := af) (g := gg) ht hx
  rw [strOfNums_size] at this
  exact this
end
/-! ### slices of slices of bytes -/
abbrev BB : Rep (List Int) := Rep.slice (Rep.int .u8)
def gb (xs : List (List Int)) (i : Int) : List Int := xs.getD i.toNat []
theorem gb_some {xs : List (List Int)} {i : Int} (h0 : 0 ≤ i) (h1 : i < xs.length) : xs[i.toNat]? = some (gb xs i) := by
  have hi : i.toNat < xs.length := by omega
  simp [gb, List.getD_eq_getElem?_getD, List.getElem?_eq_getElem hi]
theorem Rd.bb {w : World} {ok : Nat → Prop} {A : Option Addr} {xs : List (List Int)} {c : Nat} (hr : Rd BB w ok A xs c) {i : Nat} {f : List Int} (hx : xs[i]? = some f) : ∃ A' c', Rd (.int .u8) w ok A' f c' ∧ w.cell? (adr A (i * 1)) = some (.slice A' f.length c') ∧ True := by
  obtain ⟨cs, ⟨A', c', rfl, hr'⟩, hc⟩ := hr.cellsA (n := 1) rfl hx
  refine ⟨A', c', hr', ?_, trivial⟩
  have := hc 0 _ rfl
  obtain ⟨b, off, rfl⟩ := hr.some_ (by have := (List.getElem?_eq_some_iff.1 hx).1; omega)
  have e : ∀ q, adr (some (⟨b, off, Option.none⟩ : Addr)) q = ⟨b, off + q, Option.none⟩ := fun q => by simp only [adr, Option.getD_some]; exact add_off _ _ _
  rw [e, add_off] at this
  rw [e]; exact this
/-! ### slices of texts -/
def gs (xs : List ByteArray) (i : Int) : ByteArray := xs.getD i.toNat ⟨#[]⟩
theorem gs_some {xs : List ByteArray} {i : Int} (h0 : 0 ≤ i) (h1 : i < xs.length) : xs[i.toNat]? = some (gs xs i) := by
  have hi : i.toNat < xs.length := by omega
  simp [gs, List.getD_eq_getElem?_getD, List.getElem?_eq_getElem hi]
section
variable {P : Program} {a : Act} {w : World} {dst : Option Tmp} {ty : TypeId} {pos : String} {af : Array Edge} {x y : Operand} {t e : TypeId} {gg : Option (Nat × Bool)} {α : Type} {E : Rep α} {ok : Nat → Prop} {A : Option Addr} {xs : List α} {c n by' : Nat} {ag : Bool} {z : Value}
/-- The address of an element of an array that is an element of a slice. -/
theorem x_iaddrA {N m o' : Nat} {k : IntKind} {i : Int} (hr : Rd E w ok A xs c) (hl : 0 < xs.length) (w2 : World) (ht : P.underlying t = some (.array N e)) (h : TyI P e z n by' ag) (hx : a.eval x = .pointer (some (adr A m))) (hy : a.eval y = .int k i) (h0 : 0 ≤ i) (h1 : i < N) (ho : m + i.toNat * n = o') :
    At P ⟨dst, .indexAddr t x y, ty, pos, af, gg⟩ a w2 (.pointer (some (adr A o'))) := by
  subst ho
  obtain ⟨b, off, rfl⟩ := hr.some_ hl
  have e : ∀ q, adr (some (⟨b, off, Option.none⟩ : Addr)) q = ⟨b, off + q, Option.none⟩ := fun q => by simp only [adr, Option.getD_some]; exact add_off _ _ _
  rw [e] at hx ⊢
  have := x_iaddr_arr (P := P) (a := a) (w := w2) (dst := dst) (ty := ty) (pos := pos) (af := af) (g := gg) ht h hx hy h0 h1
  rw [Nat.add_assoc] at this
  exact this
end
/-! ### slices of pairs of bytes -/
abbrev P2 : Rep (List (List Int)) := Rep.arr 2 (by decide) BB
def gp (xs : List (List (List Int))) (i : Int) : List (List Int) := xs.getD i.toNat []
theorem gp_some {xs : List (List (List Int))} {i : Int} (h0 : 0 ≤ i) (h1 : i < xs.length) : xs[i.toNat]? = some (gp xs i) := by
  have hi : i.toNat < xs.length := by omega
  simp [gp, List.getD_eq_getElem?_getD, List.getElem?_eq_getElem hi]
theorem rd_p2 {w : World} {ok : Nat → Prop} {A : Option Addr} {xs : List (List (List Int))} {c : Nat} (hr : Rd P2 w ok A xs c) {i : Nat} {f : List (List Int)} (hx : xs[i]? = some f) : ∃ A0 c0 A1 c1, Rd (.int .u8) w ok A0 (gb f 0) c0 ∧ Rd (.int .u8) w ok A1 (gb f 1) c1 ∧ w.cell? (adr A (i * 2)) = some (.slice A0 (gb f 0).length c0) ∧ w.cell? (adr A (i * 2 + 1)) = some (.slice A1 (gb f 1).length c1) ∧ True := by
  obtain ⟨cs, ⟨h2, hel⟩, hc⟩ := hr.cellsA (n := 2) rfl hx
  obtain ⟨p, q, rfl⟩ : ∃ p q, f = [p, q] := by
    match f, h2 with
    | [p, q], _ => exact ⟨p, q, rfl⟩
  obtain ⟨c1, d1, e1, ⟨A0, c0, rfl, hr0⟩, hel1⟩ := hel.cons_inv
  obtain ⟨c2, d2, e2, ⟨A1, c1', rfl, hr1⟩, _⟩ := hel1.cons_inv
  subst e2
  obtain ⟨b, off, rfl⟩ := hr.some_ (by have := (List.getElem?_eq_some_iff.1 hx).1; omega)
  have e : ∀ q, adr (some (⟨b, off, Option.none⟩ : Addr)) q = ⟨b, off + q, Option.none⟩ := fun q => by simp only [adr, Option.getD_some]; exact add_off _ _ _
  refine ⟨A0, c0, A1, c1', hr0, hr1, ?_, ?_, trivial⟩
  · have := hc 0 _ (by rw [e1]; rfl)
    rw [e, add_off] at this
    rw [e]; exact this
  · have := hc 1 _ (by rw [e1]; rfl)
    rw [e, add_off] at this
    rw [e, ← Nat.add_assoc]; exact this
end Go.Proofs.Ytkocinnoncacgaa.Sx
