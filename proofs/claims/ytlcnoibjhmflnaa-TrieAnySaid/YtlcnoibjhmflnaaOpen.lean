/- From a row's reading of the arguments to this claim's own words. -/
import Derived.Test.YtlcnoibjhmflnaaSx
import Derived.ProofKit
import Derived.OpenShut
set_option linter.unusedVariables false
set_option linter.unusedSimpArgs false
namespace Go.Proofs.Ytlcnoibjhmflnaa.Sx
open Go.RowKit

theorem block_of_cell {w : World} {x : Addr} {v : Value} (h : w.cell? x = some v) : ∃ arr T fz, x = ⟨x.block, x.off, Option.none⟩ ∧ w.heap[x.block]? = some (.cells arr T fz) ∧ arr[x.off]? = some v := by
  unfold World.cell? at h
  split at h
  · rename_i c T fz hc
    cases x with
    | mk b o s =>
      cases s with
      | none => exact ⟨c, T, fz, rfl, hc, by simpa using h⟩
      | some s => simp at h
  · cases h
/-- A slice of elements of one cell, as the row reads it. -/
theorem rd_of_cells {α : Type} {enc : α → Value} {h1 : ∀ x, (enc x).oneCell' = true} {w : World} {x : Addr} {len cap : Nat} (zs : List α) (hl : len ≤ cap) (hm : cap ≤ maxLen) (hz : zs.length = cap) (hc : ∀ i y, zs[i]? = some y → w.cell? (x.add i) = some (enc y)) :
    Rd (Rep.flat enc h1) w (fun k => k < w.heap.size) (some x) (zs.take len) cap ∧ (zs.take len).length = len := by
  have hlen : (zs.take len).length = len := by rw [List.length_take]; omega
  refine ⟨⟨by omega, hm, fun h0 => ?_⟩, hlen⟩
  have hz0 : 0 < zs.length := by omega
  have c0 := hc 0 zs[0] (List.getElem?_eq_getElem hz0)
  rw [show x.add 0 = x from rfl] at c0
  obtain ⟨arr, T, fz, hx, hh, _⟩ := block_of_cell c0
  refine ⟨x.block, x.off, arr, T, fz, by rw [← hx], (Array.getElem?_eq_some_iff.1 hh).1, hh, (zs.take len).map enc, fun j u hj => ?_, elems_flat.2 rfl⟩
  rw [List.getElem?_map, Option.map_eq_some_iff] at hj
  obtain ⟨y, hy, rfl⟩ := hj
  have hy2 : zs[j]? = some y := by
    rw [List.getElem?_take] at hy
    split at hy
    · exact hy
    · cases hy
  have c1 := hc j y hy2
  have hx2 : x.add j = ⟨x.block, x.off + j, Option.none⟩ := by
    conv => lhs; rw [hx]
    exact add_off _ _ _
  rw [hx2, cell_of_row w x.block (x.off + j) arr T fz hh] at c1
  exact c1
/-- A slice of whole numbers: what 'open_ints' gives. -/
theorem rd_ints {W : World} {k : IntKind} {a : Option Addr} {len cap : Nat}
    (h : (a = Option.none ∧ len = 0 ∧ cap = 0) ∨ ∃ (x : Addr) (zs : List Int), a = some x ∧ len ≤ cap ∧ cap ≤ maxLen ∧ zs.length = cap ∧ (∀ i, i < zs.length → W.cell? (x.add i) = some (.int k (zs.getD i 0))) ∧ ∀ n ∈ zs, (Lit.int k n).wf = true) :
    ∃ xs : List Int, Rd (.int k) W (fun i => i < W.heap.size) a xs cap ∧ xs.length = len ∧ ∀ n ∈ xs, (Lit.int k n).wf = true := by
  rcases h with ⟨rfl, rfl, rfl⟩ | ⟨x, zs, rfl, hl, hm, hz, hcell, hw⟩
  · exact ⟨[], Rd.nil _ _ _, rfl, fun n hn => by cases hn⟩
  · obtain ⟨h1, h2⟩ := rd_of_cells (enc := Value.int k) (h1 := fun _ => rfl) (len := len) zs hl hm hz (fun i y hy => by
      have hi : i < zs.length := (List.getElem?_eq_some_iff.1 hy).1
      have := hcell i hi
      rw [List.getD_eq_getElem?_getD, hy] at this
      exact this)
    exact ⟨_, h1, h2, fun n hn => hw n (List.mem_of_mem_take hn)⟩
theorem byte_wf {n : Int} (h : (Lit.int .u8 n).wf = true) : 0 ≤ n ∧ n < 256 := by
  simp [Lit.wf, IntKind.min, IntKind.max, IntKind.signed, IntKind.bits] at h
  omega


/-! ### any datum -/
/-- What is read at type t is a datum of the kind E, well formed. -/
def Opens (P : Program) (t : TypeId) {α : Type} (E : Rep α) (WF : α → Prop) : Prop :=
  ∀ {H : Type} (enc : TypeId × Value → H) (w : World) (base : Nat) (spare : Nat → Bool) (held : Bool) (fuel : Nat) (cs : List Value) (x : DataW H × List MemPlace), DataW.trod enc P w base spare held fuel t cs = some x → ∃ d : α, E.R w (fun k => k < w.heap.size) d cs ∧ WF d
section
variable {P : Program} {t e : TypeId}
theorem opens_int {k : IntKind} (ht : P.underlying t = some (.int k)) : Opens P t (Rep.int k) (fun n => (Lit.int k n).wf = true) := by
  intro H enc w base spare held fuel cs x h
  obtain ⟨n, rfl, _, hw⟩ := DataW.trod_int ht h
  exact ⟨n, rfl, hw⟩
theorem opens_bool (ht : P.underlying t = some .bool) : Opens P t Rep.bool (fun _ => True) := by
  intro H enc w base spare held fuel cs x h
  obtain ⟨b, rfl, _⟩ := DataW.trod_bool ht h
  exact ⟨b, rfl, trivial⟩
theorem opens_str (ht : P.underlying t = some .string) : Opens P t Rep.str (fun s => s.size ≤ maxLen) := by
  intro H enc w base spare held fuel cs x h
  obtain ⟨s, rfl, _, hs⟩ := DataW.trod_string ht h
  exact ⟨s, rfl, hs⟩
theorem cells_of {w : World} {base : Nat} : ∀ (n : Nat) (a : Addr) (cs : List Value), w.cells? base a n = some cs → cs.length = n ∧ ∀ j u, cs[j]? = some u → w.cell? (a.add j) = some u := by
  intro n a cs h
  unfold World.cells? at h
  split at h
  · have hl := mapM_some_length h
    simp at hl
    refine ⟨hl, fun j u hj => ?_⟩
    have hjn : j < n := by rw [← hl]; exact (List.getElem?_eq_some_iff.1 hj).1
    have := mapM_some_get h j j (by simp [hjn])
    rw [hj] at this
    exact this
  · cases h
theorem Elems.flat_of {α : Type} {E : Rep α} {w : World} {ok : Nat → Prop} : ∀ (m : Nat) (f : Nat → List Value) (g : Nat → α), (∀ i, i < m → E.R w ok (g i) (f i)) → Elems E w ok ((List.range m).map g) ((List.range m).flatMap f) := by
  intro m f g h
  induction m with
  | zero => exact Elems.nil _ _ _
  | succ m ih =>
    rw [List.range_succ, List.map_append, List.flatMap_append]
    exact (ih (fun i hi => h i (by omega))).append (by simpa using Elems.single (h m (by omega)))
theorem opens_slice {α : Type} {E : Rep α} {WF : α → Prop} (ht : P.underlying t = some (.slice e)) (hn : P.cellsOf e = E.n) (h : Opens P e E WF) : Opens P t (Rep.slice E) (fun xs => ∀ x ∈ xs, WF x) := by
  intro H enc w base spare held fuel cs x hx
  rcases DataW.trod_slice ht hx with ⟨rfl, _⟩ | ⟨a, len, cap, elems, rest, n, _, rfl, _, _, hl, hm, hel, hget, _, _⟩
  · exact ⟨[], ⟨Option.none, 0, rfl, Rd.nil _ _ _⟩, fun x hx => by cases hx⟩
  · rw [hn] at hget
    have each : ∀ i, i < len → ∃ (ci : List Value) (d : α), w.cells? base (a.add (i * E.n)) E.n = some ci ∧ E.R w (fun k => k < w.heap.size) d ci ∧ WF d := by
      intro i hi
      have h1 := hget i hi
      rw [List.getElem?_eq_getElem (by omega), Option.bind_eq_some_iff] at h1
      obtain ⟨ci, h2, h3⟩ := h1
      obtain ⟨d, h4, h5⟩ := h enc w base spare held n ci _ h3
      exact ⟨ci, d, h2, h4, h5⟩
    by_cases h0 : len = 0
    · subst h0
      exact ⟨[], ⟨some a, cap, rfl, by simp, hm, fun h => by simp at h⟩, fun x hx => by cases hx⟩
    · obtain ⟨c0, d0, k1, k2, _⟩ := each 0 (by omega)
      have : ∃ (f : Nat → List Value) (g : Nat → α), ∀ i, i < len → w.cells? base (a.add (i * E.n)) E.n = some (f i) ∧ E.R w (fun k => k < w.heap.size) (g i) (f i) ∧ WF (g i) := by
        refine ⟨fun i => if hi : i < len then Classical.choose (each i hi) else [], fun i => if hi : i < len then Classical.choose (Classical.choose_spec (each i hi)) else d0, fun i hi => ?_⟩
        simp only [dif_pos hi]
        exact Classical.choose_spec (Classical.choose_spec (each i hi))
      obtain ⟨f, g, hfg⟩ := this
      have hc0 := cells_of _ _ _ (hfg 0 (by omega)).1
      have hpos := E.pos
      have hcell0 := hc0.2 0 ((f 0)[0]'(by omega)) (List.getElem?_eq_getElem (by omega))
      rw [show (a.add (0 * E.n)).add 0 = a by rw [Nat.zero_mul]; rfl] at hcell0
      obtain ⟨arr, T, fz, hx0, hh, _⟩ := block_of_cell hcell0
      have hel2 := Elems.flat_of (E := E) (w := w) (ok := fun k => k < w.heap.size) len f g (fun i hi => (hfg i hi).2.1)
      refine ⟨(List.range len).map g, ⟨some a, cap, by simp, by simpa using hl, hm, fun _ => ⟨a.block, a.off, arr, T, fz, by rw [← hx0], (Array.getElem?_eq_some_iff.1 hh).1, hh, (List.range len).flatMap f, ?_, hel2⟩⟩, ?_⟩
      · intro j u hj
        have hlen : ((List.range len).flatMap f).length = len * E.n := by simpa using hel2.1
        have hjl : j < len * E.n := by rw [← hlen]; exact (List.getElem?_eq_some_iff.1 hj).1
        have hi : j / E.n < len := by rwa [Nat.div_lt_iff_lt_mul hpos]
        have hmod := Nat.mod_lt j hpos
        have hdm : j / E.n * E.n + j % E.n = j := by rw [Nat.mul_comm]; exact Nat.div_add_mod j E.n
        have key : ∀ m, m ≤ len → ∀ q r, q < m → r < E.n → ((List.range m).flatMap f)[q * E.n + r]? = (f q)[r]? := by
          intro m
          induction m with
          | zero => intro _ q r hq; omega
          | succ m ih =>
            intro hm' q r hq hr
            rw [List.range_succ, List.flatMap_append]
            have hl1 : ((List.range m).flatMap f).length = m * E.n := by
              have := (Elems.flat_of (E := E) (w := w) (ok := fun k => k < w.heap.size) m f g (fun i hi => (hfg i (by omega)).2.1)).1
              simpa using this
            by_cases hqm : q < m
            · rw [List.getElem?_append_left (by rw [hl1]; exact Nat.lt_of_lt_of_le (show q * E.n + r < (q + 1) * E.n by rw [Nat.succ_mul]; omega) (Nat.mul_le_mul_right _ hqm))]
              exact ih (by omega) q r hqm hr
            · obtain rfl : q = m := by omega
              rw [List.getElem?_append_right (by omega), hl1, show q * E.n + r - q * E.n = r by omega]
              simp
        have h3 := key len (Nat.le_refl _) (j / E.n) (j % E.n) hi hmod
        rw [hdm, hj] at h3
        have h4 := (cells_of _ _ _ (hfg _ hi).1).2 (j % E.n) u h3.symm
        have h5 : (a.add (j / E.n * E.n)).add (j % E.n) = ⟨a.block, a.off + j, Option.none⟩ := by
          conv => lhs; rw [hx0]
          rw [add_off, add_off, Nat.add_assoc, hdm]
        rw [h5, cell_of_row w a.block (a.off + j) arr T fz hh] at h4
        exact h4
      · intro y hy
        obtain ⟨i, hi, rfl⟩ := List.mem_map.1 hy
        exact (hfg i (by simpa using hi)).2.2
/-- An array of n of E's. -/
def Rep.arr {α : Type} (n : Nat) (hn : 0 < n) (E : Rep α) : Rep (List α) where
  n := n * E.n
  pos := Nat.mul_pos hn E.pos
  R := fun w ok xs cs => xs.length = n ∧ Elems E w ok xs cs
  len := by rintro w ok xs cs ⟨h, hel⟩; rw [hel.1, h]
  one := by rintro w ok xs cs ⟨h, hel⟩; exact hel.one
  move := by rintro w w' ok ok' xs cs hw ho ⟨h, hel⟩; exact ⟨h, hel.move hw ho⟩
theorem Elems.cons_inv {α : Type} {E : Rep α} {w : World} {ok : Nat → Prop} {x : α} {xs : List α} {cs : List Value} (h : Elems E w ok (x :: xs) cs) : ∃ c d, cs = c ++ d ∧ E.R w ok x c ∧ Elems E w ok xs d := by
  have h0 := h.2 0 x rfl
  refine ⟨cs.take E.n, cs.drop E.n, (List.take_append_drop _ _).symm, by simpa using h0, ?_⟩
  refine ⟨by rw [List.length_drop, h.1, List.length_cons, Nat.succ_mul]; omega, fun i y hy => ?_⟩
  have := h.2 (i + 1) y hy
  rw [List.drop_drop, show E.n + i * E.n = (i + 1) * E.n by rw [Nat.succ_mul]; omega]
  exact this
theorem opens_array {n : Nat} {α : Type} {E : Rep α} {WF : α → Prop} (hpos : 0 < n) (ht : P.underlying t = some (.array n e)) (hn : P.cellsOf e = E.n) (hc : P.cellsOf t = n * E.n) (h : Opens P e E WF) : Opens P t (Rep.arr n hpos E) (fun xs => xs.length = n ∧ ∀ x ∈ xs, WF x) := by
  intro H enc w base spare held fuel cs x hx
  obtain ⟨ys, m, _, _, hl, hyl, hget⟩ := DataW.trod_array ht hx
  rw [hn] at hget
  have each : ∀ i, i < n → ∃ d : α, E.R w (fun k => k < w.heap.size) d ((cs.drop (i * E.n)).take E.n) ∧ WF d := by
    intro i hi
    have h1 := hget i hi
    rw [List.getElem?_eq_getElem (by omega)] at h1
    exact h enc w base spare held m _ _ h1
  obtain ⟨d0, _⟩ := each 0 hpos
  have : ∃ (g : Nat → α), ∀ i, i < n → E.R w (fun k => k < w.heap.size) (g i) ((cs.drop (i * E.n)).take E.n) ∧ WF (g i) :=
    ⟨fun i => if hi : i < n then Classical.choose (each i hi) else d0, fun i hi => by simp only [dif_pos hi]; exact Classical.choose_spec (each i hi)⟩
  obtain ⟨g, hg⟩ := this
  refine ⟨(List.range n).map g, ⟨by simp, by simp [hl, hc], fun i y hy => ?_⟩, by simp, ?_⟩
  · rw [List.getElem?_map, Option.map_eq_some_iff] at hy
    obtain ⟨j, hj, rfl⟩ := hy
    obtain ⟨hj1, hj2⟩ := List.getElem?_eq_some_iff.1 hj
    simp at hj1 hj2
    subst hj2
    exact (hg _ hj1).1
  · intro y hy
    obtain ⟨i, hi, rfl⟩ := List.mem_map.1 hy
    exact (hg i (by simpa using hi)).2
theorem opens_pair {α β : Type} {Ea : Rep α} {Eb : Rep β} {WF0 : α → Prop} {WF1 : β → Prop} {fs : Array Field} {f0 f1 : Field} (ht : P.underlying t = some (.struct fs)) (h0 : fs[0]? = some f0) (h1 : fs[1]? = some f1) (e0 : f0.offset = 0) (e1 : f1.offset = Ea.n)
    (c0 : P.cellsOf f0.type = Ea.n) (c1 : P.cellsOf f1.type = Eb.n) (hn : P.cellsOf t = Ea.n + Eb.n) (o0 : Opens P f0.type Ea WF0) (o1 : Opens P f1.type Eb WF1) : Opens P t (Rep.pair Ea Eb) (fun x => WF0 x.1 ∧ WF1 x.2) := by
  intro H enc w base spare held fuel cs x hx
  obtain ⟨ys, m, _, _, hl, hyl, hget⟩ := DataW.trod_struct ht hx
  have s0 := hget 0 f0 h0
  have s1 := hget 1 f1 h1
  have l1 : 1 < fs.size := (Array.getElem?_eq_some_iff.1 h1).1
  rw [List.getElem?_eq_getElem (by omega), e0, c0, List.drop_zero] at s0
  rw [List.getElem?_eq_getElem (by omega), e1, c1] at s1
  obtain ⟨d0, r0, w0⟩ := o0 enc w base spare held m _ _ s0
  obtain ⟨d1, r1, w1⟩ := o1 enc w base spare held m _ _ s1
  rw [List.take_of_length_le (by rw [List.length_drop, hl, hn]; omega)] at r1
  exact ⟨(d0, d1), ⟨_, _, (List.take_append_drop Ea.n cs).symm, r0, r1⟩, w0, w1⟩
/-- The fields from the i-th on, at cell off, are read as a datum of the kind E. -/
def FieldsAt (P : Program) (fs : Array Field) (i off : Nat) {α : Type} (E : Rep α) (WF : α → Prop) : Prop :=
  ∀ {H : Type} (enc : TypeId × Value → H) (w : World) (base : Nat) (spare : Nat → Bool) (held : Bool) (m : Nat) (cs : List Value), cs.length = off + E.n →
    (∀ (j : Nat) (f : Field), fs[j]? = some f → ∃ y, DataW.trod enc P w base spare held m f.type ((cs.drop f.offset).take (P.cellsOf f.type)) = some y) → ∃ d, E.R w (fun k => k < w.heap.size) d (cs.drop off) ∧ WF d
theorem fields_last {i off : Nat} {α : Type} {E : Rep α} {WF : α → Prop} {fs : Array Field} {f : Field} (h : fs[i]? = some f) (ho : f.offset = off) (hc : P.cellsOf f.type = E.n) (o : Opens P f.type E WF) : FieldsAt P fs i off E WF := by
  intro H enc w base spare held m cs hl hf
  obtain ⟨y, hy⟩ := hf i f h
  obtain ⟨d, r, wf⟩ := o enc w base spare held m _ _ hy
  rw [ho, hc, List.take_of_length_le (by rw [List.length_drop, hl]; omega)] at r
  exact ⟨d, r, wf⟩
theorem fields_cons {i off : Nat} {α β : Type} {Ea : Rep α} {Eb : Rep β} {WF0 : α → Prop} {WF1 : β → Prop} {fs : Array Field} {f : Field} (h : fs[i]? = some f) (ho : f.offset = off) (hc : P.cellsOf f.type = Ea.n) (o : Opens P f.type Ea WF0) (hr : FieldsAt P fs (i + 1) (off + Ea.n) Eb WF1) :
    FieldsAt P fs i off (Rep.pair Ea Eb) (fun x => WF0 x.1 ∧ WF1 x.2) := by
  intro H enc w base spare held m cs hl hf
  have hl' : cs.length = off + (Ea.n + Eb.n) := hl
  obtain ⟨y, hy⟩ := hf i f h
  obtain ⟨d, r, wf⟩ := o enc w base spare held m _ _ hy
  obtain ⟨d2, r2, wf2⟩ := hr enc w base spare held m cs (by omega) hf
  rw [ho, hc] at r
  refine ⟨(d, d2), ⟨_, _, ?_, r, r2⟩, wf, wf2⟩
  rw [← List.drop_drop]
  exact (List.take_append_drop Ea.n (cs.drop off)).symm
theorem opens_struct {α : Type} {E : Rep α} {WF : α → Prop} {fs : Array Field} (ht : P.underlying t = some (.struct fs)) (hn : P.cellsOf t = E.n) (h : FieldsAt P fs 0 0 E WF) : Opens P t E WF := by
  intro H enc w base spare held fuel cs x hx
  obtain ⟨ys, m, _, _, hl, hyl, hget⟩ := DataW.trod_struct ht hx
  have := h enc w base spare held m cs (by rw [hl, hn]; omega) (fun j f hf => by
    have h1 := hget j f hf
    have hj : j < ys.length := by rw [hyl]; exact (Array.getElem?_eq_some_iff.1 hf).1
    rw [List.getElem?_eq_getElem hj] at h1
    exact ⟨_, h1⟩)
  rwa [List.drop_zero] at this
theorem opens_iso {α β : Type} {E : Rep α} {WF : α → Prop} (f : β → α) (g : α → β) (hfg : ∀ y, f (g y) = y) (h : Opens P t E WF) : Opens P t (Rep.iso E f) (fun x => WF (f x)) := by
  intro H enc w base spare held fuel cs x hx
  obtain ⟨d, hd, hw⟩ := h enc w base spare held fuel cs x hx
  exact ⟨g d, by show E.R w _ (f (g d)) cs; rw [hfg]; exact hd, by show WF (f (g d)); rw [hfg]; exact hw⟩
theorem agg_of_cells {v : Value} {cs : List Value} (h : v.cells.toList = cs) (hl : cs.length ≠ 1) : v = .agg cs.toArray := by
  subst h
  cases v <;> first | (simp [Value.cells]; done) | (exfalso; apply hl; simp [Value.cells])
end

end Go.Proofs.Ytlcnoibjhmflnaa.Sx
