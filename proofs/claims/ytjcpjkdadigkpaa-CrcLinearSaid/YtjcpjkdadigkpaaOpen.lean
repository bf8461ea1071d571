/- From a row's reading of the arguments to this claim's own words. -/
import Derived.Test.YtjcpjkdadigkpaaSx
import Derived.ProofKit
import Derived.OpenShut
set_option linter.unusedVariables false
set_option linter.unusedSimpArgs false
namespace Go.Proofs.Ytjcpjkdadigkpaa.Sx
open Go.RowKit

theorem block_of_cell {w : World} {x : Addr} {v : Value} (h : w.cell? x = some v) : ∃ arr T fz, x = ⟨x.block, x.off, Option.none⟩ ∧ w.heap[x.block]? = some (.cells arr T fz) ∧ arr[x.off]? = some v := by
  unfold World.cell? at h
  split at h
  · rename_i c T fz hc
    cases x with
    | mk b o s =>
      cases s with
      | none => exact ⟨c, T, fz, rfl, hc, by simpa using h⟩
      | some s => simp at h
  · cases h
/-- A slice of elements of one cell, as the row reads it. -/
theorem rd_of_cells {α : Type} {enc : α → Value} {h1 : ∀ x, (enc x).oneCell' = true} {w : World} {x : Addr} {len cap : Nat} (zs : List α) (hl : len ≤ cap) (hm : cap ≤ maxLen) (hz : zs.length = cap) (hc : ∀ i y, zs[i]? = some y → w.cell? (x.add i) = some (enc y)) :
    Rd (Rep.flat enc h1) w (fun k => k < w.heap.size) (some x) (zs.take len) cap ∧ (zs.take len).length = len := by
  have hlen : (zs.take len).length = len := by rw [List.length_take]; omega
  refine ⟨⟨by omega, hm, fun h0 => ?_⟩, hlen⟩
  have hz0 : 0 < zs.length := by omega
  have c0 := hc 0 zs[0] (List.getElem?_eq_getElem hz0)
  rw [show x.add 0 = x from rfl] at c0
  obtain ⟨arr, T, fz, hx, hh, _⟩ := block_of_cell c0
  refine ⟨x.block, x.off, arr, T, fz, by rw [← hx], (Array.getElem?_eq_some_iff.1 hh).1, hh, (zs.take len).map enc, fun j u hj => ?_, elems_flat.2 rfl⟩
  rw [List.getElem?_map, Option.map_eq_some_iff] at hj
  obtain ⟨y, hy, rfl⟩ := hj
  have hy2 : zs[j]? = some y := by
    rw [List.getElem?_take] at hy
    split at hy
    · exact hy
    · cases hy
  have c1 := hc j y hy2
  have hx2 : x.add j = ⟨x.block, x.off + j, Option.none⟩ := by
    conv => lhs; rw [hx]
    exact add_off _ _ _
  rw [hx2, cell_of_row w x.block (x.off + j) arr T fz hh] at c1
  exact c1
/-- A slice of whole numbers: what 'open_ints' gives. -/
theorem rd_ints {W : World} {k : IntKind} {a : Option Addr} {len cap : Nat}
    (h : (a = Option.none ∧ len = 0 ∧ cap = 0) ∨ ∃ (x : Addr) (zs : List Int), a = some x ∧ len ≤ cap ∧ cap ≤ maxLen ∧ zs.length = cap ∧ (∀ i, i < zs.length → W.cell? (x.add i) = some (.int k (zs.getD i 0))) ∧ ∀ n ∈ zs, (Lit.int k n).wf = true) :
    ∃ xs : List Int, Rd (.int k) W (fun i => i < W.heap.size) a xs cap ∧ xs.length = len ∧ ∀ n ∈ xs, (Lit.int k n).wf = true := by
  rcases h with ⟨rfl, rfl, rfl⟩ | ⟨x, zs, rfl, hl, hm, hz, hcell, hw⟩
  · exact ⟨[], Rd.nil _ _ _, rfl, fun n hn => by cases hn⟩
  · obtain ⟨h1, h2⟩ := rd_of_cells (enc := Value.int k) (h1 := fun _ => rfl) (len := len) zs hl hm hz (fun i y hy => by
      have hi : i < zs.length := (List.getElem?_eq_some_iff.1 hy).1
      have := hcell i hi
      rw [List.getD_eq_getElem?_getD, hy] at this
      exact this)
    exact ⟨_, h1, h2, fun n hn => hw n (List.mem_of_mem_take hn)⟩
theorem byte_wf {n : Int} (h : (Lit.int .u8 n).wf = true) : 0 ≤ n ∧ n < 256 := by
  simp [Lit.wf, IntKind.min, IntKind.max, IntKind.signed, IntKind.bits] at h
  omega

end Go.Proofs.Ytjcpjkdadigkpaa.Sx
