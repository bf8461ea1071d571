/- Actions: decoding, the document's numbers, what is alike, plain. -/
import Derived.Test.YtiiklnghnifmjaaDoorActSZu
set_option linter.unusedVariables false
set_option linter.unusedSimpArgs false
namespace Go.Proofs.YtiiklnghnifmjaaDoor.Act
open Go.RowKit Go.Proofs.YtiiklnghnifmjaaDoor.Sx Go.Proofs.YtiiklnghnifmjaaDoor.Cod Go.Proofs.YtiiklnghnifmjaaDoor.Num
/-! ### steps of fields -/
/-! ### an action's bytes, decoded -/
/-! ### one step -/
/-! ### few -/
/-! ### the document's numbers -/
/-! ### the document's Decode -/
structure RInv (l : List Fld) (k : Nat) (out : List StepD) : Prop where
  len : out.length = k
  at_ : ∀ j, j < k → (∀ s', stepF (gf l (j : Int)) = some s' → gst out (j : Int) = s') ∧ StepB (gst out (j : Int))
theorem RInv.nil (l : List Fld) : RInv l 0 [] := ⟨rfl, fun j hj => by omega⟩
theorem gst_snoc_lt {out : List StepD} {s : StepD} {j : Nat} (h : j < out.length) : gst (out ++ [s]) (j : Int) = gst out (j : Int) := by
  unfold gst
  rw [Int.toNat_natCast, List.getD_eq_getElem?_getD, List.getD_eq_getElem?_getD, List.getElem?_append_left h]
theorem gst_snoc_eq {out : List StepD} {s : StepD} {j : Nat} (h : j = out.length) : gst (out ++ [s]) (j : Int) = s := by
  subst h
  unfold gst
  rw [Int.toNat_natCast, List.getD_eq_getElem?_getD, List.getElem?_append_right (Nat.le_refl _), Nat.sub_self]; rfl
theorem RInv.step {l : List Fld} {k : Nat} {out : List StepD} (h : RInv l k out) {s : StepD} (hs : ∀ s', stepF (gf l (k : Int)) = some s' → s = s') (hb : StepB s) : RInv l (k + 1) (out ++ [s]) := by
  refine ⟨by rw [List.length_append, h.len]; rfl, fun j hj => ?_⟩
  rcases Nat.lt_or_ge j k with h1 | h1
  · rw [gst_snoc_lt (by rw [h.len]; exact h1)]; exact h.at_ j h1
  · obtain rfl : j = k := by omega
    rw [gst_snoc_eq h.len.symm]; exact ⟨hs, hb⟩
theorem RInv.bytes {l : List Fld} {k : Nat} {out : List StepD} (h : RInv l k out) : ∀ s ∈ out, StepB s := by
  intro s hs
  obtain ⟨j, hj, rfl⟩ := List.getElem_of_mem hs
  have := (h.at_ j (by rw [← h.len]; exact hj)).2
  have e : gst out (j : Int) = out[j] := by simp [gst, List.getD_eq_getElem?_getD, hj]
  rwa [e] at this
/-! ### alike -/
/-! ### a byte less -/
end Go.Proofs.YtiiklnghnifmjaaDoor.Act
