/- Fields: the laws over lists of fields. -/
import Derived.Test.YtjcpjkdadigkpaaCodD
set_option linter.unusedVariables false
set_option linter.unusedSimpArgs false
namespace Go.Proofs.Ytjcpjkdadigkpaa.Cod
open Go.RowKit Go.Proofs.Ytjcpjkdadigkpaa.Sx
theorem few_len {xs : List Fld} (h : fewI xs = true) : xs.length ≤ 250 := by
  unfold fewI at h
  rw [Bool.and_eq_true] at h
  simpa using h.1
theorem few_short {xs : List Fld} (h : fewI xs = true) : short xs = true := by
  unfold fewI at h
  rw [Bool.and_eq_true] at h
  exact h.2
theorem short_app {xs ys : List Fld} (h : short xs = true) (k : short ys = true) : short (([] ++ xs) ++ ys) = true := by
  unfold short at *
  rw [List.nil_append, List.all_append, h, k]; rfl
theorem find_app_some {xs ys : List Fld} {tag : Int} {d : List Int} (h : findI xs tag = some d) : findI (([] ++ xs) ++ ys) tag = some d := by
  unfold findI at *
  rw [List.nil_append, List.find?_append]
  rw [Option.map_eq_some_iff] at h ⊢
  obtain ⟨f, h1, h2⟩ := h
  exact ⟨f, by rw [h1]; rfl, h2⟩
theorem find_app_none {xs ys : List Fld} {tag : Int} (h : findI xs tag = none) : findI (([] ++ xs) ++ ys) tag = findI ys tag := by
  unfold findI at *
  rw [List.nil_append, List.find?_append]
  rw [Option.map_eq_none_iff] at h
  rw [h]; rfl
theorem take_all {xs : List Fld} {k : Nat} {tag : Int} (hk : k = xs.length) (h : findI (xs.take k) tag = none) : findI xs tag = none := by
  subst hk; rwa [List.take_length] at h
end Go.Proofs.Ytjcpjkdadigkpaa.Cod
