/- DiskApart: whatever script and act, the law returns true, and its arguments read as before; no condition. -/
import Derived.Test.YtkocinnoncacgaaRows
import Derived.Test.YtkocinnoncacgaaOpen
import Derived.Test.YtkocinnoncacgaaDskF
import Derived.WalkKit
import Derived.ProofKit
import Derived.OpenShut
import Derived.ShutString
import Derived.ChangeOld
import Derived.Below
import Derived.SizedLaws
namespace Go.Proofs.Ytkocinnoncacgaa.diskApart
open Go.ChangeShapes Go.WideShapes Go.ChangeAt Go.RowKit Go.Proofs.Ytkocinnoncacgaa.Sx
open Go.ChangeMaps (open_string shut_string)
set_option linter.unusedVariables false
theorem own : ownKnob Try.prog.godebug = none := by kernel_rfl
theorem laidOut : laidOutB Try.prog = true := by kernel_rfl
set_option maxRecDepth 100000 in
theorem lifted (os : Os) (started : os.Started) (H : Type) (enc : TypeId × Value → H) :
    ReturnsInHanded {} Try.checked os 7 .any (Rows.diskApartSpec.pre6 enc Try.prog Try.f7 Rows.diskApartRow.domain false) (Rows.diskApartSpec.post enc Try.prog Try.f7 false true false false) := by
  refine returnsInHanded_of_change_sized (C := Try.checked) own started (by kernel_rfl) Try.func7
    (ChangeSpec.witness6 (enc := enc) (C := Try.checked) false ⟨#[], #[.slice none 0 0, .agg #[.int .i64 0, .int .i64 0, .int .i64 0, .slice none 0 0, .slice none 0 0]], []⟩ 8 (by kernel_rfl) (by kernel_rfl) (by kernel_rfl) (by kernel_rfl)) ?_
  intro W base args ds gs before hval0 hW hcnd hsz0 _
  have hval : ∀ (j : Nat) t v, Try.f7.params[j]? = some t → args[j]? = some v → Value.okWide Try.prog W .any base t v := hval0
  have hW' := hW
  obtain ⟨p, q, hA0, hV, rfl, hfz, hnd⟩ := hW
  have hA : DataW.TrodAll enc Try.prog W 0 (fun _ => true) true Try.f7.params.toList args.toList ds p := hA0
  rw [Try.params7] at hA hval
  obtain ⟨v0, vs0, d0, ds0, p0, q0, hargs, rfl, rfl, h0, r0⟩ := trodAll_cons hA
  obtain ⟨v1, vs1, d1, ds1, p1, q1, rfl, rfl, rfl, h1, r1⟩ := trodAll_cons r0
  obtain ⟨rfl, rfl, rfl⟩ := trodAll_nil r1
  obtain rfl : args = #[v0, v1] := by cases args; simp_all
  obtain ⟨rfl, rfl⟩ := trodVars_none hV
  obtain ⟨a0, len0, cap0, rfl⟩ := okWide_slice Try.underlying57 (hval 0 57 v0 rfl rfl)
  have k0 := h0
  have lt0 : ∀ x ∈ p0, x.block < W.heap.size := by obtain ⟨m, hm⟩ := k0; exact DataW.trod_lt m _ _ _ hm
  obtain ⟨fuel0, hf0⟩ := h0
  obtain ⟨x0, ⟨A0, c0, hcs0, rd0⟩, wf0⟩ := (opens_slice Try.underlying57 (by kernel_rfl) (opens_struct (E := (Rep.pair (Rep.int .i64) (Rep.pair (Rep.int .i64) (Rep.pair (Rep.int .i64) (Rep.pair (Rep.slice (Rep.int .u8)) (Rep.slice (Rep.int .i64))))))) Try.underlying63 (by kernel_rfl) (fields_cons (i := 0) (off := 0) (Ea := (Rep.int .i64)) (Eb := (Rep.pair (Rep.int .i64) (Rep.pair (Rep.int .i64) (Rep.pair (Rep.slice (Rep.int .u8)) (Rep.slice (Rep.int .i64)))))) rfl rfl (by kernel_rfl) (opens_int Try.underlying3) (fields_cons (i := 1) (off := 1) (Ea := (Rep.int .i64)) (Eb := (Rep.pair (Rep.int .i64) (Rep.pair (Rep.slice (Rep.int .u8)) (Rep.slice (Rep.int .i64))))) rfl rfl (by kernel_rfl) (opens_int Try.underlying3) (fields_cons (i := 2) (off := 2) (Ea := (Rep.int .i64)) (Eb := (Rep.pair (Rep.slice (Rep.int .u8)) (Rep.slice (Rep.int .i64)))) rfl rfl (by kernel_rfl) (opens_int Try.underlying3) (fields_cons (i := 3) (off := 3) (Ea := (Rep.slice (Rep.int .u8))) (Eb := (Rep.slice (Rep.int .i64))) rfl rfl (by kernel_rfl) (opens_slice Try.underlying42 (by kernel_rfl) (opens_int Try.underlying5)) (fields_last (i := 4) (off := 4) (E := (Rep.slice (Rep.int .i64))) rfl rfl (by kernel_rfl) (opens_slice Try.underlying32 (by kernel_rfl) (opens_int Try.underlying3))))))))) _ _ _ _ _ _ _ _ hf0
  clear hf0
  simp [Value.cells] at hcs0
  obtain ⟨rfl, rfl, rfl⟩ := hcs0
  have k1 := h1
  have lt1 : ∀ x ∈ p1, x.block < W.heap.size := by obtain ⟨m, hm⟩ := k1; exact DataW.trod_lt m _ _ _ hm
  obtain ⟨fuel1, hf1⟩ := h1
  obtain ⟨x1, R1, wf1⟩ := (opens_struct (E := (Rep.pair (Rep.int .i64) (Rep.pair (Rep.int .i64) (Rep.pair (Rep.int .i64) (Rep.pair (Rep.slice (Rep.int .u8)) (Rep.slice (Rep.int .i64))))))) Try.underlying63 (by kernel_rfl) (fields_cons (i := 0) (off := 0) (Ea := (Rep.int .i64)) (Eb := (Rep.pair (Rep.int .i64) (Rep.pair (Rep.int .i64) (Rep.pair (Rep.slice (Rep.int .u8)) (Rep.slice (Rep.int .i64)))))) rfl rfl (by kernel_rfl) (opens_int Try.underlying3) (fields_cons (i := 1) (off := 1) (Ea := (Rep.int .i64)) (Eb := (Rep.pair (Rep.int .i64) (Rep.pair (Rep.slice (Rep.int .u8)) (Rep.slice (Rep.int .i64))))) rfl rfl (by kernel_rfl) (opens_int Try.underlying3) (fields_cons (i := 2) (off := 2) (Ea := (Rep.int .i64)) (Eb := (Rep.pair (Rep.slice (Rep.int .u8)) (Rep.slice (Rep.int .i64)))) rfl rfl (by kernel_rfl) (opens_int Try.underlying3) (fields_cons (i := 3) (off := 3) (Ea := (Rep.slice (Rep.int .u8))) (Eb := (Rep.slice (Rep.int .i64))) rfl rfl (by kernel_rfl) (opens_slice Try.underlying42 (by kernel_rfl) (opens_int Try.underlying5)) (fields_last (i := 4) (off := 4) (E := (Rep.slice (Rep.int .i64))) rfl rfl (by kernel_rfl) (opens_slice Try.underlying32 (by kernel_rfl) (opens_int Try.underlying3)))))))) _ _ _ _ _ _ _ _ hf1
  clear hf1
  obtain ⟨Ab1, cb1, Ak1, ck1, rfl, rdb1, rdk1⟩ := Dsk.act_open R1
  clear hA0 hval0 hsz0
  refine Calls.mono (Dsk.apart_calls W _ _ _ rd0 rdb1) ?_
  suffices h : ∀ e W', (e = Ending.returned (.bool true) ∧ Below W.heap.size W W') → _ from fun e W' he => h e W' ⟨he.1, he.2.below⟩
  rintro e W' ⟨he, bel⟩
  subst he
  exact ⟨_, rfl, _, _, _, [], _, [], hW', trodAll_mk1 (shut_bool Try.underlying4 _), (trodAll_cons_mk (Below.trod laidOut (by kernel_rfl) (of_decide_eq_true (by kernel_rfl)) k0 bel lt0) (trodAll_cons_mk (Below.trod laidOut (by kernel_rfl) (of_decide_eq_true (by kernel_rfl)) k1 bel lt1) trodAll_mk0)), rfl, bel.frame _, fun h => by cases h⟩
theorem over : Rows.diskApartRow.holds Try.pinned (OpenSpec.ofChange Rows.diskApartSpec) :=
  OpenClaim.holds_of_wide 7 Try.f7 rfl rfl rfl rfl rfl rfl rfl ⟨rfl, rfl, rfl, rfl, rfl⟩ rfl rfl rfl rfl rfl (by kernel_rfl) Try.func7 (by kernel_rfl)
    (of_decide_eq_true (by kernel_rfl)) (by unfold Func.isWrapper; first | (rw [if_pos (by decide +kernel)]; kernel_rfl) | (rw [if_neg (by decide +kernel)]; exact ⟨rfl, rfl⟩))
    (fun os started H enc _ => lifted os started H enc)
end Go.Proofs.Ytkocinnoncacgaa.diskApart
namespace Go.Proofs.Ytkocinnoncacgaa
/-- The row. -/
theorem diskApart_holds : Rows.DiskApartSaid := diskApart.over
#print axioms diskApart_holds
end Go.Proofs.Ytkocinnoncacgaa
