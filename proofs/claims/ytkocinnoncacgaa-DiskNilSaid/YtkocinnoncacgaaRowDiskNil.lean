/- DiskNil: whatever act, the law returns true, and its argument reads as before; no condition. -/
import Derived.Test.YtkocinnoncacgaaRows
import Derived.Test.YtkocinnoncacgaaOpen
import Derived.Test.YtkocinnoncacgaaDskE
import Derived.WalkKit
import Derived.ProofKit
import Derived.OpenShut
import Derived.ShutString
import Derived.ChangeOld
import Derived.Below
import Derived.SizedLaws
namespace Go.Proofs.Ytkocinnoncacgaa.diskNil
open Go.ChangeShapes Go.WideShapes Go.ChangeAt Go.RowKit Go.Proofs.Ytkocinnoncacgaa.Sx
open Go.ChangeMaps (open_string shut_string)
set_option linter.unusedVariables false
theorem own : ownKnob Try.prog.godebug = none := by kernel_rfl
theorem laidOut : laidOutB Try.prog = true := by kernel_rfl
set_option maxRecDepth 100000 in
theorem lifted (os : Os) (started : os.Started) (H : Type) (enc : TypeId × Value → H) :
    ReturnsInHanded {} Try.checked os 8 .any (Rows.diskNilSpec.pre6 enc Try.prog Try.f8 Rows.diskNilRow.domain false) (Rows.diskNilSpec.post enc Try.prog Try.f8 false true false false) := by
  refine returnsInHanded_of_change_sized (C := Try.checked) own started (by kernel_rfl) Try.func8
    (ChangeSpec.witness6 (enc := enc) (C := Try.checked) false ⟨#[], #[.agg #[.int .i64 0, .int .i64 0, .int .i64 0, .slice none 0 0, .slice none 0 0]], []⟩ 8 (by kernel_rfl) (by kernel_rfl) (by kernel_rfl) (by kernel_rfl)) ?_
  intro W base args ds gs before hval0 hW hcnd hsz0 _
  have hval : ∀ (j : Nat) t v, Try.f8.params[j]? = some t → args[j]? = some v → Value.okWide Try.prog W .any base t v := hval0
  have hW' := hW
  obtain ⟨p, q, hA0, hV, rfl, hfz, hnd⟩ := hW
  have hA : DataW.TrodAll enc Try.prog W 0 (fun _ => true) true Try.f8.params.toList args.toList ds p := hA0
  rw [Try.params8] at hA hval
  obtain ⟨v0, vs0, d0, ds0, p0, q0, hargs, rfl, rfl, h0, r0⟩ := trodAll_cons hA
  obtain ⟨rfl, rfl, rfl⟩ := trodAll_nil r0
  obtain rfl : args = #[v0] := by cases args; simp_all
  obtain ⟨rfl, rfl⟩ := trodVars_none hV
  have k0 := h0
  have lt0 : ∀ x ∈ p0, x.block < W.heap.size := by obtain ⟨m, hm⟩ := k0; exact DataW.trod_lt m _ _ _ hm
  obtain ⟨fuel0, hf0⟩ := h0
  obtain ⟨x0, R0, wf0⟩ := (opens_struct (E := (Rep.pair (Rep.int .i64) (Rep.pair (Rep.int .i64) (Rep.pair (Rep.int .i64) (Rep.pair (Rep.slice (Rep.int .u8)) (Rep.slice (Rep.int .i64))))))) Try.underlying63 (by kernel_rfl) (fields_cons (i := 0) (off := 0) (Ea := (Rep.int .i64)) (Eb := (Rep.pair (Rep.int .i64) (Rep.pair (Rep.int .i64) (Rep.pair (Rep.slice (Rep.int .u8)) (Rep.slice (Rep.int .i64)))))) rfl rfl (by kernel_rfl) (opens_int Try.underlying3) (fields_cons (i := 1) (off := 1) (Ea := (Rep.int .i64)) (Eb := (Rep.pair (Rep.int .i64) (Rep.pair (Rep.slice (Rep.int .u8)) (Rep.slice (Rep.int .i64))))) rfl rfl (by kernel_rfl) (opens_int Try.underlying3) (fields_cons (i := 2) (off := 2) (Ea := (Rep.int .i64)) (Eb := (Rep.pair (Rep.slice (Rep.int .u8)) (Rep.slice (Rep.int .i64)))) rfl rfl (by kernel_rfl) (opens_int Try.underlying3) (fields_cons (i := 3) (off := 3) (Ea := (Rep.slice (Rep.int .u8))) (Eb := (Rep.slice (Rep.int .i64))) rfl rfl (by kernel_rfl) (opens_slice Try.underlying42 (by kernel_rfl) (opens_int Try.underlying5)) (fields_last (i := 4) (off := 4) (E := (Rep.slice (Rep.int .i64))) rfl rfl (by kernel_rfl) (opens_slice Try.underlying32 (by kernel_rfl) (opens_int Try.underlying3)))))))) _ _ _ _ _ _ _ _ hf0
  clear hf0
  obtain ⟨Ab0, cb0, Ak0, ck0, rfl, rdb0, rdk0⟩ := Dsk.act_open R0
  clear hA0 hval0 hsz0
  refine Calls.mono (Dsk.nil_calls W _ _ _ _ _ _ _ _ _) ?_
  suffices h : ∀ e W', (e = Ending.returned (.bool true) ∧ Below W.heap.size W W') → _ from fun e W' he => h e W' ⟨he.1, he.2.below⟩
  rintro e W' ⟨he, bel⟩
  subst he
  exact ⟨_, rfl, _, _, _, [], _, [], hW', trodAll_mk1 (shut_bool Try.underlying4 _), (trodAll_cons_mk (Below.trod laidOut (by kernel_rfl) (of_decide_eq_true (by kernel_rfl)) k0 bel lt0) trodAll_mk0), rfl, bel.frame _, fun h => by cases h⟩
theorem over : Rows.diskNilRow.holds Try.pinned (OpenSpec.ofChange Rows.diskNilSpec) :=
  OpenClaim.holds_of_wide 8 Try.f8 rfl rfl rfl rfl rfl rfl rfl ⟨rfl, rfl, rfl, rfl, rfl⟩ rfl rfl rfl rfl rfl (by kernel_rfl) Try.func8 (by kernel_rfl)
    (of_decide_eq_true (by kernel_rfl)) (by unfold Func.isWrapper; first | (rw [if_pos (by decide +kernel)]; kernel_rfl) | (rw [if_neg (by decide +kernel)]; exact ⟨rfl, rfl⟩))
    (fun os started H enc _ => lifted os started H enc)
end Go.Proofs.Ytkocinnoncacgaa.diskNil
namespace Go.Proofs.Ytkocinnoncacgaa
/-- The row. -/
theorem diskNil_holds : Rows.DiskNilSaid := diskNil.over
#print axioms diskNil_holds
end Go.Proofs.Ytkocinnoncacgaa
