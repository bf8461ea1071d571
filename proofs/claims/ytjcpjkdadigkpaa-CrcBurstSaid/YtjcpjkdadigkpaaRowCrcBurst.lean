/- CrcBurst: for every three lists of bytes, the middle cut to at most four, and every four other bytes, the law returns true, and its arguments read as before; no condition. -/
import Derived.Test.YtjcpjkdadigkpaaRows
import Derived.Test.YtjcpjkdadigkpaaOpen
import Derived.Test.YtjcpjkdadigkpaaCrcA
import Derived.Test.YtjcpjkdadigkpaaCrcB
import Derived.WalkKit
import Derived.ProofKit
import Derived.OpenShut
import Derived.ShutString
import Derived.ChangeOld
import Derived.Below
import Derived.SizedLaws
namespace Go.Proofs.Ytjcpjkdadigkpaa.crcBurst
open Go.ChangeShapes Go.WideShapes Go.ChangeAt Go.RowKit Go.Proofs.Ytjcpjkdadigkpaa.Sx
open Go.ChangeMaps (open_string shut_string)
set_option linter.unusedVariables false
theorem own : ownKnob Try.prog.godebug = none := by kernel_rfl
theorem laidOut : laidOutB Try.prog = true := by kernel_rfl
set_option maxRecDepth 100000 in
theorem lifted (os : Os) (started : os.Started) (H : Type) (enc : TypeId × Value → H) :
    ReturnsInHanded {} Try.checked os 3 .any (Rows.crcBurstSpec.pre6 enc Try.prog Try.f3 Rows.crcBurstRow.domain false) (Rows.crcBurstSpec.post enc Try.prog Try.f3 false true false false) := by
  refine returnsInHanded_of_change_sized (C := Try.checked) own started (by kernel_rfl) Try.func3
    (ChangeSpec.witness6 (enc := enc) (C := Try.checked) false ⟨#[], #[.agg #[.slice none 0 0, .slice none 0 0, .slice none 0 0], .agg #[.int .u8 0, .int .u8 0, .int .u8 0, .int .u8 0]], []⟩ 8 (by kernel_rfl) (by kernel_rfl) (by kernel_rfl) (by kernel_rfl)) ?_
  intro W base args ds gs before hval0 hW hcnd hsz0 _
  have hval : ∀ (j : Nat) t v, Try.f3.params[j]? = some t → args[j]? = some v → Value.okWide Try.prog W .any base t v := hval0
  have hW' := hW
  obtain ⟨p, q, hA0, hV, rfl, hfz, hnd⟩ := hW
  have hA : DataW.TrodAll enc Try.prog W 0 (fun _ => true) true Try.f3.params.toList args.toList ds p := hA0
  rw [Try.params3] at hA hval
  obtain ⟨v0, vs0, d0, ds0, p0, q0, hargs, rfl, rfl, h0, r0⟩ := trodAll_cons hA
  obtain ⟨v1, vs1, d1, ds1, p1, q1, rfl, rfl, rfl, h1, r1⟩ := trodAll_cons r0
  obtain ⟨rfl, rfl, rfl⟩ := trodAll_nil r1
  obtain rfl : args = #[v0, v1] := by cases args; simp_all
  obtain ⟨rfl, rfl⟩ := trodVars_none hV
  have k0 := h0
  have lt0 : ∀ x ∈ p0, x.block < W.heap.size := by obtain ⟨m, hm⟩ := k0; exact DataW.trod_lt m _ _ _ hm
  obtain ⟨fuel0, hf0⟩ := h0
  obtain ⟨x0, R0, wf0⟩ := (opens_array (by decide) Try.underlying23 (by kernel_rfl) (by kernel_rfl) (opens_slice Try.underlying22 (by kernel_rfl) (opens_int Try.underlying5))) _ _ _ _ _ _ _ _ hf0
  clear hf0
  obtain ⟨hl0, hel0⟩ := R0
  obtain ⟨l0, l1, l2, rfl⟩ : ∃ l0 l1 l2, x0 = [l0, l1, l2] := by match x0, hl0 with | [a, b, c], _ => exact ⟨a, b, c, rfl⟩
  obtain ⟨_, e0, hc0, ⟨A0, c0, rfl, rd0⟩, hel1⟩ := hel0.cons_inv
  obtain ⟨_, e1, rfl, ⟨A1, c1, rfl, rd1⟩, hel2⟩ := hel1.cons_inv
  obtain ⟨_, e2, rfl, ⟨A2, c2, rfl, rd2⟩, hel3⟩ := hel2.cons_inv
  obtain rfl : e2 = [] := List.length_eq_zero_iff.1 (by simpa using hel3.1)
  obtain rfl := agg_of_cells hc0 (by simp)
  have k1 := h1
  have lt1 : ∀ x ∈ p1, x.block < W.heap.size := by obtain ⟨m, hm⟩ := k1; exact DataW.trod_lt m _ _ _ hm
  obtain ⟨fuel1, hf1⟩ := h1
  obtain ⟨x1, R1, wf1⟩ := (opens_array (by decide) Try.underlying24 (by kernel_rfl) (by kernel_rfl) (opens_int Try.underlying5)) _ _ _ _ _ _ _ _ hf1
  clear hf1
  obtain ⟨hl1, hb1⟩ := R1
  obtain rfl := agg_of_cells (elems_flat.1 hb1) (by simp [hl1])
  clear hA0 hval0 hsz0
  refine Calls.mono (Crc.burst_calls W rd0 rd1 rd2 hl1 (fun m hm => Crc.burst_law l0 l1 l2 x1 (fun n hn => byte_wf (wf0.2 l1 (by simp) n hn)) (fun n hn => byte_wf (wf1.2 n hn)) hl1 m hm)) ?_
  suffices h : ∀ e W', (e = Ending.returned (.bool true) ∧ Below W.heap.size W W') → _ from fun e W' he => h e W' ⟨he.1, he.2.below⟩
  rintro e W' ⟨he, bel⟩
  subst he
  exact ⟨_, rfl, _, _, _, [], _, [], hW', trodAll_mk1 (shut_bool Try.underlying4 _), (trodAll_cons_mk (Below.trod laidOut (by kernel_rfl) (of_decide_eq_true (by kernel_rfl)) k0 bel lt0) (trodAll_cons_mk (Below.trod laidOut (by kernel_rfl) (of_decide_eq_true (by kernel_rfl)) k1 bel lt1) trodAll_mk0)), rfl, bel.frame _, fun h => by cases h⟩
theorem over : Rows.crcBurstRow.holds Try.pinned (OpenSpec.ofChange Rows.crcBurstSpec) :=
  OpenClaim.holds_of_wide 3 Try.f3 rfl rfl rfl rfl rfl rfl rfl ⟨rfl, rfl, rfl, rfl, rfl⟩ rfl rfl rfl rfl rfl (by kernel_rfl) Try.func3 (by kernel_rfl)
    (of_decide_eq_true (by kernel_rfl)) (by unfold Func.isWrapper; first | (rw [if_pos (by decide +kernel)]; kernel_rfl) | (rw [if_neg (by decide +kernel)]; exact ⟨rfl, rfl⟩))
    (fun os started H enc _ => lifted os started H enc)
end Go.Proofs.Ytjcpjkdadigkpaa.crcBurst
namespace Go.Proofs.Ytjcpjkdadigkpaa
/-- The row. -/
theorem crcBurst_holds : Rows.CrcBurstSaid := crcBurst.over
#print axioms crcBurst_holds
end Go.Proofs.Ytjcpjkdadigkpaa
