/- SessionEncodes: whatever request, and bytes, the law returns true and its arguments read as before; the listed variables of the library's are tied to the program's text; no other condition. -/
import Derived.Test.YtiiklnghnifmjaaGreatDoorCards
import Derived.Test.YtiiklnghnifmjaaGreatDoorTie
import Derived.SevenTiedAt
import Derived.LaidMore
import Derived.Stop.Joined
import Derived.Lib.LaidTab
import Derived.Stop.LaidErr
import Derived.Test.YtiiklnghnifmjaaGreatDoorRows
import Derived.Test.YtiiklnghnifmjaaGreatDoorOpenZc
import Derived.Test.YtiiklnghnifmjaaGreatDoorSesQZc
import Derived.WalkKit
import Derived.ProofKit
import Derived.OpenShut
import Derived.ShutString
import Derived.ChangeOld
import Derived.Below
import Derived.SizedLaws
namespace Go.Proofs.YtiiklnghnifmjaaGreatDoor.sessionEncodes
open Go.ChangeShapes Go.WideShapes Go.ChangeAt Go.RowKit Go.Proofs.YtiiklnghnifmjaaGreatDoor.Sx
open Go.ChangeMaps (open_string shut_string)
set_option linter.unusedVariables false
theorem own : ownKnob Tryz.prog.godebug = none := by kernel_rfl
theorem laidOut : laidOutB Tryz.prog = true := by kernel_rfl
def laids : List (String × DataW Unit) := [("math/bits.deBruijn32tab", Rows.laid_math_bits_deBruijn32tab), ("math/bits.deBruijn64tab", Rows.laid_math_bits_deBruijn64tab), ("internal/strconv.uint64pow10", Rows.laid_internal_strconv_uint64pow10), ("strconv.ErrRange", Rows.laid_strconv_ErrRange), ("strconv.ErrSyntax", Rows.laid_strconv_ErrSyntax)]
theorem tyT : (Tryz.prog.globals[0]?).map (·.type) = some 150 := by kernel_rfl
theorem tyR : (Tryz.prog.globals[4]?).map (·.type) = some 145 := by kernel_rfl
theorem tyS : (Tryz.prog.globals[3]?).map (·.type) = some 145 := by kernel_rfl
theorem starE : "*" ++ "errors.errorString" = "*errors.errorString" := by decide
theorem rowE (u : TypeId) (h : Tryz.prog.typeName? 3 u = some "*errors.errorString") : u = 168 :=
  typeName_ptr_named (nm := "errors.errorString") (by rw [starE]; kernel_rfl) (by kernel_rfl) (by decide) u (by rw [starE]; exact h)
set_option maxRecDepth 100000 in
theorem of_laid {W : World} (h : laidMetH Tryz.prog laids W) : LibAt true W := by
  rw [MakeChecks.laidMetH_plain _ _ _ (by kernel_rfl)] at h
  unfold laids at h
  obtain ⟨aR, sR, hR, _⟩ := laid_sentinel (h.tail.tail.tail) gnR tyR Tryz.underlying145 rowE Tryz.underlying168 Tryz.underlying170 rfl rfl Tryz.underlying9 (by kernel_rfl) (by kernel_rfl)
  obtain ⟨aS, sS, hS, _⟩ := laid_sentinel (h.tail.tail.tail.tail) gnS tyS Tryz.underlying145 rowE Tryz.underlying168 Tryz.underlying170 rfl rfl Tryz.underlying9 (by kernel_rfl) (by kernel_rfl)
  exact ⟨Lib.tabIs_of_head gnT tyT Tryz.underlying150 Tryz.underlying12 (by kernel_rfl) (by kernel_rfl) (show laidMet Tryz.prog (("internal/strconv.uint64pow10", Lib.tabData .u64 Lib.pow10Tab) :: _) W from h.tail.tail), fun _ => ⟨_, _, hS⟩, fun _ => ⟨_, _, hR⟩⟩
theorem door_met (os : Os) (args : Array Value) : laidMetH Tryz.prog laids ((World.doorLaid Tryz.prog 400 os).forCall (fun _ _ => 0) ⟨#[], args, []⟩).memory :=
  laidMetH_of_parts3 (fuel := 8) (laidMet_of_run' 8 (by kernel_rfl) (by kernel_rfl)) (by kernel_rfl) (by kernel_rfl)
set_option maxRecDepth 100000 in
theorem lifted (os : Os) (started : os.Started) (H : Type) (enc : TypeId × Value → H) :
    ReturnsInHanded {} Tryz.checked os 4 .any (fun w args => (Rows.sessionEncodesSpec.pre enc Tryz.prog Tryz.f4 [] false w args ∧ laidMetH Tryz.prog laids w) ∧ sizedMet enc Tryz.prog Tryz.f4 (OpenSpec.ofChange Rows.sessionEncodesSpec) false w args)
      (Rows.sessionEncodesSpec.post enc Tryz.prog Tryz.f4 false true false false) := by
  refine returnsInHanded_of_change_and (C := Tryz.checked) (X := fun w _ => laidMetH Tryz.prog laids w) (fun _ _ _ hh h => h.of_heap hh) own started (by kernel_rfl) Tryz.func4
    (ChangeSpec.witness_shaped (enc := enc) (C := Tryz.checked) (os := os) (X := fun w _ => laidMetH Tryz.prog laids w) false (World.doorLaid Tryz.prog 400 os) #[.agg #[.string ⟨#[]⟩, .int .i64 0, .slice none 0 0], .slice none 0 0] 8 rfl (World.shaped_of_RefB (by kernel_rfl) (by kernel_rfl)) (by kernel_rfl) (by kernel_rfl) (by kernel_rfl) (door_met os _)) ?_
  intro W base args ds gs before hval0 hW hcnd hsz0 hL _
  have hL' := of_laid hL
  clear hL
  have hval : ∀ (j : Nat) t v, Tryz.f4.params[j]? = some t → args[j]? = some v → Value.okWide Tryz.prog W .any base t v := hval0
  have hW' := hW
  obtain ⟨p, q, hA0, hV, rfl, hfz, hnd⟩ := hW
  have hA : DataW.TrodAll enc Tryz.prog W 0 (fun _ => true) true Tryz.f4.params.toList args.toList ds p := hA0
  rw [Tryz.params4] at hA hval
  obtain ⟨v0, vs0, d0, ds0, p0, q0, hargs, rfl, rfl, h0, r0⟩ := trodAll_cons hA
  obtain ⟨v1, vs1, d1, ds1, p1, q1, rfl, rfl, rfl, h1, r1⟩ := trodAll_cons r0
  obtain ⟨rfl, rfl, rfl⟩ := trodAll_nil r1
  obtain rfl : args = #[v0, v1] := by cases args; simp_all
  obtain ⟨rfl, rfl⟩ := trodVars_none hV
  have k0 := h0
  have lt0 : ∀ x ∈ p0, x.block < W.heap.size := by obtain ⟨m, hm⟩ := k0; exact DataW.trod_lt m _ _ _ hm
  obtain ⟨fuel0, hf0⟩ := h0
  obtain ⟨x0, R0, wf0⟩ := (opens_iso (E := (Rep.pair Rep.sn (Rep.pair (Rep.int .i64) (Rep.slice Act.OpdE)))) Act.SReqD.tup (fun y => ⟨y.1, y.2.1, y.2.2⟩) (fun _ => rfl) (opens_struct (E := (Rep.pair Rep.sn (Rep.pair (Rep.int .i64) (Rep.slice Act.OpdE)))) Tryz.underlying39 (by kernel_rfl) (fields_cons (i := 0) (off := 0) (Ea := Rep.sn) (Eb := (Rep.pair (Rep.int .i64) (Rep.slice Act.OpdE))) rfl rfl (by kernel_rfl) (opens_sn Tryz.underlying9) (fields_cons (i := 1) (off := 1) (Ea := (Rep.int .i64)) (Eb := (Rep.slice Act.OpdE)) rfl rfl (by kernel_rfl) (opens_int Tryz.underlying3) (fields_last (i := 2) (off := 2) (E := (Rep.slice Act.OpdE)) rfl rfl (by kernel_rfl) (opens_slice Tryz.underlying37 (by kernel_rfl) (opens_iso (E := (Rep.pair (Rep.int .i64) (Rep.pair Rep.sn (Rep.pair (Rep.pair (Rep.int .i64) (Rep.pair Rep.sn (Rep.pair Rep.sn (Rep.int .i64)))) Act.TimE)))) Act.OpD.tup (fun y => ⟨y.1, y.2.1, y.2.2.1, y.2.2.2⟩) (fun _ => rfl) (opens_struct (E := (Rep.pair (Rep.int .i64) (Rep.pair Rep.sn (Rep.pair (Rep.pair (Rep.int .i64) (Rep.pair Rep.sn (Rep.pair Rep.sn (Rep.int .i64)))) Act.TimE)))) Tryz.underlying93 (by kernel_rfl) (fields_cons (i := 0) (off := 0) (Ea := (Rep.int .i64)) (Eb := (Rep.pair Rep.sn (Rep.pair (Rep.pair (Rep.int .i64) (Rep.pair Rep.sn (Rep.pair Rep.sn (Rep.int .i64)))) Act.TimE))) rfl rfl (by kernel_rfl) (opens_int Tryz.underlying88) (fields_cons (i := 1) (off := 1) (Ea := Rep.sn) (Eb := (Rep.pair (Rep.pair (Rep.int .i64) (Rep.pair Rep.sn (Rep.pair Rep.sn (Rep.int .i64)))) Act.TimE)) rfl rfl (by kernel_rfl) (opens_sn Tryz.underlying9) (fields_cons (i := 2) (off := 2) (Ea := (Rep.pair (Rep.int .i64) (Rep.pair Rep.sn (Rep.pair Rep.sn (Rep.int .i64))))) (Eb := Act.TimE) rfl rfl (by kernel_rfl) (opens_struct (E := (Rep.pair (Rep.int .i64) (Rep.pair Rep.sn (Rep.pair Rep.sn (Rep.int .i64))))) Tryz.underlying91 (by kernel_rfl) (fields_cons (i := 0) (off := 0) (Ea := (Rep.int .i64)) (Eb := (Rep.pair Rep.sn (Rep.pair Rep.sn (Rep.int .i64)))) rfl rfl (by kernel_rfl) (opens_int Tryz.underlying89) (fields_cons (i := 1) (off := 1) (Ea := Rep.sn) (Eb := (Rep.pair Rep.sn (Rep.int .i64))) rfl rfl (by kernel_rfl) (opens_sn Tryz.underlying9) (fields_cons (i := 2) (off := 2) (Ea := Rep.sn) (Eb := (Rep.int .i64)) rfl rfl (by kernel_rfl) (opens_sn Tryz.underlying9) (fields_last (i := 3) (off := 3) (E := (Rep.int .i64)) rfl rfl (by kernel_rfl) (opens_int Tryz.underlying2)))))) (fields_last (i := 3) (off := 6) (E := Act.TimE) rfl rfl (by kernel_rfl) (opens_iso (E := (Rep.pair Rep.sn (Rep.pair (Rep.int .i64) (Rep.pair (Rep.int .u64) (Rep.pair (Rep.int .u64) (Rep.slice (Rep.pair (Rep.int .i64) (Rep.pair Rep.sn (Rep.pair Rep.sn (Rep.int .i64)))))))))) Act.TimerD.tup (fun y => ⟨y.1, y.2.1, y.2.2.1, y.2.2.2.1, y.2.2.2.2⟩) (fun _ => rfl) (opens_struct (E := (Rep.pair Rep.sn (Rep.pair (Rep.int .i64) (Rep.pair (Rep.int .u64) (Rep.pair (Rep.int .u64) (Rep.slice (Rep.pair (Rep.int .i64) (Rep.pair Rep.sn (Rep.pair Rep.sn (Rep.int .i64)))))))))) Tryz.underlying64 (by kernel_rfl) (fields_cons (i := 0) (off := 0) (Ea := Rep.sn) (Eb := (Rep.pair (Rep.int .i64) (Rep.pair (Rep.int .u64) (Rep.pair (Rep.int .u64) (Rep.slice (Rep.pair (Rep.int .i64) (Rep.pair Rep.sn (Rep.pair Rep.sn (Rep.int .i64))))))))) rfl rfl (by kernel_rfl) (opens_sn Tryz.underlying9) (fields_cons (i := 1) (off := 1) (Ea := (Rep.int .i64)) (Eb := (Rep.pair (Rep.int .u64) (Rep.pair (Rep.int .u64) (Rep.slice (Rep.pair (Rep.int .i64) (Rep.pair Rep.sn (Rep.pair Rep.sn (Rep.int .i64)))))))) rfl rfl (by kernel_rfl) (opens_int Tryz.underlying3) (fields_cons (i := 2) (off := 2) (Ea := (Rep.int .u64)) (Eb := (Rep.pair (Rep.int .u64) (Rep.slice (Rep.pair (Rep.int .i64) (Rep.pair Rep.sn (Rep.pair Rep.sn (Rep.int .i64))))))) rfl rfl (by kernel_rfl) (opens_int Tryz.underlying59) (fields_cons (i := 3) (off := 3) (Ea := (Rep.int .u64)) (Eb := (Rep.slice (Rep.pair (Rep.int .i64) (Rep.pair Rep.sn (Rep.pair Rep.sn (Rep.int .i64)))))) rfl rfl (by kernel_rfl) (opens_int Tryz.underlying59) (fields_last (i := 4) (off := 4) (E := (Rep.slice (Rep.pair (Rep.int .i64) (Rep.pair Rep.sn (Rep.pair Rep.sn (Rep.int .i64)))))) rfl rfl (by kernel_rfl) (opens_slice Tryz.underlying62 (by kernel_rfl) (opens_struct (E := (Rep.pair (Rep.int .i64) (Rep.pair Rep.sn (Rep.pair Rep.sn (Rep.int .i64))))) Tryz.underlying91 (by kernel_rfl) (fields_cons (i := 0) (off := 0) (Ea := (Rep.int .i64)) (Eb := (Rep.pair Rep.sn (Rep.pair Rep.sn (Rep.int .i64)))) rfl rfl (by kernel_rfl) (opens_int Tryz.underlying89) (fields_cons (i := 1) (off := 1) (Ea := Rep.sn) (Eb := (Rep.pair Rep.sn (Rep.int .i64))) rfl rfl (by kernel_rfl) (opens_sn Tryz.underlying9) (fields_cons (i := 2) (off := 2) (Ea := Rep.sn) (Eb := (Rep.int .i64)) rfl rfl (by kernel_rfl) (opens_sn Tryz.underlying9) (fields_last (i := 3) (off := 3) (E := (Rep.int .i64)) rfl rfl (by kernel_rfl) (opens_int Tryz.underlying2)))))))))))))))))))))))))) _ _ _ _ _ _ _ _ hf0
  clear hf0
  obtain ⟨A0_0, c0_0, hcs0, rd0_0⟩ := Act.sreq_cells R0
  obtain rfl := agg_of_cells hcs0 (by simp)
  obtain ⟨a1, len1, cap1, rfl⟩ := okWide_slice Tryz.underlying27 (hval 1 27 v1 rfl rfl)
  have k1 := h1
  have lt1 : ∀ x ∈ p1, x.block < W.heap.size := by obtain ⟨m, hm⟩ := k1; exact DataW.trod_lt m _ _ _ hm
  obtain ⟨x1, rd1, le1, wf1⟩ : ∃ xs : List Int, Rd (.int .u8) W (fun i => i < W.heap.size) a1 xs cap1 ∧ xs.length = len1 ∧ ∀ n ∈ xs, (Lit.int .u8 n).wf = true := by
    obtain ⟨fuel, hf⟩ := h1
    refine rd_ints ?_
    rcases open_ints Tryz.underlying27 Tryz.underlying5 (by kernel_rfl) hf with ⟨hcs, _⟩ | ⟨x, l, c, zs, hcs, _, hl, hm, hz, _, hcell, hwz⟩
    · simp [Value.cells] at hcs
      exact .inl hcs
    · simp [Value.cells] at hcs
      obtain ⟨rfl, rfl, rfl⟩ := hcs
      exact .inr ⟨x, zs, rfl, hl, hm, by simpa using hz, hcell, hwz⟩
  subst le1
  clear hA0 hval0 hsz0
  refine Calls.mono (Act.sEnc_calls W hL' rd0_0 (⟨wf0.1.1, i64_wf wf0.2.1, (fun o ho => ⟨i64_wf (wf0.2.2 o ho).1, (wf0.2.2 o ho).2.1.1, ⟨(wf0.2.2 o ho).2.2.1.2.1.1, (wf0.2.2 o ho).2.2.1.2.2.1.1, i64_wf (wf0.2.2 o ho).2.2.1.2.2.2⟩, ⟨(wf0.2.2 o ho).2.2.2.1.1, i64_wf (wf0.2.2 o ho).2.2.2.2.1, u64_wf (wf0.2.2 o ho).2.2.2.2.2.1, u64_wf (wf0.2.2 o ho).2.2.2.2.2.2.1, (fun s hs => ⟨((wf0.2.2 o ho).2.2.2.2.2.2.2 s hs).2.1.1, ((wf0.2.2 o ho).2.2.2.2.2.2.2 s hs).2.2.1.1, i64_wf ((wf0.2.2 o ho).2.2.2.2.2.2.2 s hs).2.2.2⟩)⟩⟩)⟩ : Act.SReqB x0) rd1 (fun n hn => byte_wf (wf1 n hn))) ?_
  suffices h : ∀ e W', (e = Ending.returned (.bool true) ∧ Below W.heap.size W W') → _ from fun e W' he => h e W' ⟨he.1, he.2.below⟩
  rintro e W' ⟨he, bel⟩
  subst he
  exact ⟨_, rfl, _, _, _, [], _, [], hW', trodAll_mk1 (shut_bool Tryz.underlying4 _), (trodAll_cons_mk (Below.trod laidOut (by kernel_rfl) (of_decide_eq_true (by kernel_rfl)) k0 bel lt0) (trodAll_cons_mk (Below.trod laidOut (by kernel_rfl) (of_decide_eq_true (by kernel_rfl)) k1 bel lt1) trodAll_mk0)), rfl, bel.frame _, fun h => by cases h⟩
theorem over : Rows.sessionEncodesRow.holds Tryz.pinned (OpenSpec.ofChange Rows.sessionEncodesSpec) :=
  OpenClaim.holds_of_wide 4 Tryz.f4 rfl rfl rfl rfl rfl rfl rfl ⟨rfl, rfl, rfl, rfl, rfl⟩ rfl rfl rfl rfl rfl (by kernel_rfl) Tryz.func4 (by kernel_rfl)
    (of_decide_eq_true (by kernel_rfl)) (by unfold Func.isWrapper; first | (rw [if_pos (by decide +kernel)]; kernel_rfl) | (rw [if_neg (by decide +kernel)]; exact ⟨rfl, rfl⟩))
    (fun os started H enc _ => lifted os started H enc)
end Go.Proofs.YtiiklnghnifmjaaGreatDoor.sessionEncodes
namespace Go.Proofs.YtiiklnghnifmjaaGreatDoor
/-- The card: the row, its listed variables tied to the program's text. -/
theorem sessionEncodes_holds : Rows.SessionEncodesCardSaid :=
  Claim7.holds_tied_plain_at .later [] [.data, .data, .data, .sentinel, .sentinel] true (true, "5640e52bce20bc0ffd7ff72c427af4a7d75dfcea1c3f5871d9a9e24762618c1e") true
    sessionEncodes.over (fun _ h => by cases h) (by kernel_rfl) (fun _ h => by cases h) sessionEncodes_row_tie rfl ⟨rfl, rfl⟩ (by kernel_rfl) rfl
    (fun f fn hf hfn => by
      obtain rfl : f = 4 := Option.some.inj ((show Tryz.prog.funcNamed "belfry/belfrylaw22.SessionEncodes" = some 4 by kernel_rfl).symm.trans hf) |>.symm
      obtain rfl : fn = Tryz.f4 := (Option.some.inj (Tryz.func4.symm.trans hfn)).symm
      exact ⟨by kernel_rfl, fun j t ht => by
        rw [Tryz.params4] at ht
        have hm : t ∈ [39, 27] := by simpa using Array.mem_of_getElem? ht
        have hall : ([39, 27].all fun u => !Tryz.prog.wantsStandIn u) = true := by kernel_rfl
        exact (show Tryz.prog.wantsStandIn t = false by simpa using List.all_eq_true.1 hall t hm)⟩)
    (by kernel_rfl)
#print axioms sessionEncodes_holds
end Go.Proofs.YtiiklnghnifmjaaGreatDoor
