/- SessionPlays: whatever script, the law returns true and its argument reads as before; the listed variables of the library's are tied to the program's text; no other condition. -/
import Derived.Test.YtiiklnghnifmjaaDoorCards
import Derived.Test.YtiiklnghnifmjaaDoorTie
import Derived.SevenTiedAt
import Derived.LaidMore
import Derived.Stop.Joined
import Derived.Lib.LaidTab
import Derived.Stop.LaidErr
import Derived.Test.YtiiklnghnifmjaaDoorRows
import Derived.Test.YtiiklnghnifmjaaDoorOpenZu
import Derived.Test.YtiiklnghnifmjaaDoorPlaAZu
import Derived.WalkKit
import Derived.ProofKit
import Derived.OpenShut
import Derived.ShutString
import Derived.ChangeOld
import Derived.Below
import Derived.SizedLaws
namespace Go.Proofs.YtiiklnghnifmjaaDoor.sessionPlays
open Go.ChangeShapes Go.WideShapes Go.ChangeAt Go.RowKit Go.Proofs.YtiiklnghnifmjaaDoor.Sx
open Go.ChangeMaps (open_string shut_string)
set_option linter.unusedVariables false
theorem own : ownKnob Tryd.prog.godebug = none := by kernel_rfl
theorem laidOut : laidOutB Tryd.prog = true := by kernel_rfl
def laids : List (String × DataW Unit) := [("math/bits.deBruijn32tab", Rows.laid_math_bits_deBruijn32tab), ("math/bits.deBruijn64tab", Rows.laid_math_bits_deBruijn64tab), ("internal/strconv.uint64pow10", Rows.laid_internal_strconv_uint64pow10)]
theorem tyT : (Tryd.prog.globals[0]?).map (·.type) = some 181 := by kernel_rfl
set_option maxRecDepth 100000 in
theorem of_laid {W : World} (h : laidMetH Tryd.prog laids W) : LibAt false W := by
  rw [MakeChecks.laidMetH_plain _ _ _ (by kernel_rfl)] at h
  unfold laids at h
  exact ⟨Lib.tabIs_of_head gnT tyT Tryd.underlying181 Tryd.underlying12 (by kernel_rfl) (by kernel_rfl) (show laidMet Tryd.prog (("internal/strconv.uint64pow10", Lib.tabData .u64 Lib.pow10Tab) :: _) W from h.tail.tail), (fun h => by cases h), (fun h => by cases h)⟩
theorem door_met (os : Os) (args : Array Value) : laidMetH Tryd.prog laids ((World.doorLaid Tryd.prog 400 os).forCall (fun _ _ => 0) ⟨#[], args, []⟩).memory :=
  laidMetH_of_parts3 (fuel := 8) (laidMet_of_run' 8 (by kernel_rfl) (by kernel_rfl)) (by kernel_rfl) (by kernel_rfl)
set_option maxRecDepth 100000 in
theorem lifted (os : Os) (started : os.Started) (H : Type) (enc : TypeId × Value → H) :
    ReturnsInHanded {} Tryd.checked os 8 .any (fun w args => (Rows.sessionPlaysSpec.pre enc Tryd.prog Tryd.f8 [] false w args ∧ laidMetH Tryd.prog laids w) ∧ sizedMet enc Tryd.prog Tryd.f8 (OpenSpec.ofChange Rows.sessionPlaysSpec) false w args)
      (Rows.sessionPlaysSpec.post enc Tryd.prog Tryd.f8 false true false false) := by
  refine returnsInHanded_of_change_and (C := Tryd.checked) (X := fun w _ => laidMetH Tryd.prog laids w) (fun _ _ _ hh h => h.of_heap hh) own started (by kernel_rfl) Tryd.func8
    (ChangeSpec.witness_shaped (enc := enc) (C := Tryd.checked) (os := os) (X := fun w _ => laidMetH Tryd.prog laids w) false (World.doorLaid Tryd.prog 400 os) #[.slice none 0 0] 8 rfl (World.shaped_of_RefB (by kernel_rfl) (by kernel_rfl)) (by kernel_rfl) (by kernel_rfl) (by kernel_rfl) (door_met os _)) ?_
  intro W base args ds gs before hval0 hW hcnd hsz0 hL _
  have hL' := of_laid hL
  clear hL
  have hval : ∀ (j : Nat) t v, Tryd.f8.params[j]? = some t → args[j]? = some v → Value.okWide Tryd.prog W .any base t v := hval0
  have hW' := hW
  obtain ⟨p, q, hA0, hV, rfl, hfz, hnd⟩ := hW
  have hA : DataW.TrodAll enc Tryd.prog W 0 (fun _ => true) true Tryd.f8.params.toList args.toList ds p := hA0
  rw [Tryd.params8] at hA hval
  obtain ⟨v0, vs0, d0, ds0, p0, q0, hargs, rfl, rfl, h0, r0⟩ := trodAll_cons hA
  obtain ⟨rfl, rfl, rfl⟩ := trodAll_nil r0
  obtain rfl : args = #[v0] := by cases args; simp_all
  obtain ⟨rfl, rfl⟩ := trodVars_none hV
  obtain ⟨a0, len0, cap0, rfl⟩ := okWide_slice Tryd.underlying57 (hval 0 57 v0 rfl rfl)
  have k0 := h0
  have lt0 : ∀ x ∈ p0, x.block < W.heap.size := by obtain ⟨m, hm⟩ := k0; exact DataW.trod_lt m _ _ _ hm
  obtain ⟨fuel0, hf0⟩ := h0
  obtain ⟨x0, ⟨A0, c0, hcs0, rd0⟩, wf0⟩ := (opens_slice Tryd.underlying57 (by kernel_rfl) (opens_iso (E := (Rep.pair (Rep.int .i64) (Rep.pair Act.SreqE Act.AnsE))) Act.SActD.tup (fun y => ⟨y.1, y.2.1, y.2.2⟩) (fun _ => rfl) (opens_struct (E := (Rep.pair (Rep.int .i64) (Rep.pair Act.SreqE Act.AnsE))) Tryd.underlying64 (by kernel_rfl) (fields_cons (i := 0) (off := 0) (Ea := (Rep.int .i64)) (Eb := (Rep.pair Act.SreqE Act.AnsE)) rfl rfl (by kernel_rfl) (opens_int Tryd.underlying3) (fields_cons (i := 1) (off := 1) (Ea := Act.SreqE) (Eb := Act.AnsE) rfl rfl (by kernel_rfl) (opens_iso (E := (Rep.pair Rep.sn (Rep.pair (Rep.int .i64) (Rep.slice Act.OpdE)))) Act.SReqD.tup (fun y => ⟨y.1, y.2.1, y.2.2⟩) (fun _ => rfl) (opens_struct (E := (Rep.pair Rep.sn (Rep.pair (Rep.int .i64) (Rep.slice Act.OpdE)))) Tryd.underlying45 (by kernel_rfl) (fields_cons (i := 0) (off := 0) (Ea := Rep.sn) (Eb := (Rep.pair (Rep.int .i64) (Rep.slice Act.OpdE))) rfl rfl (by kernel_rfl) (opens_sn Tryd.underlying9) (fields_cons (i := 1) (off := 1) (Ea := (Rep.int .i64)) (Eb := (Rep.slice Act.OpdE)) rfl rfl (by kernel_rfl) (opens_int Tryd.underlying3) (fields_last (i := 2) (off := 2) (E := (Rep.slice Act.OpdE)) rfl rfl (by kernel_rfl) (opens_slice Tryd.underlying43 (by kernel_rfl) (opens_iso (E := (Rep.pair (Rep.int .i64) (Rep.pair Rep.sn (Rep.pair (Rep.pair (Rep.int .i64) (Rep.pair Rep.sn (Rep.pair Rep.sn (Rep.int .i64)))) Act.TimE)))) Act.OpD.tup (fun y => ⟨y.1, y.2.1, y.2.2.1, y.2.2.2⟩) (fun _ => rfl) (opens_struct (E := (Rep.pair (Rep.int .i64) (Rep.pair Rep.sn (Rep.pair (Rep.pair (Rep.int .i64) (Rep.pair Rep.sn (Rep.pair Rep.sn (Rep.int .i64)))) Act.TimE)))) Tryd.underlying55 (by kernel_rfl) (fields_cons (i := 0) (off := 0) (Ea := (Rep.int .i64)) (Eb := (Rep.pair Rep.sn (Rep.pair (Rep.pair (Rep.int .i64) (Rep.pair Rep.sn (Rep.pair Rep.sn (Rep.int .i64)))) Act.TimE))) rfl rfl (by kernel_rfl) (opens_int Tryd.underlying50) (fields_cons (i := 1) (off := 1) (Ea := Rep.sn) (Eb := (Rep.pair (Rep.pair (Rep.int .i64) (Rep.pair Rep.sn (Rep.pair Rep.sn (Rep.int .i64)))) Act.TimE)) rfl rfl (by kernel_rfl) (opens_sn Tryd.underlying9) (fields_cons (i := 2) (off := 2) (Ea := (Rep.pair (Rep.int .i64) (Rep.pair Rep.sn (Rep.pair Rep.sn (Rep.int .i64))))) (Eb := Act.TimE) rfl rfl (by kernel_rfl) (opens_struct (E := (Rep.pair (Rep.int .i64) (Rep.pair Rep.sn (Rep.pair Rep.sn (Rep.int .i64))))) Tryd.underlying53 (by kernel_rfl) (fields_cons (i := 0) (off := 0) (Ea := (Rep.int .i64)) (Eb := (Rep.pair Rep.sn (Rep.pair Rep.sn (Rep.int .i64)))) rfl rfl (by kernel_rfl) (opens_int Tryd.underlying51) (fields_cons (i := 1) (off := 1) (Ea := Rep.sn) (Eb := (Rep.pair Rep.sn (Rep.int .i64))) rfl rfl (by kernel_rfl) (opens_sn Tryd.underlying9) (fields_cons (i := 2) (off := 2) (Ea := Rep.sn) (Eb := (Rep.int .i64)) rfl rfl (by kernel_rfl) (opens_sn Tryd.underlying9) (fields_last (i := 3) (off := 3) (E := (Rep.int .i64)) rfl rfl (by kernel_rfl) (opens_int Tryd.underlying2)))))) (fields_last (i := 3) (off := 6) (E := Act.TimE) rfl rfl (by kernel_rfl) (opens_iso (E := (Rep.pair Rep.sn (Rep.pair (Rep.int .i64) (Rep.pair (Rep.int .u64) (Rep.pair (Rep.int .u64) (Rep.slice (Rep.pair (Rep.int .i64) (Rep.pair Rep.sn (Rep.pair Rep.sn (Rep.int .i64)))))))))) Act.TimerD.tup (fun y => ⟨y.1, y.2.1, y.2.2.1, y.2.2.2.1, y.2.2.2.2⟩) (fun _ => rfl) (opens_struct (E := (Rep.pair Rep.sn (Rep.pair (Rep.int .i64) (Rep.pair (Rep.int .u64) (Rep.pair (Rep.int .u64) (Rep.slice (Rep.pair (Rep.int .i64) (Rep.pair Rep.sn (Rep.pair Rep.sn (Rep.int .i64)))))))))) Tryd.underlying39 (by kernel_rfl) (fields_cons (i := 0) (off := 0) (Ea := Rep.sn) (Eb := (Rep.pair (Rep.int .i64) (Rep.pair (Rep.int .u64) (Rep.pair (Rep.int .u64) (Rep.slice (Rep.pair (Rep.int .i64) (Rep.pair Rep.sn (Rep.pair Rep.sn (Rep.int .i64))))))))) rfl rfl (by kernel_rfl) (opens_sn Tryd.underlying9) (fields_cons (i := 1) (off := 1) (Ea := (Rep.int .i64)) (Eb := (Rep.pair (Rep.int .u64) (Rep.pair (Rep.int .u64) (Rep.slice (Rep.pair (Rep.int .i64) (Rep.pair Rep.sn (Rep.pair Rep.sn (Rep.int .i64)))))))) rfl rfl (by kernel_rfl) (opens_int Tryd.underlying3) (fields_cons (i := 2) (off := 2) (Ea := (Rep.int .u64)) (Eb := (Rep.pair (Rep.int .u64) (Rep.slice (Rep.pair (Rep.int .i64) (Rep.pair Rep.sn (Rep.pair Rep.sn (Rep.int .i64))))))) rfl rfl (by kernel_rfl) (opens_int Tryd.underlying34) (fields_cons (i := 3) (off := 3) (Ea := (Rep.int .u64)) (Eb := (Rep.slice (Rep.pair (Rep.int .i64) (Rep.pair Rep.sn (Rep.pair Rep.sn (Rep.int .i64)))))) rfl rfl (by kernel_rfl) (opens_int Tryd.underlying34) (fields_last (i := 4) (off := 4) (E := (Rep.slice (Rep.pair (Rep.int .i64) (Rep.pair Rep.sn (Rep.pair Rep.sn (Rep.int .i64)))))) rfl rfl (by kernel_rfl) (opens_slice Tryd.underlying37 (by kernel_rfl) (opens_struct (E := (Rep.pair (Rep.int .i64) (Rep.pair Rep.sn (Rep.pair Rep.sn (Rep.int .i64))))) Tryd.underlying53 (by kernel_rfl) (fields_cons (i := 0) (off := 0) (Ea := (Rep.int .i64)) (Eb := (Rep.pair Rep.sn (Rep.pair Rep.sn (Rep.int .i64)))) rfl rfl (by kernel_rfl) (opens_int Tryd.underlying51) (fields_cons (i := 1) (off := 1) (Ea := Rep.sn) (Eb := (Rep.pair Rep.sn (Rep.int .i64))) rfl rfl (by kernel_rfl) (opens_sn Tryd.underlying9) (fields_cons (i := 2) (off := 2) (Ea := Rep.sn) (Eb := (Rep.int .i64)) rfl rfl (by kernel_rfl) (opens_sn Tryd.underlying9) (fields_last (i := 3) (off := 3) (E := (Rep.int .i64)) rfl rfl (by kernel_rfl) (opens_int Tryd.underlying2)))))))))))))))))))))))))) (fields_last (i := 2) (off := 4) (E := Act.AnsE) rfl rfl (by kernel_rfl) (opens_iso (E := (Rep.pair (Rep.int .i64) (Rep.pair (Rep.int .i64) (Rep.slice Act.ResE)))) Act.AnswerD.tup (fun y => ⟨y.1, y.2.1, y.2.2⟩) (fun _ => rfl) (opens_struct (E := (Rep.pair (Rep.int .i64) (Rep.pair (Rep.int .i64) (Rep.slice Act.ResE)))) Tryd.underlying62 (by kernel_rfl) (fields_cons (i := 0) (off := 0) (Ea := (Rep.int .i64)) (Eb := (Rep.pair (Rep.int .i64) (Rep.slice Act.ResE))) rfl rfl (by kernel_rfl) (opens_int Tryd.underlying3) (fields_cons (i := 1) (off := 1) (Ea := (Rep.int .i64)) (Eb := (Rep.slice Act.ResE)) rfl rfl (by kernel_rfl) (opens_int Tryd.underlying29) (fields_last (i := 2) (off := 2) (E := (Rep.slice Act.ResE)) rfl rfl (by kernel_rfl) (opens_slice Tryd.underlying60 (by kernel_rfl) (opens_iso (E := (Rep.pair Rep.bool (Rep.pair Rep.sn (Rep.pair (Rep.int .i64) (Rep.int .u64))))) Act.ResultD.tup (fun y => ⟨y.1, y.2.1, y.2.2.1, y.2.2.2⟩) (fun _ => rfl) (opens_struct (E := (Rep.pair Rep.bool (Rep.pair Rep.sn (Rep.pair (Rep.int .i64) (Rep.int .u64))))) Tryd.underlying84 (by kernel_rfl) (fields_cons (i := 0) (off := 0) (Ea := Rep.bool) (Eb := (Rep.pair Rep.sn (Rep.pair (Rep.int .i64) (Rep.int .u64)))) rfl rfl (by kernel_rfl) (opens_bool Tryd.underlying4) (fields_cons (i := 1) (off := 1) (Ea := Rep.sn) (Eb := (Rep.pair (Rep.int .i64) (Rep.int .u64))) rfl rfl (by kernel_rfl) (opens_sn Tryd.underlying9) (fields_cons (i := 2) (off := 2) (Ea := (Rep.int .i64)) (Eb := (Rep.int .u64)) rfl rfl (by kernel_rfl) (opens_int Tryd.underlying3) (fields_last (i := 3) (off := 3) (E := (Rep.int .u64)) rfl rfl (by kernel_rfl) (opens_int Tryd.underlying34))))))))))))))))))) _ _ _ _ _ _ _ _ hf0
  clear hf0
  simp [Value.cells] at hcs0
  obtain ⟨rfl, rfl, rfl⟩ := hcs0
  clear hA0 hval0 hsz0
  refine Calls.mono (Act.sPlays_calls W hL' rd0 (fun x hx => (⟨i64_wf (wf0 x hx).1, ⟨(wf0 x hx).2.1.1.1, i64_wf (wf0 x hx).2.1.2.1, (fun o ho => ⟨i64_wf ((wf0 x hx).2.1.2.2 o ho).1, ((wf0 x hx).2.1.2.2 o ho).2.1.1, ⟨((wf0 x hx).2.1.2.2 o ho).2.2.1.2.1.1, ((wf0 x hx).2.1.2.2 o ho).2.2.1.2.2.1.1, i64_wf ((wf0 x hx).2.1.2.2 o ho).2.2.1.2.2.2⟩, ⟨((wf0 x hx).2.1.2.2 o ho).2.2.2.1.1, i64_wf ((wf0 x hx).2.1.2.2 o ho).2.2.2.2.1, u64_wf ((wf0 x hx).2.1.2.2 o ho).2.2.2.2.2.1, u64_wf ((wf0 x hx).2.1.2.2 o ho).2.2.2.2.2.2.1, (fun s hs => ⟨(((wf0 x hx).2.1.2.2 o ho).2.2.2.2.2.2.2 s hs).2.1.1, (((wf0 x hx).2.1.2.2 o ho).2.2.2.2.2.2.2 s hs).2.2.1.1, i64_wf (((wf0 x hx).2.1.2.2 o ho).2.2.2.2.2.2.2 s hs).2.2.2⟩)⟩⟩)⟩, ⟨i64_wf (wf0 x hx).2.2.1, i64_wf (wf0 x hx).2.2.2.1, (fun r hr => ⟨((wf0 x hx).2.2.2.2 r hr).2.1.1, i64_wf ((wf0 x hx).2.2.2.2 r hr).2.2.1, u64_wf ((wf0 x hx).2.2.2.2 r hr).2.2.2⟩)⟩⟩ : Act.SActB x))) ?_
  suffices h : ∀ e W', (e = Ending.returned (.bool true) ∧ Below W.heap.size W W') → _ from fun e W' he => h e W' ⟨he.1, he.2.below⟩
  rintro e W' ⟨he, bel⟩
  subst he
  exact ⟨_, rfl, _, _, _, [], _, [], hW', trodAll_mk1 (shut_bool Tryd.underlying4 _), (trodAll_cons_mk (Below.trod laidOut (by kernel_rfl) (of_decide_eq_true (by kernel_rfl)) k0 bel lt0) trodAll_mk0), rfl, bel.frame _, fun h => by cases h⟩
theorem over : Rows.sessionPlaysRow.holds Tryd.pinned (OpenSpec.ofChange Rows.sessionPlaysSpec) :=
  OpenClaim.holds_of_wide 8 Tryd.f8 rfl rfl rfl rfl rfl rfl rfl ⟨rfl, rfl, rfl, rfl, rfl⟩ rfl rfl rfl rfl rfl (by kernel_rfl) Tryd.func8 (by kernel_rfl)
    (of_decide_eq_true (by kernel_rfl)) (by unfold Func.isWrapper; first | (rw [if_pos (by decide +kernel)]; kernel_rfl) | (rw [if_neg (by decide +kernel)]; exact ⟨rfl, rfl⟩))
    (fun os started H enc _ => lifted os started H enc)
end Go.Proofs.YtiiklnghnifmjaaDoor.sessionPlays
namespace Go.Proofs.YtiiklnghnifmjaaDoor
/-- The card: the row, its listed variables tied to the program's text. -/
theorem sessionPlays_holds : Rows.SessionPlaysCardSaid :=
  Claim7.holds_tied_plain_at .later [] [.data, .data, .data] true (true, "ac837ab959882d9e9007251a1c2e9872b718796a1df04f0b0b198a40374db824") true
    sessionPlays.over (fun _ h => by cases h) (by kernel_rfl) (fun _ h => by cases h) sessionPlays_row_tie rfl ⟨rfl, rfl⟩ (by kernel_rfl) rfl
    (fun f fn hf hfn => by
      obtain rfl : f = 8 := Option.some.inj ((show Tryd.prog.funcNamed "belfry/belfrylaw22.SessionPlays" = some 8 by kernel_rfl).symm.trans hf) |>.symm
      obtain rfl : fn = Tryd.f8 := (Option.some.inj (Tryd.func8.symm.trans hfn)).symm
      exact ⟨by kernel_rfl, fun j t ht => by
        rw [Tryd.params8] at ht
        have hm : t ∈ [57] := by simpa using Array.mem_of_getElem? ht
        have hall : ([57].all fun u => !Tryd.prog.wantsStandIn u) = true := by kernel_rfl
        exact (show Tryd.prog.wantsStandIn t = false by simpa using List.all_eq_true.1 hall t hm)⟩)
    (by kernel_rfl)
#print axioms sessionPlays_holds
end Go.Proofs.YtiiklnghnifmjaaDoor
