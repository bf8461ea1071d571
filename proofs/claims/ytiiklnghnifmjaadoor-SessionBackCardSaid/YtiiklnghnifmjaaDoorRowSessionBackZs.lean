/- SessionBack: whatever request, bytes and place, the law returns true and its arguments read as before; the listed variables of the library's are tied to the program's text; no other condition. -/
import Derived.Test.YtiiklnghnifmjaaDoorCards
import Derived.Test.YtiiklnghnifmjaaDoorTie
import Derived.SevenTiedAt
import Derived.LaidMore
import Derived.Stop.Joined
import Derived.Lib.LaidTab
import Derived.Stop.LaidErr
import Derived.Test.YtiiklnghnifmjaaDoorRows
import Derived.Test.YtiiklnghnifmjaaDoorOpenZs
import Derived.Test.YtiiklnghnifmjaaDoorSesEZs
import Derived.WalkKit
import Derived.ProofKit
import Derived.OpenShut
import Derived.ShutString
import Derived.ChangeOld
import Derived.Below
import Derived.SizedLaws
namespace Go.Proofs.YtiiklnghnifmjaaDoor.sessionBack
open Go.ChangeShapes Go.WideShapes Go.ChangeAt Go.RowKit Go.Proofs.YtiiklnghnifmjaaDoor.Sx
open Go.ChangeMaps (open_string shut_string)
set_option linter.unusedVariables false
theorem own : ownKnob Tryd.prog.godebug = none := by kernel_rfl
theorem laidOut : laidOutB Tryd.prog = true := by kernel_rfl
def laids : List (String × DataW Unit) := [("math/bits.deBruijn32tab", Rows.laid_math_bits_deBruijn32tab), ("math/bits.deBruijn64tab", Rows.laid_math_bits_deBruijn64tab), ("internal/strconv.uint64pow10", Rows.laid_internal_strconv_uint64pow10), ("strconv.ErrRange", Rows.laid_strconv_ErrRange), ("strconv.ErrSyntax", Rows.laid_strconv_ErrSyntax)]
theorem tyT : (Tryd.prog.globals[0]?).map (·.type) = some 181 := by kernel_rfl
theorem tyR : (Tryd.prog.globals[4]?).map (·.type) = some 185 := by kernel_rfl
theorem tyS : (Tryd.prog.globals[3]?).map (·.type) = some 185 := by kernel_rfl
theorem starE : "*" ++ "errors.errorString" = "*errors.errorString" := by decide
theorem rowE (u : TypeId) (h : Tryd.prog.typeName? 3 u = some "*errors.errorString") : u = 204 :=
  typeName_ptr_named (nm := "errors.errorString") (by rw [starE]; kernel_rfl) (by kernel_rfl) (by decide) u (by rw [starE]; exact h)
set_option maxRecDepth 100000 in
theorem of_laid {W : World} (h : laidMetH Tryd.prog laids W) : LibAt true W := by
  rw [MakeChecks.laidMetH_plain _ _ _ (by kernel_rfl)] at h
  unfold laids at h
  obtain ⟨aR, sR, hR, _⟩ := laid_sentinel (h.tail.tail.tail) gnR tyR Tryd.underlying185 rowE Tryd.underlying204 Tryd.underlying206 rfl rfl Tryd.underlying9 (by kernel_rfl) (by kernel_rfl)
  obtain ⟨aS, sS, hS, _⟩ := laid_sentinel (h.tail.tail.tail.tail) gnS tyS Tryd.underlying185 rowE Tryd.underlying204 Tryd.underlying206 rfl rfl Tryd.underlying9 (by kernel_rfl) (by kernel_rfl)
  exact ⟨Lib.tabIs_of_head gnT tyT Tryd.underlying181 Tryd.underlying12 (by kernel_rfl) (by kernel_rfl) (show laidMet Tryd.prog (("internal/strconv.uint64pow10", Lib.tabData .u64 Lib.pow10Tab) :: _) W from h.tail.tail), fun _ => ⟨_, _, hS⟩, fun _ => ⟨_, _, hR⟩⟩
theorem door_met (os : Os) (args : Array Value) : laidMetH Tryd.prog laids ((World.doorLaid Tryd.prog 400 os).forCall (fun _ _ => 0) ⟨#[], args, []⟩).memory :=
  laidMetH_of_parts3 (fuel := 8) (laidMet_of_run' 8 (by kernel_rfl) (by kernel_rfl)) (by kernel_rfl) (by kernel_rfl)
set_option maxRecDepth 100000 in
theorem lifted (os : Os) (started : os.Started) (H : Type) (enc : TypeId × Value → H) :
    ReturnsInHanded {} Tryd.checked os 10 .any (fun w args => (Rows.sessionBackSpec.pre enc Tryd.prog Tryd.f10 [] false w args ∧ laidMetH Tryd.prog laids w) ∧ sizedMet enc Tryd.prog Tryd.f10 (OpenSpec.ofChange Rows.sessionBackSpec) false w args)
      (Rows.sessionBackSpec.post enc Tryd.prog Tryd.f10 false true false false) := by
  refine returnsInHanded_of_change_and (C := Tryd.checked) (X := fun w _ => laidMetH Tryd.prog laids w) (fun _ _ _ hh h => h.of_heap hh) own started (by kernel_rfl) Tryd.func10
    (ChangeSpec.witness_shaped (enc := enc) (C := Tryd.checked) (os := os) (X := fun w _ => laidMetH Tryd.prog laids w) false (World.doorLaid Tryd.prog 400 os) #[.agg #[.string ⟨#[]⟩, .int .i64 0, .slice none 0 0], .slice none 0 0, .int .i64 0] 8 rfl (World.shaped_of_RefB (by kernel_rfl) (by kernel_rfl)) (by kernel_rfl) (by kernel_rfl) (by kernel_rfl) (door_met os _)) ?_
  intro W base args ds gs before hval0 hW hcnd hsz0 hL _
  have hL' := of_laid hL
  clear hL
  have hval : ∀ (j : Nat) t v, Tryd.f10.params[j]? = some t → args[j]? = some v → Value.okWide Tryd.prog W .any base t v := hval0
  have hW' := hW
  obtain ⟨p, q, hA0, hV, rfl, hfz, hnd⟩ := hW
  have hA : DataW.TrodAll enc Tryd.prog W 0 (fun _ => true) true Tryd.f10.params.toList args.toList ds p := hA0
  rw [Tryd.params10] at hA hval
  obtain ⟨v0, vs0, d0, ds0, p0, q0, hargs, rfl, rfl, h0, r0⟩ := trodAll_cons hA
  obtain ⟨v1, vs1, d1, ds1, p1, q1, rfl, rfl, rfl, h1, r1⟩ := trodAll_cons r0
  obtain ⟨v2, vs2, d2, ds2, p2, q2, rfl, rfl, rfl, h2, r2⟩ := trodAll_cons r1
  obtain ⟨rfl, rfl, rfl⟩ := trodAll_nil r2
  obtain rfl : args = #[v0, v1, v2] := by cases args; simp_all
  obtain ⟨rfl, rfl⟩ := trodVars_none hV
  have k0 := h0
  have lt0 : ∀ x ∈ p0, x.block < W.heap.size := by obtain ⟨m, hm⟩ := k0; exact DataW.trod_lt m _ _ _ hm
  obtain ⟨fuel0, hf0⟩ := h0
  obtain ⟨x0, R0, wf0⟩ := (opens_iso (E := (Rep.pair Rep.sn (Rep.pair (Rep.int .i64) (Rep.slice Act.OpdE)))) Act.SReqD.tup (fun y => ⟨y.1, y.2.1, y.2.2⟩) (fun _ => rfl) (opens_struct (E := (Rep.pair Rep.sn (Rep.pair (Rep.int .i64) (Rep.slice Act.OpdE)))) Tryd.underlying45 (by kernel_rfl) (fields_cons (i := 0) (off := 0) (Ea := Rep.sn) (Eb := (Rep.pair (Rep.int .i64) (Rep.slice Act.OpdE))) rfl rfl (by kernel_rfl) (opens_sn Tryd.underlying9) (fields_cons (i := 1) (off := 1) (Ea := (Rep.int .i64)) (Eb := (Rep.slice Act.OpdE)) rfl rfl (by kernel_rfl) (opens_int Tryd.underlying3) (fields_last (i := 2) (off := 2) (E := (Rep.slice Act.OpdE)) rfl rfl (by kernel_rfl) (opens_slice Tryd.underlying43 (by kernel_rfl) (opens_iso (E := (Rep.pair (Rep.int .i64) (Rep.pair Rep.sn (Rep.pair (Rep.pair (Rep.int .i64) (Rep.pair Rep.sn (Rep.pair Rep.sn (Rep.int .i64)))) Act.TimE)))) Act.OpD.tup (fun y => ⟨y.1, y.2.1, y.2.2.1, y.2.2.2⟩) (fun _ => rfl) (opens_struct (E := (Rep.pair (Rep.int .i64) (Rep.pair Rep.sn (Rep.pair (Rep.pair (Rep.int .i64) (Rep.pair Rep.sn (Rep.pair Rep.sn (Rep.int .i64)))) Act.TimE)))) Tryd.underlying55 (by kernel_rfl) (fields_cons (i := 0) (off := 0) (Ea := (Rep.int .i64)) (Eb := (Rep.pair Rep.sn (Rep.pair (Rep.pair (Rep.int .i64) (Rep.pair Rep.sn (Rep.pair Rep.sn (Rep.int .i64)))) Act.TimE))) rfl rfl (by kernel_rfl) (opens_int Tryd.underlying50) (fields_cons (i := 1) (off := 1) (Ea := Rep.sn) (Eb := (Rep.pair (Rep.pair (Rep.int .i64) (Rep.pair Rep.sn (Rep.pair Rep.sn (Rep.int .i64)))) Act.TimE)) rfl rfl (by kernel_rfl) (opens_sn Tryd.underlying9) (fields_cons (i := 2) (off := 2) (Ea := (Rep.pair (Rep.int .i64) (Rep.pair Rep.sn (Rep.pair Rep.sn (Rep.int .i64))))) (Eb := Act.TimE) rfl rfl (by kernel_rfl) (opens_struct (E := (Rep.pair (Rep.int .i64) (Rep.pair Rep.sn (Rep.pair Rep.sn (Rep.int .i64))))) Tryd.underlying53 (by kernel_rfl) (fields_cons (i := 0) (off := 0) (Ea := (Rep.int .i64)) (Eb := (Rep.pair Rep.sn (Rep.pair Rep.sn (Rep.int .i64)))) rfl rfl (by kernel_rfl) (opens_int Tryd.underlying51) (fields_cons (i := 1) (off := 1) (Ea := Rep.sn) (Eb := (Rep.pair Rep.sn (Rep.int .i64))) rfl rfl (by kernel_rfl) (opens_sn Tryd.underlying9) (fields_cons (i := 2) (off := 2) (Ea := Rep.sn) (Eb := (Rep.int .i64)) rfl rfl (by kernel_rfl) (opens_sn Tryd.underlying9) (fields_last (i := 3) (off := 3) (E := (Rep.int .i64)) rfl rfl (by kernel_rfl) (opens_int Tryd.underlying2)))))) (fields_last (i := 3) (off := 6) (E := Act.TimE) rfl rfl (by kernel_rfl) (opens_iso (E := (Rep.pair Rep.sn (Rep.pair (Rep.int .i64) (Rep.pair (Rep.int .u64) (Rep.pair (Rep.int .u64) (Rep.slice (Rep.pair (Rep.int .i64) (Rep.pair Rep.sn (Rep.pair Rep.sn (Rep.int .i64)))))))))) Act.TimerD.tup (fun y => ⟨y.1, y.2.1, y.2.2.1, y.2.2.2.1, y.2.2.2.2⟩) (fun _ => rfl) (opens_struct (E := (Rep.pair Rep.sn (Rep.pair (Rep.int .i64) (Rep.pair (Rep.int .u64) (Rep.pair (Rep.int .u64) (Rep.slice (Rep.pair (Rep.int .i64) (Rep.pair Rep.sn (Rep.pair Rep.sn (Rep.int .i64)))))))))) Tryd.underlying39 (by kernel_rfl) (fields_cons (i := 0) (off := 0) (Ea := Rep.sn) (Eb := (Rep.pair (Rep.int .i64) (Rep.pair (Rep.int .u64) (Rep.pair (Rep.int .u64) (Rep.slice (Rep.pair (Rep.int .i64) (Rep.pair Rep.sn (Rep.pair Rep.sn (Rep.int .i64))))))))) rfl rfl (by kernel_rfl) (opens_sn Tryd.underlying9) (fields_cons (i := 1) (off := 1) (Ea := (Rep.int .i64)) (Eb := (Rep.pair (Rep.int .u64) (Rep.pair (Rep.int .u64) (Rep.slice (Rep.pair (Rep.int .i64) (Rep.pair Rep.sn (Rep.pair Rep.sn (Rep.int .i64)))))))) rfl rfl (by kernel_rfl) (opens_int Tryd.underlying3) (fields_cons (i := 2) (off := 2) (Ea := (Rep.int .u64)) (Eb := (Rep.pair (Rep.int .u64) (Rep.slice (Rep.pair (Rep.int .i64) (Rep.pair Rep.sn (Rep.pair Rep.sn (Rep.int .i64))))))) rfl rfl (by kernel_rfl) (opens_int Tryd.underlying34) (fields_cons (i := 3) (off := 3) (Ea := (Rep.int .u64)) (Eb := (Rep.slice (Rep.pair (Rep.int .i64) (Rep.pair Rep.sn (Rep.pair Rep.sn (Rep.int .i64)))))) rfl rfl (by kernel_rfl) (opens_int Tryd.underlying34) (fields_last (i := 4) (off := 4) (E := (Rep.slice (Rep.pair (Rep.int .i64) (Rep.pair Rep.sn (Rep.pair Rep.sn (Rep.int .i64)))))) rfl rfl (by kernel_rfl) (opens_slice Tryd.underlying37 (by kernel_rfl) (opens_struct (E := (Rep.pair (Rep.int .i64) (Rep.pair Rep.sn (Rep.pair Rep.sn (Rep.int .i64))))) Tryd.underlying53 (by kernel_rfl) (fields_cons (i := 0) (off := 0) (Ea := (Rep.int .i64)) (Eb := (Rep.pair Rep.sn (Rep.pair Rep.sn (Rep.int .i64)))) rfl rfl (by kernel_rfl) (opens_int Tryd.underlying51) (fields_cons (i := 1) (off := 1) (Ea := Rep.sn) (Eb := (Rep.pair Rep.sn (Rep.int .i64))) rfl rfl (by kernel_rfl) (opens_sn Tryd.underlying9) (fields_cons (i := 2) (off := 2) (Ea := Rep.sn) (Eb := (Rep.int .i64)) rfl rfl (by kernel_rfl) (opens_sn Tryd.underlying9) (fields_last (i := 3) (off := 3) (E := (Rep.int .i64)) rfl rfl (by kernel_rfl) (opens_int Tryd.underlying2)))))))))))))))))))))))))) _ _ _ _ _ _ _ _ hf0
  clear hf0
  obtain ⟨A0_0, c0_0, hcs0, rd0_0⟩ := Act.sreq_cells R0
  obtain rfl := agg_of_cells hcs0 (by simp)
  obtain ⟨a1, len1, cap1, rfl⟩ := okWide_slice Tryd.underlying28 (hval 1 28 v1 rfl rfl)
  have k1 := h1
  have lt1 : ∀ x ∈ p1, x.block < W.heap.size := by obtain ⟨m, hm⟩ := k1; exact DataW.trod_lt m _ _ _ hm
  obtain ⟨x1, rd1, le1, wf1⟩ : ∃ xs : List Int, Rd (.int .u8) W (fun i => i < W.heap.size) a1 xs cap1 ∧ xs.length = len1 ∧ ∀ n ∈ xs, (Lit.int .u8 n).wf = true := by
    obtain ⟨fuel, hf⟩ := h1
    refine rd_ints ?_
    rcases open_ints Tryd.underlying28 Tryd.underlying5 (by kernel_rfl) hf with ⟨hcs, _⟩ | ⟨x, l, c, zs, hcs, _, hl, hm, hz, _, hcell, hwz⟩
    · simp [Value.cells] at hcs
      exact .inl hcs
    · simp [Value.cells] at hcs
      obtain ⟨rfl, rfl, rfl⟩ := hcs
      exact .inr ⟨x, zs, rfl, hl, hm, by simpa using hz, hcell, hwz⟩
  subst le1
  obtain ⟨a2, rfl, rfl, rfl, w2⟩ := open_int Tryd.underlying3 (hval 2 3 v2 rfl rfl) h2
  clear hA0 hval0 hsz0
  refine Calls.mono (Act.sBack_calls W hL' rd0_0 (⟨wf0.1.1, i64_wf wf0.2.1, (fun o ho => ⟨i64_wf (wf0.2.2 o ho).1, (wf0.2.2 o ho).2.1.1, ⟨(wf0.2.2 o ho).2.2.1.2.1.1, (wf0.2.2 o ho).2.2.1.2.2.1.1, i64_wf (wf0.2.2 o ho).2.2.1.2.2.2⟩, ⟨(wf0.2.2 o ho).2.2.2.1.1, i64_wf (wf0.2.2 o ho).2.2.2.2.1, u64_wf (wf0.2.2 o ho).2.2.2.2.2.1, u64_wf (wf0.2.2 o ho).2.2.2.2.2.2.1, (fun s hs => ⟨((wf0.2.2 o ho).2.2.2.2.2.2.2 s hs).2.1.1, ((wf0.2.2 o ho).2.2.2.2.2.2.2 s hs).2.2.1.1, i64_wf ((wf0.2.2 o ho).2.2.2.2.2.2.2 s hs).2.2.2⟩)⟩⟩)⟩ : Act.SReqB x0) rd1 (fun n hn => byte_wf (wf1 n hn)) a2 (i64_wf w2)) ?_
  suffices h : ∀ e W', (e = Ending.returned (.bool true) ∧ Below W.heap.size W W') → _ from fun e W' he => h e W' ⟨he.1, he.2.below⟩
  rintro e W' ⟨he, bel⟩
  subst he
  exact ⟨_, rfl, _, _, _, [], _, [], hW', trodAll_mk1 (shut_bool Tryd.underlying4 _), (trodAll_cons_mk (Below.trod laidOut (by kernel_rfl) (of_decide_eq_true (by kernel_rfl)) k0 bel lt0) (trodAll_cons_mk (Below.trod laidOut (by kernel_rfl) (of_decide_eq_true (by kernel_rfl)) k1 bel lt1) (trodAll_cons_mk (shut_int Tryd.underlying3 w2) trodAll_mk0))), rfl, bel.frame _, fun h => by cases h⟩
theorem over : Rows.sessionBackRow.holds Tryd.pinned (OpenSpec.ofChange Rows.sessionBackSpec) :=
  OpenClaim.holds_of_wide 10 Tryd.f10 rfl rfl rfl rfl rfl rfl rfl ⟨rfl, rfl, rfl, rfl, rfl⟩ rfl rfl rfl rfl rfl (by kernel_rfl) Tryd.func10 (by kernel_rfl)
    (of_decide_eq_true (by kernel_rfl)) (by unfold Func.isWrapper; first | (rw [if_pos (by decide +kernel)]; kernel_rfl) | (rw [if_neg (by decide +kernel)]; exact ⟨rfl, rfl⟩))
    (fun os started H enc _ => lifted os started H enc)
end Go.Proofs.YtiiklnghnifmjaaDoor.sessionBack
namespace Go.Proofs.YtiiklnghnifmjaaDoor
/-- The card: the row, its listed variables tied to the program's text. -/
theorem sessionBack_holds : Rows.SessionBackCardSaid :=
  Claim7.holds_tied_plain_at .later [] [.data, .data, .data, .sentinel, .sentinel] true (true, "ac837ab959882d9e9007251a1c2e9872b718796a1df04f0b0b198a40374db824") true
    sessionBack.over (fun _ h => by cases h) (by kernel_rfl) (fun _ h => by cases h) sessionBack_row_tie rfl ⟨rfl, rfl⟩ (by kernel_rfl) rfl
    (fun f fn hf hfn => by
      obtain rfl : f = 10 := Option.some.inj ((show Tryd.prog.funcNamed "belfry/belfrylaw22.SessionBack" = some 10 by kernel_rfl).symm.trans hf) |>.symm
      obtain rfl : fn = Tryd.f10 := (Option.some.inj (Tryd.func10.symm.trans hfn)).symm
      exact ⟨by kernel_rfl, fun j t ht => by
        rw [Tryd.params10] at ht
        have hm : t ∈ [45, 28, 3] := by simpa using Array.mem_of_getElem? ht
        have hall : ([45, 28, 3].all fun u => !Tryd.prog.wantsStandIn u) = true := by kernel_rfl
        exact (show Tryd.prog.wantsStandIn t = false by simpa using List.all_eq_true.1 hall t hm)⟩)
    (by kernel_rfl)
#print axioms sessionBack_holds
end Go.Proofs.YtiiklnghnifmjaaDoor
