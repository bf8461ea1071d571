/- BagOrder: whatever messages, node and end, the law returns true and its arguments read as before; the listed variables of the library's are tied to the program's text; no other condition. -/
import Derived.Test.YtfocpadeflpabaaDoorCards
import Derived.Test.YtfocpadeflpabaaDoorTie
import Derived.SevenTiedAt
import Derived.LaidMore
import Derived.Stop.Joined
import Derived.Lib.LaidTab
import Derived.Stop.LaidErr
import Derived.Test.YtfocpadeflpabaaDoorRows
import Derived.Test.YtfocpadeflpabaaDoorOpenZo
import Derived.Test.YtfocpadeflpabaaDoorBagOZo
import Derived.WalkKit
import Derived.ProofKit
import Derived.OpenShut
import Derived.ShutString
import Derived.ChangeOld
import Derived.Below
import Derived.SizedLaws
namespace Go.Proofs.YtfocpadeflpabaaDoor.bagOrder
open Go.ChangeShapes Go.WideShapes Go.ChangeAt Go.RowKit Go.Proofs.YtfocpadeflpabaaDoor.Sx
open Go.ChangeMaps (open_string shut_string)
set_option linter.unusedVariables false
theorem own : ownKnob Tryd.prog.godebug = none := by kernel_rfl
theorem laidOut : laidOutB Tryd.prog = true := by kernel_rfl
def laids : List (String × DataW Unit) := [("math/bits.deBruijn32tab", Rows.laid_math_bits_deBruijn32tab), ("math/bits.deBruijn64tab", Rows.laid_math_bits_deBruijn64tab), ("internal/strconv.uint64pow10", Rows.laid_internal_strconv_uint64pow10), ("strconv.ErrRange", Rows.laid_strconv_ErrRange), ("strconv.ErrSyntax", Rows.laid_strconv_ErrSyntax)]
theorem tyT : (Tryd.prog.globals[0]?).map (·.type) = some 133 := by kernel_rfl
theorem tyR : (Tryd.prog.globals[4]?).map (·.type) = some 129 := by kernel_rfl
theorem tyS : (Tryd.prog.globals[3]?).map (·.type) = some 129 := by kernel_rfl
theorem starE : "*" ++ "errors.errorString" = "*errors.errorString" := by decide
theorem rowE (u : TypeId) (h : Tryd.prog.typeName? 3 u = some "*errors.errorString") : u = 152 :=
  typeName_ptr_named (nm := "errors.errorString") (by rw [starE]; kernel_rfl) (by kernel_rfl) (by decide) u (by rw [starE]; exact h)
set_option maxRecDepth 100000 in
theorem of_laid {W : World} (h : laidMetH Tryd.prog laids W) : LibAt true W := by
  rw [MakeChecks.laidMetH_plain _ _ _ (by kernel_rfl)] at h
  unfold laids at h
  obtain ⟨aR, sR, hR, _⟩ := laid_sentinel (h.tail.tail.tail) gnR tyR Tryd.underlying129 rowE Tryd.underlying152 Tryd.underlying154 rfl rfl Tryd.underlying9 (by kernel_rfl) (by kernel_rfl)
  obtain ⟨aS, sS, hS, _⟩ := laid_sentinel (h.tail.tail.tail.tail) gnS tyS Tryd.underlying129 rowE Tryd.underlying152 Tryd.underlying154 rfl rfl Tryd.underlying9 (by kernel_rfl) (by kernel_rfl)
  exact ⟨Lib.tabIs_of_head gnT tyT Tryd.underlying133 Tryd.underlying12 (by kernel_rfl) (by kernel_rfl) (show laidMet Tryd.prog (("internal/strconv.uint64pow10", Lib.tabData .u64 Lib.pow10Tab) :: _) W from h.tail.tail), fun _ => ⟨_, _, hS⟩, fun _ => ⟨_, _, hR⟩⟩
theorem door_met (os : Os) (args : Array Value) : laidMetH Tryd.prog laids ((World.doorLaid Tryd.prog 400 os).forCall (fun _ _ => 0) ⟨#[], args, []⟩).memory :=
  laidMetH_of_parts3 (fuel := 8) (laidMet_of_run' 8 (by kernel_rfl) (by kernel_rfl)) (by kernel_rfl) (by kernel_rfl)
set_option maxRecDepth 100000 in
theorem lifted (os : Os) (started : os.Started) (H : Type) (enc : TypeId × Value → H) :
    ReturnsInHanded {} Tryd.checked os 3 .any (fun w args => (Rows.bagOrderSpec.pre enc Tryd.prog Tryd.f3 [] false w args ∧ laidMetH Tryd.prog laids w) ∧ sizedMet enc Tryd.prog Tryd.f3 (OpenSpec.ofChange Rows.bagOrderSpec) false w args)
      (Rows.bagOrderSpec.post enc Tryd.prog Tryd.f3 false true false false) := by
  refine returnsInHanded_of_change_and (C := Tryd.checked) (X := fun w _ => laidMetH Tryd.prog laids w) (fun _ _ _ hh h => h.of_heap hh) own started (by kernel_rfl) Tryd.func3
    (ChangeSpec.witness_shaped (enc := enc) (C := Tryd.checked) (os := os) (X := fun w _ => laidMetH Tryd.prog laids w) false (World.doorLaid Tryd.prog 400 os) #[.slice none 0 0, .int .i64 0, .bool false] 8 rfl (World.shaped_of_RefB (by kernel_rfl) (by kernel_rfl)) (by kernel_rfl) (by kernel_rfl) (by kernel_rfl) (door_met os _)) ?_
  intro W base args ds gs before hval0 hW hcnd hsz0 hL _
  have hL' := of_laid hL
  clear hL
  have hval : ∀ (j : Nat) t v, Tryd.f3.params[j]? = some t → args[j]? = some v → Value.okWide Tryd.prog W .any base t v := hval0
  have hW' := hW
  obtain ⟨p, q, hA0, hV, rfl, hfz, hnd⟩ := hW
  have hA : DataW.TrodAll enc Tryd.prog W 0 (fun _ => true) true Tryd.f3.params.toList args.toList ds p := hA0
  rw [Tryd.params3] at hA hval
  obtain ⟨v0, vs0, d0, ds0, p0, q0, hargs, rfl, rfl, h0, r0⟩ := trodAll_cons hA
  obtain ⟨v1, vs1, d1, ds1, p1, q1, rfl, rfl, rfl, h1, r1⟩ := trodAll_cons r0
  obtain ⟨v2, vs2, d2, ds2, p2, q2, rfl, rfl, rfl, h2, r2⟩ := trodAll_cons r1
  obtain ⟨rfl, rfl, rfl⟩ := trodAll_nil r2
  obtain rfl : args = #[v0, v1, v2] := by cases args; simp_all
  obtain ⟨rfl, rfl⟩ := trodVars_none hV
  obtain ⟨a0, len0, cap0, rfl⟩ := okWide_slice Tryd.underlying22 (hval 0 22 v0 rfl rfl)
  have k0 := h0
  have lt0 : ∀ x ∈ p0, x.block < W.heap.size := by obtain ⟨m, hm⟩ := k0; exact DataW.trod_lt m _ _ _ hm
  obtain ⟨fuel0, hf0⟩ := h0
  obtain ⟨x0, ⟨A0, c0, hcs0, rd0⟩, wf0⟩ := (opens_slice Tryd.underlying22 (by kernel_rfl) (opens_iso (E := (Rep.pair (Rep.int .i64) (Rep.pair (Rep.int .i64) (Rep.pair (Rep.int .i64) (Rep.pair (Rep.int .i64) (Rep.pair (Rep.slice (Rep.int .i64)) (Rep.slice Act.ChgE))))))) Act.MessageD.tup (fun y => ⟨y.1, y.2.1, y.2.2.1, y.2.2.2.1, y.2.2.2.2.1, y.2.2.2.2.2⟩) (fun _ => rfl) (opens_struct (E := (Rep.pair (Rep.int .i64) (Rep.pair (Rep.int .i64) (Rep.pair (Rep.int .i64) (Rep.pair (Rep.int .i64) (Rep.pair (Rep.slice (Rep.int .i64)) (Rep.slice Act.ChgE))))))) Tryd.underlying30 (by kernel_rfl) (fields_cons (i := 0) (off := 0) (Ea := (Rep.int .i64)) (Eb := (Rep.pair (Rep.int .i64) (Rep.pair (Rep.int .i64) (Rep.pair (Rep.int .i64) (Rep.pair (Rep.slice (Rep.int .i64)) (Rep.slice Act.ChgE)))))) rfl rfl (by kernel_rfl) (opens_int Tryd.underlying26) (fields_cons (i := 1) (off := 1) (Ea := (Rep.int .i64)) (Eb := (Rep.pair (Rep.int .i64) (Rep.pair (Rep.int .i64) (Rep.pair (Rep.slice (Rep.int .i64)) (Rep.slice Act.ChgE))))) rfl rfl (by kernel_rfl) (opens_int Tryd.underlying3) (fields_cons (i := 2) (off := 2) (Ea := (Rep.int .i64)) (Eb := (Rep.pair (Rep.int .i64) (Rep.pair (Rep.slice (Rep.int .i64)) (Rep.slice Act.ChgE)))) rfl rfl (by kernel_rfl) (opens_int Tryd.underlying3) (fields_cons (i := 3) (off := 3) (Ea := (Rep.int .i64)) (Eb := (Rep.pair (Rep.slice (Rep.int .i64)) (Rep.slice Act.ChgE))) rfl rfl (by kernel_rfl) (opens_int Tryd.underlying3) (fields_cons (i := 4) (off := 4) (Ea := (Rep.slice (Rep.int .i64))) (Eb := (Rep.slice Act.ChgE)) rfl rfl (by kernel_rfl) (opens_slice Tryd.underlying27 (by kernel_rfl) (opens_int Tryd.underlying3)) (fields_last (i := 5) (off := 5) (E := (Rep.slice Act.ChgE)) rfl rfl (by kernel_rfl) (opens_slice Tryd.underlying28 (by kernel_rfl) (opens_iso (E := (Rep.pair (Rep.int .i64) (Rep.pair Rep.sn (Rep.pair Rep.sn Act.TimE)))) Act.ChangeD.tup (fun y => ⟨y.1, y.2.1, y.2.2.1, y.2.2.2⟩) (fun _ => rfl) (opens_struct (E := (Rep.pair (Rep.int .i64) (Rep.pair Rep.sn (Rep.pair Rep.sn Act.TimE)))) Tryd.underlying69 (by kernel_rfl) (fields_cons (i := 0) (off := 0) (Ea := (Rep.int .i64)) (Eb := (Rep.pair Rep.sn (Rep.pair Rep.sn Act.TimE))) rfl rfl (by kernel_rfl) (opens_int Tryd.underlying63) (fields_cons (i := 1) (off := 1) (Ea := Rep.sn) (Eb := (Rep.pair Rep.sn Act.TimE)) rfl rfl (by kernel_rfl) (opens_sn Tryd.underlying9) (fields_cons (i := 2) (off := 2) (Ea := Rep.sn) (Eb := Act.TimE) rfl rfl (by kernel_rfl) (opens_sn Tryd.underlying9) (fields_last (i := 3) (off := 3) (E := Act.TimE) rfl rfl (by kernel_rfl) (opens_iso (E := (Rep.pair Rep.sn (Rep.pair (Rep.int .i64) (Rep.pair (Rep.int .u64) (Rep.pair (Rep.int .u64) (Rep.slice (Rep.pair (Rep.int .i64) (Rep.pair Rep.sn (Rep.pair Rep.sn (Rep.int .i64)))))))))) Act.TimerD.tup (fun y => ⟨y.1, y.2.1, y.2.2.1, y.2.2.2.1, y.2.2.2.2⟩) (fun _ => rfl) (opens_struct (E := (Rep.pair Rep.sn (Rep.pair (Rep.int .i64) (Rep.pair (Rep.int .u64) (Rep.pair (Rep.int .u64) (Rep.slice (Rep.pair (Rep.int .i64) (Rep.pair Rep.sn (Rep.pair Rep.sn (Rep.int .i64)))))))))) Tryd.underlying67 (by kernel_rfl) (fields_cons (i := 0) (off := 0) (Ea := Rep.sn) (Eb := (Rep.pair (Rep.int .i64) (Rep.pair (Rep.int .u64) (Rep.pair (Rep.int .u64) (Rep.slice (Rep.pair (Rep.int .i64) (Rep.pair Rep.sn (Rep.pair Rep.sn (Rep.int .i64))))))))) rfl rfl (by kernel_rfl) (opens_sn Tryd.underlying9) (fields_cons (i := 1) (off := 1) (Ea := (Rep.int .i64)) (Eb := (Rep.pair (Rep.int .u64) (Rep.pair (Rep.int .u64) (Rep.slice (Rep.pair (Rep.int .i64) (Rep.pair Rep.sn (Rep.pair Rep.sn (Rep.int .i64)))))))) rfl rfl (by kernel_rfl) (opens_int Tryd.underlying3) (fields_cons (i := 2) (off := 2) (Ea := (Rep.int .u64)) (Eb := (Rep.pair (Rep.int .u64) (Rep.slice (Rep.pair (Rep.int .i64) (Rep.pair Rep.sn (Rep.pair Rep.sn (Rep.int .i64))))))) rfl rfl (by kernel_rfl) (opens_int Tryd.underlying64) (fields_cons (i := 3) (off := 3) (Ea := (Rep.int .u64)) (Eb := (Rep.slice (Rep.pair (Rep.int .i64) (Rep.pair Rep.sn (Rep.pair Rep.sn (Rep.int .i64)))))) rfl rfl (by kernel_rfl) (opens_int Tryd.underlying64) (fields_last (i := 4) (off := 4) (E := (Rep.slice (Rep.pair (Rep.int .i64) (Rep.pair Rep.sn (Rep.pair Rep.sn (Rep.int .i64)))))) rfl rfl (by kernel_rfl) (opens_slice Tryd.underlying65 (by kernel_rfl) (opens_struct (E := (Rep.pair (Rep.int .i64) (Rep.pair Rep.sn (Rep.pair Rep.sn (Rep.int .i64))))) Tryd.underlying108 (by kernel_rfl) (fields_cons (i := 0) (off := 0) (Ea := (Rep.int .i64)) (Eb := (Rep.pair Rep.sn (Rep.pair Rep.sn (Rep.int .i64)))) rfl rfl (by kernel_rfl) (opens_int Tryd.underlying106) (fields_cons (i := 1) (off := 1) (Ea := Rep.sn) (Eb := (Rep.pair Rep.sn (Rep.int .i64))) rfl rfl (by kernel_rfl) (opens_sn Tryd.underlying9) (fields_cons (i := 2) (off := 2) (Ea := Rep.sn) (Eb := (Rep.int .i64)) rfl rfl (by kernel_rfl) (opens_sn Tryd.underlying9) (fields_last (i := 3) (off := 3) (E := (Rep.int .i64)) rfl rfl (by kernel_rfl) (opens_int Tryd.underlying2)))))))))))))))))))))))))))))) _ _ _ _ _ _ _ _ hf0
  clear hf0
  simp [Value.cells] at hcs0
  obtain ⟨rfl, rfl, rfl⟩ := hcs0
  obtain ⟨a1, rfl, rfl, rfl, w1⟩ := open_int Tryd.underlying3 (hval 1 3 v1 rfl rfl) h1
  obtain ⟨a2, rfl, rfl, rfl⟩ := open_bool Tryd.underlying4 (hval 2 4 v2 rfl rfl) h2
  clear hA0 hval0 hsz0
  refine Calls.mono (Act.bOrder_calls W hL' rd0 (fun m hm => (⟨i64_wf (wf0 m hm).1, i64_wf (wf0 m hm).2.1, i64_wf (wf0 m hm).2.2.1, i64_wf (wf0 m hm).2.2.2.1, (fun n hn => i64_wf ((wf0 m hm).2.2.2.2.1 n hn)), (fun c hc => ⟨i64_wf ((wf0 m hm).2.2.2.2.2 c hc).1, ((wf0 m hm).2.2.2.2.2 c hc).2.1.1, ((wf0 m hm).2.2.2.2.2 c hc).2.2.1.1, ⟨((wf0 m hm).2.2.2.2.2 c hc).2.2.2.1.1, i64_wf ((wf0 m hm).2.2.2.2.2 c hc).2.2.2.2.1, u64_wf ((wf0 m hm).2.2.2.2.2 c hc).2.2.2.2.2.1, u64_wf ((wf0 m hm).2.2.2.2.2 c hc).2.2.2.2.2.2.1, (fun s hs => ⟨(((wf0 m hm).2.2.2.2.2 c hc).2.2.2.2.2.2.2 s hs).2.1.1, (((wf0 m hm).2.2.2.2.2 c hc).2.2.2.2.2.2.2 s hs).2.2.1.1, i64_wf (((wf0 m hm).2.2.2.2.2 c hc).2.2.2.2.2.2.2 s hs).2.2.2⟩)⟩⟩)⟩ : Act.MessageB m)) a1 a2) ?_
  suffices h : ∀ e W', (e = Ending.returned (.bool true) ∧ Below W.heap.size W W') → _ from fun e W' he => h e W' ⟨he.1, he.2.below⟩
  rintro e W' ⟨he, bel⟩
  subst he
  exact ⟨_, rfl, _, _, _, [], _, [], hW', trodAll_mk1 (shut_bool Tryd.underlying4 _), (trodAll_cons_mk (Below.trod laidOut (by kernel_rfl) (of_decide_eq_true (by kernel_rfl)) k0 bel lt0) (trodAll_cons_mk (shut_int Tryd.underlying3 w1) (trodAll_cons_mk (shut_bool Tryd.underlying4 a2) trodAll_mk0))), rfl, bel.frame _, fun h => by cases h⟩
theorem over : Rows.bagOrderRow.holds Tryd.pinned (OpenSpec.ofChange Rows.bagOrderSpec) :=
  OpenClaim.holds_of_wide 3 Tryd.f3 rfl rfl rfl rfl rfl rfl rfl ⟨rfl, rfl, rfl, rfl, rfl⟩ rfl rfl rfl rfl rfl (by kernel_rfl) Tryd.func3 (by kernel_rfl)
    (of_decide_eq_true (by kernel_rfl)) (by unfold Func.isWrapper; first | (rw [if_pos (by decide +kernel)]; kernel_rfl) | (rw [if_neg (by decide +kernel)]; exact ⟨rfl, rfl⟩))
    (fun os started H enc _ => lifted os started H enc)
end Go.Proofs.YtfocpadeflpabaaDoor.bagOrder
namespace Go.Proofs.YtfocpadeflpabaaDoor
/-- The card: the row, its listed variables tied to the program's text. -/
theorem bagOrder_holds : Rows.BagOrderCardSaid :=
  Claim7.holds_tied_plain_at .later [] [.data, .data, .data, .sentinel, .sentinel] true (true, "e69ca02330c3297dcd4f78ee44a70c4ed56cb7c7b3748e6010bbdb3d554213a6") true
    bagOrder.over (fun _ h => by cases h) (by kernel_rfl) (fun _ h => by cases h) bagOrder_row_tie rfl ⟨rfl, rfl⟩ (by kernel_rfl) rfl
    (fun f fn hf hfn => by
      obtain rfl : f = 3 := Option.some.inj ((show Tryd.prog.funcNamed "belfry/belfrylaw17.BagOrder" = some 3 by kernel_rfl).symm.trans hf) |>.symm
      obtain rfl : fn = Tryd.f3 := (Option.some.inj (Tryd.func3.symm.trans hfn)).symm
      exact ⟨by kernel_rfl, fun j t ht => by
        rw [Tryd.params3] at ht
        have hm : t ∈ [22, 3, 4] := by simpa using Array.mem_of_getElem? ht
        have hall : ([22, 3, 4].all fun u => !Tryd.prog.wantsStandIn u) = true := by kernel_rfl
        exact (show Tryd.prog.wantsStandIn t = false by simpa using List.all_eq_true.1 hall t hm)⟩)
    (by kernel_rfl)
#print axioms bagOrder_holds
end Go.Proofs.YtfocpadeflpabaaDoor
