/- The program's structs as data: how they lie in cells. (Written by dat.py.) -/
import Derived.Test.YtiiklnghnifmjaaGreatDoorActTZc
set_option linter.unusedVariables false
set_option linter.unusedSimpArgs false
namespace Go.Proofs.YtiiklnghnifmjaaGreatDoor.Act
open Go.RowKit Go.Proofs.YtiiklnghnifmjaaGreatDoor.Sx Go.Proofs.YtiiklnghnifmjaaGreatDoor.Cod Go.Proofs.YtiiklnghnifmjaaGreatDoor.Num
structure TimerD where
  name : List Int
  ver : Int
  tick : Int
  every : Int
  steps : List StepD
deriving DecidableEq
def TimerD.tup (x : TimerD) : (List Int) × Int × Int × Int × (List StepD) := (x.name, x.ver, x.tick, x.every, x.steps)
def TimE : Rep TimerD := Rep.iso (Rep.pair Rep.sn (Rep.pair (Rep.int .i64) (Rep.pair (Rep.int .u64) (Rep.pair (Rep.int .u64) (Rep.slice StE))))) TimerD.tup
theorem tim_cells {w : World} {ok : Nat → Prop} {x : TimerD} {cs : List Value} (h : TimE.R w ok x cs) : ∃ A0 c0, cs = [.string (strOfNums x.name), .int .i64 x.ver, .int .u64 x.tick, .int .u64 x.every, .slice A0 x.steps.length c0] ∧ Rd StE w ok A0 x.steps c0 := by
  obtain ⟨cc0, dd0, rfl, hc0, cc1, dd1, rfl, hc1, cc2, dd2, rfl, hc2, cc3, dd3, rfl, hc3, ⟨A0, c0, hc4, hr0⟩⟩ := h
  have he0 : cc0 = [.string (strOfNums x.name)] := hc0
  subst he0
  have he1 : cc1 = [.int .i64 x.ver] := hc1
  subst he1
  have he2 : cc2 = [.int .u64 x.tick] := hc2
  subst he2
  have he3 : cc3 = [.int .u64 x.every] := hc3
  subst he3
  subst hc4
  exact ⟨A0, c0, rfl, hr0⟩
theorem tim_mk {w : World} {ok : Nat → Prop} (x : TimerD) {A0 : Option Addr} {c0 : Nat} (hr0 : Rd StE w ok A0 x.steps c0) : TimE.R w ok x [.string (strOfNums x.name), .int .i64 x.ver, .int .u64 x.tick, .int .u64 x.every, .slice A0 x.steps.length c0] :=
  ⟨[.string (strOfNums x.name)], _, rfl, rfl, [.int .i64 x.ver], _, rfl, rfl, [.int .u64 x.tick], _, rfl, rfl, [.int .u64 x.every], _, rfl, rfl, ⟨A0, c0, rfl, hr0⟩⟩
structure ChangeD where
  kind : Int
  key : List Int
  value : List Int
  timer : TimerD
deriving DecidableEq
def ChangeD.tup (x : ChangeD) : Int × (List Int) × (List Int) × TimerD := (x.kind, x.key, x.value, x.timer)
def gchg (xs : List ChangeD) (i : Int) : ChangeD := xs.getD i.toNat ⟨0, [], [], ⟨[], 0, 0, 0, []⟩⟩
theorem gchg_some {xs : List ChangeD} {i : Int} (h0 : 0 ≤ i) (h1 : i < xs.length) : xs[i.toNat]? = some (gchg xs i) := by
  have hi : i.toNat < xs.length := by omega
  simp [gchg, List.getD_eq_getElem?_getD, List.getElem?_eq_getElem hi]
theorem gchg_at {xs : List ChangeD} {j : Nat} (h : j < xs.length) : xs[j]? = some (gchg xs (j : Int)) := gchg_some (xs := xs) (i := (j : Int)) (by omega) (by omega)
structure OpD where
  kind : Int
  key : List Int
  step : StepD
  timer : TimerD
deriving DecidableEq
def OpD.tup (x : OpD) : Int × (List Int) × StepD × TimerD := (x.kind, x.key, x.step, x.timer)
def OpdE : Rep OpD := Rep.iso (Rep.pair (Rep.int .i64) (Rep.pair Rep.sn (Rep.pair StE TimE))) OpD.tup
def gopd (xs : List OpD) (i : Int) : OpD := xs.getD i.toNat ⟨0, [], (0, [], [], 0), ⟨[], 0, 0, 0, []⟩⟩
theorem gopd_some {xs : List OpD} {i : Int} (h0 : 0 ≤ i) (h1 : i < xs.length) : xs[i.toNat]? = some (gopd xs i) := by
  have hi : i.toNat < xs.length := by omega
  simp [gopd, List.getD_eq_getElem?_getD, List.getElem?_eq_getElem hi]
theorem gopd_mem {xs : List OpD} {j : Nat} (h : j < xs.length) : gopd xs (j : Int) ∈ xs := List.mem_of_getElem? (gopd_some (xs := xs) (i := (j : Int)) (by omega) (by omega))
theorem gopd_at {xs : List OpD} {j : Nat} (h : j < xs.length) : xs[j]? = some (gopd xs (j : Int)) := gopd_some (xs := xs) (i := (j : Int)) (by omega) (by omega)
theorem opd_cells {w : World} {ok : Nat → Prop} {x : OpD} {cs : List Value} (h : OpdE.R w ok x cs) : ∃ A0 c0, cs = [.int .i64 x.kind, .string (strOfNums x.key), .int .i64 x.step.1, .string (strOfNums x.step.2.1), .string (strOfNums x.step.2.2.1), .int .i64 x.step.2.2.2, .string (strOfNums x.timer.name), .int .i64 x.timer.ver, .int .u64 x.timer.tick, .int .u64 x.timer.every, .slice A0 x.timer.steps.length c0] ∧ Rd StE w ok A0 x.timer.steps c0 := by
  obtain ⟨cc0, dd0, rfl, hc0, cc1, dd1, rfl, hc1, cc2, dd2, rfl, hs2, hs3⟩ := h
  have he0 : cc0 = [.int .i64 x.kind] := hc0
  subst he0
  have he1 : cc1 = [.string (strOfNums x.key)] := hc1
  subst he1
  have hc2 := st_cells hs2
  subst hc2
  obtain ⟨A0, c0, rfl, hr0⟩ := tim_cells hs3
  exact ⟨A0, c0, rfl, hr0⟩
theorem opd_mk {w : World} {ok : Nat → Prop} (x : OpD) {A0 : Option Addr} {c0 : Nat} (hr0 : Rd StE w ok A0 x.timer.steps c0) : OpdE.R w ok x [.int .i64 x.kind, .string (strOfNums x.key), .int .i64 x.step.1, .string (strOfNums x.step.2.1), .string (strOfNums x.step.2.2.1), .int .i64 x.step.2.2.2, .string (strOfNums x.timer.name), .int .i64 x.timer.ver, .int .u64 x.timer.tick, .int .u64 x.timer.every, .slice A0 x.timer.steps.length c0] :=
  ⟨[.int .i64 x.kind], _, rfl, rfl, [.string (strOfNums x.key)], _, rfl, rfl, [.int .i64 x.step.1, .string (strOfNums x.step.2.1), .string (strOfNums x.step.2.2.1), .int .i64 x.step.2.2.2], _, rfl, (st_mk x.step), (tim_mk x.timer hr0)⟩
theorem rd_opd {w : World} {ok : Nat → Prop} {A : Option Addr} {xs : List OpD} {c : Nat} (hr : Rd OpdE w ok A xs c) {i : Nat} {f : OpD} (hx : xs[i]? = some f) : ∃ A0 c0, Rd StE w ok A0 f.timer.steps c0 ∧ w.cell? (adr A (i * 11)) = some (.int .i64 f.kind) ∧ w.cell? (adr A (i * 11 + 1)) = some (.string (strOfNums f.key)) ∧ w.cell? (adr A (i * 11 + 2)) = some (.int .i64 f.step.1) ∧ w.cell? (adr A (i * 11 + 3)) = some (.string (strOfNums f.step.2.1)) ∧ w.cell? (adr A (i * 11 + 4)) = some (.string (strOfNums f.step.2.2.1)) ∧ w.cell? (adr A (i * 11 + 5)) = some (.int .i64 f.step.2.2.2) ∧ w.cell? (adr A (i * 11 + 6)) = some (.string (strOfNums f.timer.name)) ∧ w.cell? (adr A (i * 11 + 7)) = some (.int .i64 f.timer.ver) ∧ w.cell? (adr A (i * 11 + 8)) = some (.int .u64 f.timer.tick) ∧ w.cell? (adr A (i * 11 + 9)) = some (.int .u64 f.timer.every) ∧ w.cell? (adr A (i * 11 + 10)) = some (.slice A0 f.timer.steps.length c0) ∧
    (∀ j u, (#[.int .i64 f.kind, .string (strOfNums f.key), .int .i64 f.step.1, .string (strOfNums f.step.2.1), .string (strOfNums f.step.2.2.1), .int .i64 f.step.2.2.2, .string (strOfNums f.timer.name), .int .i64 f.timer.ver, .int .u64 f.timer.tick, .int .u64 f.timer.every, .slice A0 f.timer.steps.length c0] : Array Value).toList[j]? = some u → w.cell? ((adr A (i * 11)).add j) = some u) := by
  obtain ⟨cs, hR, hc⟩ := hr.cellsA (n := 11) rfl hx
  obtain ⟨A0, c0, rfl, hr0⟩ := opd_cells hR
  obtain ⟨b, off, rfl⟩ := hr.some_ (by have := (List.getElem?_eq_some_iff.1 hx).1; omega)
  have e : ∀ q, adr (some (⟨b, off, Option.none⟩ : Addr)) q = ⟨b, off + q, Option.none⟩ := fun q => by simp only [adr, Option.getD_some]; exact add_off _ _ _
  have g : ∀ j u, [(.int .i64 f.kind : Value), .string (strOfNums f.key), .int .i64 f.step.1, .string (strOfNums f.step.2.1), .string (strOfNums f.step.2.2.1), .int .i64 f.step.2.2.2, .string (strOfNums f.timer.name), .int .i64 f.timer.ver, .int .u64 f.timer.tick, .int .u64 f.timer.every, .slice A0 f.timer.steps.length c0][j]? = some u → w.cell? (adr (some (⟨b, off, Option.none⟩ : Addr)) (i * 11 + j)) = some u := fun j u hj => by
    have := hc j u hj
    rw [e, add_off] at this
    rw [e, ← Nat.add_assoc]; exact this
  exact ⟨A0, c0, hr0, g 0 _ rfl, g 1 _ rfl, g 2 _ rfl, g 3 _ rfl, g 4 _ rfl, g 5 _ rfl, g 6 _ rfl, g 7 _ rfl, g 8 _ rfl, g 9 _ rfl, g 10 _ rfl, fun j u hj => hc j u hj⟩
structure ResultD where
  has : Bool
  value : List Int
  ver : Int
  tick : Int
deriving DecidableEq
def ResultD.tup (x : ResultD) : Bool × (List Int) × Int × Int := (x.has, x.value, x.ver, x.tick)
structure MessageD where
  kind : Int
  src : Int
  dst : Int
  tx : Int
  nodes : List Int
  changes : List ChangeD
deriving DecidableEq
def MessageD.tup (x : MessageD) : Int × Int × Int × Int × (List Int) × (List ChangeD) := (x.kind, x.src, x.dst, x.tx, x.nodes, x.changes)
structure AnswerD where
  outcome : Int
  err : Int
  results : List ResultD
deriving DecidableEq
def AnswerD.tup (x : AnswerD) : Int × Int × (List ResultD) := (x.outcome, x.err, x.results)
structure SReqD where
  client : List Int
  num : Int
  ops : List OpD
deriving DecidableEq
def SReqD.tup (x : SReqD) : (List Int) × Int × (List OpD) := (x.client, x.num, x.ops)
def SreqE : Rep SReqD := Rep.iso (Rep.pair Rep.sn (Rep.pair (Rep.int .i64) (Rep.slice OpdE))) SReqD.tup
theorem sreq_cells {w : World} {ok : Nat → Prop} {x : SReqD} {cs : List Value} (h : SreqE.R w ok x cs) : ∃ A0 c0, cs = [.string (strOfNums x.client), .int .i64 x.num, .slice A0 x.ops.length c0] ∧ Rd OpdE w ok A0 x.ops c0 := by
  obtain ⟨cc0, dd0, rfl, hc0, cc1, dd1, rfl, hc1, ⟨A0, c0, hc2, hr0⟩⟩ := h
  have he0 : cc0 = [.string (strOfNums x.client)] := hc0
  subst he0
  have he1 : cc1 = [.int .i64 x.num] := hc1
  subst he1
  subst hc2
  exact ⟨A0, c0, rfl, hr0⟩
end Go.Proofs.YtiiklnghnifmjaaGreatDoor.Act
