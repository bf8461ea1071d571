/- The program's structs as data: how they lie in cells. (Written by dat.py.) -/
import Derived.Test.YtiiklnghnifmjaaGreatDoorActTZb
set_option linter.unusedVariables false
set_option linter.unusedSimpArgs false
namespace Go.Proofs.YtiiklnghnifmjaaGreatDoor.Act
open Go.RowKit Go.Proofs.YtiiklnghnifmjaaGreatDoor.Sx Go.Proofs.YtiiklnghnifmjaaGreatDoor.Cod Go.Proofs.YtiiklnghnifmjaaGreatDoor.Num
structure TimerD where
  name : List Int
  ver : Int
  tick : Int
  every : Int
  steps : List StepD
deriving DecidableEq
def TimerD.tup (x : TimerD) : (List Int) × Int × Int × Int × (List StepD) := (x.name, x.ver, x.tick, x.every, x.steps)
def TimE : Rep TimerD := Rep.iso (Rep.pair Rep.sn (Rep.pair (Rep.int .i64) (Rep.pair (Rep.int .u64) (Rep.pair (Rep.int .u64) (Rep.slice StE))))) TimerD.tup
theorem tim_cells {w : World} {ok : Nat → Prop} {x : TimerD} {cs : List Value} (h : TimE.R w ok x cs) : ∃ A0 c0, cs = [.string (strOfNums x.name), .int .i64 x.ver, .int .u64 x.tick, .int .u64 x.every, .slice A0 x.steps.length c0] ∧ Rd StE w ok A0 x.steps c0 := by
  obtain ⟨cc0, dd0, rfl, hc0, cc1, dd1, rfl, hc1, cc2, dd2, rfl, hc2, cc3, dd3, rfl, hc3, ⟨A0, c0, hc4, hr0⟩⟩ := h
  have he0 : cc0 = [.string (strOfNums x.name)] := hc0
  subst he0
  have he1 : cc1 = [.int .i64 x.ver] := hc1
  subst he1
  have he2 : cc2 = [.int .u64 x.tick] := hc2
  subst he2
  have he3 : cc3 = [.int .u64 x.every] := hc3
  subst he3
  subst hc4
  exact ⟨A0, c0, rfl, hr0⟩
theorem tim_mk {w : World} {ok : Nat → Prop} (x : TimerD) {A0 : Option Addr} {c0 : Nat} (hr0 : Rd StE w ok A0 x.steps c0) : TimE.R w ok x [.string (strOfNums x.name), .int .i64 x.ver, .int .u64 x.tick, .int .u64 x.every, .slice A0 x.steps.length c0] :=
  ⟨[.string (strOfNums x.name)], _, rfl, rfl, [.int .i64 x.ver], _, rfl, rfl, [.int .u64 x.tick], _, rfl, rfl, [.int .u64 x.every], _, rfl, rfl, ⟨A0, c0, rfl, hr0⟩⟩
structure ChangeD where
  kind : Int
  key : List Int
  value : List Int
  timer : TimerD
deriving DecidableEq
def ChangeD.tup (x : ChangeD) : Int × (List Int) × (List Int) × TimerD := (x.kind, x.key, x.value, x.timer)
def ChgE : Rep ChangeD := Rep.iso (Rep.pair (Rep.int .i64) (Rep.pair Rep.sn (Rep.pair Rep.sn TimE))) ChangeD.tup
def gchg (xs : List ChangeD) (i : Int) : ChangeD := xs.getD i.toNat ⟨0, [], [], ⟨[], 0, 0, 0, []⟩⟩
theorem gchg_some {xs : List ChangeD} {i : Int} (h0 : 0 ≤ i) (h1 : i < xs.length) : xs[i.toNat]? = some (gchg xs i) := by
  have hi : i.toNat < xs.length := by omega
  simp [gchg, List.getD_eq_getElem?_getD, List.getElem?_eq_getElem hi]
theorem gchg_mem {xs : List ChangeD} {j : Nat} (h : j < xs.length) : gchg xs (j : Int) ∈ xs := List.mem_of_getElem? (gchg_some (xs := xs) (i := (j : Int)) (by omega) (by omega))
theorem gchg_at {xs : List ChangeD} {j : Nat} (h : j < xs.length) : xs[j]? = some (gchg xs (j : Int)) := gchg_some (xs := xs) (i := (j : Int)) (by omega) (by omega)
theorem chg_cells {w : World} {ok : Nat → Prop} {x : ChangeD} {cs : List Value} (h : ChgE.R w ok x cs) : ∃ A0 c0, cs = [.int .i64 x.kind, .string (strOfNums x.key), .string (strOfNums x.value), .string (strOfNums x.timer.name), .int .i64 x.timer.ver, .int .u64 x.timer.tick, .int .u64 x.timer.every, .slice A0 x.timer.steps.length c0] ∧ Rd StE w ok A0 x.timer.steps c0 := by
  obtain ⟨cc0, dd0, rfl, hc0, cc1, dd1, rfl, hc1, cc2, dd2, rfl, hc2, hs3⟩ := h
  have he0 : cc0 = [.int .i64 x.kind] := hc0
  subst he0
  have he1 : cc1 = [.string (strOfNums x.key)] := hc1
  subst he1
  have he2 : cc2 = [.string (strOfNums x.value)] := hc2
  subst he2
  obtain ⟨A0, c0, rfl, hr0⟩ := tim_cells hs3
  exact ⟨A0, c0, rfl, hr0⟩
theorem chg_mk {w : World} {ok : Nat → Prop} (x : ChangeD) {A0 : Option Addr} {c0 : Nat} (hr0 : Rd StE w ok A0 x.timer.steps c0) : ChgE.R w ok x [.int .i64 x.kind, .string (strOfNums x.key), .string (strOfNums x.value), .string (strOfNums x.timer.name), .int .i64 x.timer.ver, .int .u64 x.timer.tick, .int .u64 x.timer.every, .slice A0 x.timer.steps.length c0] :=
  ⟨[.int .i64 x.kind], _, rfl, rfl, [.string (strOfNums x.key)], _, rfl, rfl, [.string (strOfNums x.value)], _, rfl, rfl, (tim_mk x.timer hr0)⟩
theorem rd_chg {w : World} {ok : Nat → Prop} {A : Option Addr} {xs : List ChangeD} {c : Nat} (hr : Rd ChgE w ok A xs c) {i : Nat} {f : ChangeD} (hx : xs[i]? = some f) : ∃ A0 c0, Rd StE w ok A0 f.timer.steps c0 ∧ w.cell? (adr A (i * 8)) = some (.int .i64 f.kind) ∧ w.cell? (adr A (i * 8 + 1)) = some (.string (strOfNums f.key)) ∧ w.cell? (adr A (i * 8 + 2)) = some (.string (strOfNums f.value)) ∧ w.cell? (adr A (i * 8 + 3)) = some (.string (strOfNums f.timer.name)) ∧ w.cell? (adr A (i * 8 + 4)) = some (.int .i64 f.timer.ver) ∧ w.cell? (adr A (i * 8 + 5)) = some (.int .u64 f.timer.tick) ∧ w.cell? (adr A (i * 8 + 6)) = some (.int .u64 f.timer.every) ∧ w.cell? (adr A (i * 8 + 7)) = some (.slice A0 f.timer.steps.length c0) ∧
    (∀ j u, (#[.int .i64 f.kind, .string (strOfNums f.key), .string (strOfNums f.value), .string (strOfNums f.timer.name), .int .i64 f.timer.ver, .int .u64 f.timer.tick, .int .u64 f.timer.every, .slice A0 f.timer.steps.length c0] : Array Value).toList[j]? = some u → w.cell? ((adr A (i * 8)).add j) = some u) := by
  obtain ⟨cs, hR, hc⟩ := hr.cellsA (n := 8) rfl hx
  obtain ⟨A0, c0, rfl, hr0⟩ := chg_cells hR
  obtain ⟨b, off, rfl⟩ := hr.some_ (by have := (List.getElem?_eq_some_iff.1 hx).1; omega)
  have e : ∀ q, adr (some (⟨b, off, Option.none⟩ : Addr)) q = ⟨b, off + q, Option.none⟩ := fun q => by simp only [adr, Option.getD_some]; exact add_off _ _ _
  have g : ∀ j u, [(.int .i64 f.kind : Value), .string (strOfNums f.key), .string (strOfNums f.value), .string (strOfNums f.timer.name), .int .i64 f.timer.ver, .int .u64 f.timer.tick, .int .u64 f.timer.every, .slice A0 f.timer.steps.length c0][j]? = some u → w.cell? (adr (some (⟨b, off, Option.none⟩ : Addr)) (i * 8 + j)) = some u := fun j u hj => by
    have := hc j u hj
    rw [e, add_off] at this
    rw [e, ← Nat.add_assoc]; exact this
  exact ⟨A0, c0, hr0, g 0 _ rfl, g 1 _ rfl, g 2 _ rfl, g 3 _ rfl, g 4 _ rfl, g 5 _ rfl, g 6 _ rfl, g 7 _ rfl, fun j u hj => hc j u hj⟩
structure OpD where
  kind : Int
  key : List Int
  step : StepD
  timer : TimerD
deriving DecidableEq
def OpD.tup (x : OpD) : Int × (List Int) × StepD × TimerD := (x.kind, x.key, x.step, x.timer)
structure ResultD where
  has : Bool
  value : List Int
  ver : Int
  tick : Int
deriving DecidableEq
def ResultD.tup (x : ResultD) : Bool × (List Int) × Int × Int := (x.has, x.value, x.ver, x.tick)
structure MessageD where
  kind : Int
  src : Int
  dst : Int
  tx : Int
  nodes : List Int
  changes : List ChangeD
deriving DecidableEq
def MessageD.tup (x : MessageD) : Int × Int × Int × Int × (List Int) × (List ChangeD) := (x.kind, x.src, x.dst, x.tx, x.nodes, x.changes)
def MsgE : Rep MessageD := Rep.iso (Rep.pair (Rep.int .i64) (Rep.pair (Rep.int .i64) (Rep.pair (Rep.int .i64) (Rep.pair (Rep.int .i64) (Rep.pair (Rep.slice (Rep.int .i64)) (Rep.slice ChgE)))))) MessageD.tup
theorem msg_cells {w : World} {ok : Nat → Prop} {x : MessageD} {cs : List Value} (h : MsgE.R w ok x cs) : ∃ A0 c0 A1 c1, cs = [.int .i64 x.kind, .int .i64 x.src, .int .i64 x.dst, .int .i64 x.tx, .slice A0 x.nodes.length c0, .slice A1 x.changes.length c1] ∧ Rd (Rep.int .i64) w ok A0 x.nodes c0 ∧ Rd ChgE w ok A1 x.changes c1 := by
  obtain ⟨cc0, dd0, rfl, hc0, cc1, dd1, rfl, hc1, cc2, dd2, rfl, hc2, cc3, dd3, rfl, hc3, cc4, dd4, rfl, ⟨A0, c0, hc4, hr0⟩, ⟨A1, c1, hc5, hr1⟩⟩ := h
  have he0 : cc0 = [.int .i64 x.kind] := hc0
  subst he0
  have he1 : cc1 = [.int .i64 x.src] := hc1
  subst he1
  have he2 : cc2 = [.int .i64 x.dst] := hc2
  subst he2
  have he3 : cc3 = [.int .i64 x.tx] := hc3
  subst he3
  subst hc4
  subst hc5
  exact ⟨A0, c0, A1, c1, rfl, hr0, hr1⟩
structure AnswerD where
  outcome : Int
  err : Int
  results : List ResultD
deriving DecidableEq
def AnswerD.tup (x : AnswerD) : Int × Int × (List ResultD) := (x.outcome, x.err, x.results)
structure SReqD where
  client : List Int
  num : Int
  ops : List OpD
deriving DecidableEq
def SReqD.tup (x : SReqD) : (List Int) × Int × (List OpD) := (x.client, x.num, x.ops)
end Go.Proofs.YtiiklnghnifmjaaGreatDoor.Act
