/- The acts of session's scripts as data. (The middle part written by dat.py.) -/
import Derived.Test.YtiiklnghnifmjaaDoorSesDZu
import Derived.Test.YtiiklnghnifmjaaDoorMapZu
set_option linter.unusedVariables false
set_option linter.unusedSimpArgs false
namespace Go.Proofs.YtiiklnghnifmjaaDoor.Act
open Go.RowKit Go.Proofs.YtiiklnghnifmjaaDoor.Sx Go.Proofs.YtiiklnghnifmjaaDoor.Cod Go.Proofs.YtiiklnghnifmjaaDoor.Num
structure SActD where
  kind : Int
  req : SReqD
  ans : AnswerD
deriving DecidableEq
def SActD.tup (x : SActD) : Int × SReqD × AnswerD := (x.kind, x.req, x.ans)
def SactE : Rep SActD := Rep.iso (Rep.pair (Rep.int .i64) (Rep.pair SreqE AnsE)) SActD.tup
def gsact (xs : List SActD) (i : Int) : SActD := xs.getD i.toNat ⟨0, ⟨[], 0, []⟩, ⟨0, 0, []⟩⟩
theorem gsact_some {xs : List SActD} {i : Int} (h0 : 0 ≤ i) (h1 : i < xs.length) : xs[i.toNat]? = some (gsact xs i) := by
  have hi : i.toNat < xs.length := by omega
  simp [gsact, List.getD_eq_getElem?_getD, List.getElem?_eq_getElem hi]
theorem gsact_mem {xs : List SActD} {j : Nat} (h : j < xs.length) : gsact xs (j : Int) ∈ xs := List.mem_of_getElem? (gsact_some (xs := xs) (i := (j : Int)) (by omega) (by omega))
theorem sact_cells {w : World} {ok : Nat → Prop} {x : SActD} {cs : List Value} (h : SactE.R w ok x cs) : ∃ A0 c0 A1 c1, cs = [.int .i64 x.kind, .string (strOfNums x.req.client), .int .i64 x.req.num, .slice A0 x.req.ops.length c0, .int .i64 x.ans.outcome, .int .i64 x.ans.err, .slice A1 x.ans.results.length c1] ∧ Rd OpdE w ok A0 x.req.ops c0 ∧ Rd ResE w ok A1 x.ans.results c1 := by
  obtain ⟨cc0, dd0, rfl, hc0, cc1, dd1, rfl, hs1, hs2⟩ := h
  have he0 : cc0 = [.int .i64 x.kind] := hc0
  subst he0
  obtain ⟨A0, c0, rfl, hr0⟩ := sreq_cells hs1
  obtain ⟨A1, c1, rfl, hr1⟩ := ans_cells hs2
  exact ⟨A0, c0, A1, c1, rfl, hr0, hr1⟩
theorem rd_sact {w : World} {ok : Nat → Prop} {A : Option Addr} {xs : List SActD} {c : Nat} (hr : Rd SactE w ok A xs c) {i : Nat} {f : SActD} (hx : xs[i]? = some f) : ∃ A0 c0 A1 c1, Rd OpdE w ok A0 f.req.ops c0 ∧ Rd ResE w ok A1 f.ans.results c1 ∧ w.cell? (adr A (i * 7)) = some (.int .i64 f.kind) ∧ w.cell? (adr A (i * 7 + 1)) = some (.string (strOfNums f.req.client)) ∧ w.cell? (adr A (i * 7 + 2)) = some (.int .i64 f.req.num) ∧ w.cell? (adr A (i * 7 + 3)) = some (.slice A0 f.req.ops.length c0) ∧ w.cell? (adr A (i * 7 + 4)) = some (.int .i64 f.ans.outcome) ∧ w.cell? (adr A (i * 7 + 5)) = some (.int .i64 f.ans.err) ∧ w.cell? (adr A (i * 7 + 6)) = some (.slice A1 f.ans.results.length c1) ∧
    (∀ j u, (#[.int .i64 f.kind, .string (strOfNums f.req.client), .int .i64 f.req.num, .slice A0 f.req.ops.length c0, .int .i64 f.ans.outcome, .int .i64 f.ans.err, .slice A1 f.ans.results.length c1] : Array Value).toList[j]? = some u → w.cell? ((adr A (i * 7)).add j) = some u) := by
  obtain ⟨cs, hR, hc⟩ := hr.cellsA (n := 7) rfl hx
  obtain ⟨A0, c0, A1, c1, rfl, hr0, hr1⟩ := sact_cells hR
  obtain ⟨b, off, rfl⟩ := hr.some_ (by have := (List.getElem?_eq_some_iff.1 hx).1; omega)
  have e : ∀ q, adr (some (⟨b, off, Option.none⟩ : Addr)) q = ⟨b, off + q, Option.none⟩ := fun q => by simp only [adr, Option.getD_some]; exact add_off _ _ _
  have g : ∀ j u, [(.int .i64 f.kind : Value), .string (strOfNums f.req.client), .int .i64 f.req.num, .slice A0 f.req.ops.length c0, .int .i64 f.ans.outcome, .int .i64 f.ans.err, .slice A1 f.ans.results.length c1][j]? = some u → w.cell? (adr (some (⟨b, off, Option.none⟩ : Addr)) (i * 7 + j)) = some u := fun j u hj => by
    have := hc j u hj
    rw [e, add_off] at this
    rw [e, ← Nat.add_assoc]; exact this
  exact ⟨A0, c0, A1, c1, hr0, hr1, g 0 _ rfl, g 1 _ rfl, g 2 _ rfl, g 3 _ rfl, g 4 _ rfl, g 5 _ rfl, g 6 _ rfl, fun j u hj => hc j u hj⟩
structure ResB (r : ResultD) : Prop where
  value : Byte r.value
  ver : Fits r.ver
  tick : U64 r.tick
structure AnsB (a : AnswerD) : Prop where
  outcome : Fits a.outcome
  err : Fits a.err
  results : ∀ r ∈ a.results, ResB r
structure SActB (a : SActD) : Prop where
  kind : Fits a.kind
  req : SReqB a.req
  ans : AnsB a.ans
end Go.Proofs.YtiiklnghnifmjaaDoor.Act
namespace Go.Proofs.YtiiklnghnifmjaaDoor.Sx
open Go.RowKit
section
variable {P : Program} {fn : Func} {a : Act} {w : World} {n : Nat} {L : List (Nat × Value)} {v u u' : Value} {ds : List Deferred}
/-- A struct in a cell, and two values. -/
theorem resctt (hF : FrD ds n a L) {t t' t2 : Nat} {ty : TypeId} {b : Nat} {cs : Array Value} {T : TypeId} {fz : Nat × Nat} {z : Value} {k by' : Nat} (hr : fn.results = #[.cell t ty, .tmp t', .tmp t2]) (hv : get L t = some (.pointer (some ⟨b, 0, none⟩))) (hu : get L t' = some u) (hu2 : get L t2 = some u') (hb : w.heap[b]? = some (.cells cs T fz))
    (h : TyI P ty z k by' true) (hn : cs.size = k) : (results fn a.tmps).run P w = .ok (.tuple #[.agg cs, u, u']) w := by
  have h3 : a.tmps[t]?.getD undef = .pointer (some ⟨b, 0, none⟩) := by simpa using hF.getD t hv
  have h4 : a.tmps[t']?.getD undef = u := by simpa using hF.getD t' hu
  have h5 : a.tmps[t2]?.getD undef = u' := by simpa using hF.getD t2 hu2
  obtain ⟨d, hd, he⟩ := h.und
  obtain ⟨i, hi, _, hz, _⟩ := h.parts
  have hl := run_loadVar_row (P := P) w b T ty cs fz d hb hd (by cases d <;> simp_all) (by rw [hi]; simp [hz, hn])
  simp [results, hr, h3, h4, h5, asAddr, hl]
end
end Go.Proofs.YtiiklnghnifmjaaDoor.Sx
