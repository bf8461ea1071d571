/- The table of clients: what lies in memory, and what its operations do. -/
import Derived.Test.YtiiklnghnifmjaaDoorSacZu
import Derived.Test.YtiiklnghnifmjaaDoorSamDZu
import Derived.Test.YtiiklnghnifmjaaDoorObjZu
set_option linter.unusedVariables false
set_option linter.unusedSimpArgs false
namespace Go.Proofs.YtiiklnghnifmjaaDoor.Act
open Go.RowKit Go.Proofs.YtiiklnghnifmjaaDoor.Sx Go.Proofs.YtiiklnghnifmjaaDoor.Cod Go.Proofs.YtiiklnghnifmjaaDoor.Num
structure LastD where
  number : Int
  finished : Bool
  ans : AnswerD
deriving DecidableEq
def LastD.tup (x : LastD) : Int × Bool × AnswerD := (x.number, x.finished, x.ans)
def LastE : Rep LastD := Rep.iso (Rep.pair (Rep.int .i64) (Rep.pair Rep.bool AnsE)) LastD.tup
theorem last_cells {w : World} {ok : Nat → Prop} {x : LastD} {cs : List Value} (h : LastE.R w ok x cs) : ∃ A0 c0, cs = [.int .i64 x.number, .bool x.finished, .int .i64 x.ans.outcome, .int .i64 x.ans.err, .slice A0 x.ans.results.length c0] ∧ Rd ResE w ok A0 x.ans.results c0 := by
  obtain ⟨cc0, dd0, rfl, hc0, cc1, dd1, rfl, hc1, hs2⟩ := h
  have he0 : cc0 = [.int .i64 x.number] := hc0
  subst he0
  have he1 : cc1 = [.bool x.finished] := hc1
  subst he1
  obtain ⟨A0, c0, rfl, hr0⟩ := ans_cells hs2
  exact ⟨A0, c0, rfl, hr0⟩
theorem last_mk {w : World} {ok : Nat → Prop} (x : LastD) {A0 : Option Addr} {c0 : Nat} (hr0 : Rd ResE w ok A0 x.ans.results c0) : LastE.R w ok x [.int .i64 x.number, .bool x.finished, .int .i64 x.ans.outcome, .int .i64 x.ans.err, .slice A0 x.ans.results.length c0] :=
  ⟨[.int .i64 x.number], _, rfl, rfl, [.bool x.finished], _, rfl, rfl, (ans_mk x.ans hr0)⟩
def LV : VRep LastD := VRep.agg LastE
def KS : KeyR ByteArray := KeyR.str
abbrev TabM := List (ByteArray × LastD)
def last0 : LastD := ⟨0, false, ⟨0, 0, []⟩⟩
theorem last_open {w : World} {ok : Nat → Prop} {x : LastD} {v : Value} (h : LV.R w ok x v) : ∃ A c, v = .agg #[.int .i64 x.number, .bool x.finished, .int .i64 x.ans.outcome, .int .i64 x.ans.err, .slice A x.ans.results.length c] ∧ Rd ResE w ok A x.ans.results c := by
  obtain ⟨cs, h, rfl⟩ := h
  obtain ⟨A, c, rfl, hr⟩ := last_cells h
  exact ⟨A, c, rfl, hr⟩
theorem last_put {w : World} {ok : Nat → Prop} {x : LastD} {A : Option Addr} {c : Nat} (hr : Rd ResE w ok A x.ans.results c) : LV.R w ok x (.agg #[.int .i64 x.number, .bool x.finished, .int .i64 x.ans.outcome, .int .i64 x.ans.err, .slice A x.ans.results.length c]) := ⟨_, last_mk x hr, rfl⟩
theorem last_zero {w : World} {ok : Nat → Prop} : LV.R w ok last0 (.agg #[.int .i64 0, .bool false, .int .i64 0, .int .i64 0, .slice none 0 0]) := last_put (x := last0) (Rd.nil _ _ _)
def getT (m : TabM) (k : ByteArray) : LastD := (al m k).getD last0
def isT (m : TabM) (k : ByteArray) : Bool := (al m k).isSome
theorem getT_put (m : TabM) (k : ByteArray) (x : LastD) (k' : ByteArray) : getT (mput m k x) k' = if k = k' then x else getT m k' := by unfold getT; rw [al_put]; split <;> rfl
/-- A table lies at bt. -/
def TabA (T : TypeId) (bt : Nat) (m : TabM) (X : Asn) : Prop :=
  ∃ (bm : Nat) (okm : Nat → Prop), X = Asn.all [(1, .blk bt (.cells #[.map (some bm)] T (0, 0))), (2, .map KS LV bm m okm)]
/-- What a table keeps to. -/
def TabB (m : TabM) : Prop := ∀ k, AnsB (getT m k).ans ∧ (getT m k).ans.results.length ≤ 40
def ans0 : AnswerD := ⟨0, 0, []⟩
theorem ans0_B : AnsB ans0 := ⟨by decide, by decide, fun r hr => by cases hr⟩
theorem tab_nil : TabB [] := fun k => ⟨ans0_B, Nat.zero_le _⟩
theorem tab_put {m : TabM} (h : TabB m) (k : ByteArray) (x : LastD) (hx : AnsB x.ans ∧ x.ans.results.length ≤ 40) : TabB (mput m k x) := fun k' => by
  rw [getT_put]; split
  · exact hx
  · exact h k'
/-! ### What the operations do -/
def askHit (m : TabM) (r : SReqD) : Bool := rightQ r && isT m (strOfNums r.client) && decide ((getT m (strOfNums r.client)).number = r.num)
def askNew (m : TabM) (r : SReqD) : Bool := rightQ r && (!isT m (strOfNums r.client) || (decide ((getT m (strOfNums r.client)).number < r.num) && (getT m (strOfNums r.client)).finished))
def askA (m : TabM) (r : SReqD) : AnswerD := if askHit m r then (getT m (strOfNums r.client)).ans else ans0
def askF (m : TabM) (r : SReqD) : Bool := if askHit m r then (getT m (strOfNums r.client)).finished else false
def askM (m : TabM) (r : SReqD) : TabM := if askNew m r then mput m (strOfNums r.client) ⟨r.num, false, ans0⟩ else m
def askE (m : TabM) (r : SReqD) : Int := if askHit m r || askNew m r then 0 else if rightQ r then (if r.num < (getT m (strOfNums r.client)).number then 222 else 121) else 221
def finOk (m : TabM) (k : ByteArray) (n : Int) : Bool := isT m k && decide ((getT m k).number = n) && !(getT m k).finished
def finM (m : TabM) (k : ByteArray) (n : Int) (y : AnswerD) : TabM := if finOk m k n then mput m k ⟨n, true, y⟩ else m
def finE (m : TabM) (k : ByteArray) (n : Int) : Int := if finOk m k n then 0 else 121
theorem ask_ok {m : TabM} (h : TabB m) (r : SReqD) : TabB (askM m r) := by
  unfold askM; split
  · exact tab_put h _ _ ⟨ans0_B, Nat.zero_le _⟩
  · exact h
theorem fin_ok {m : TabM} (h : TabB m) (k : ByteArray) (n : Int) {y : AnswerD} (hy : AnsB y ∧ y.results.length ≤ 40) : TabB (finM m k n y) := by
  unfold finM; split
  · exact tab_put h _ _ hy
  · exact h
theorem askA_ok {m : TabM} (h : TabB m) (r : SReqD) : AnsB (askA m r) ∧ (askA m r).results.length ≤ 40 := by
  unfold askA; split
  · exact h _
  · exact ⟨ans0_B, Nat.zero_le _⟩
section
variable {m : TabM} {r : SReqD}
theorem ask_wrong (h : rightQ r = false) : askA m r = ans0 ∧ askF m r = false ∧ askE m r = 221 ∧ askM m r = m := by
  unfold askA askF askE askM askHit askNew; rw [h]; exact ⟨rfl, rfl, rfl, rfl⟩
theorem ask_late (hr : rightQ r = true) (hi : (al m (strOfNums r.client)).isSome = true) (h : r.num < (getT m (strOfNums r.client)).number) : askA m r = ans0 ∧ askF m r = false ∧ askE m r = 222 ∧ askM m r = m := by
  unfold askA askF askE askM askHit askNew isT; rw [hr, hi, decide_eq_false (p := _ = _) (by omega), decide_eq_false (p := (getT m (strOfNums r.client)).number < _) (by omega)]; simp [h]
theorem ask_hit (hr : rightQ r = true) (hi : (al m (strOfNums r.client)).isSome = true) (h : (getT m (strOfNums r.client)).number = r.num) : askA m r = (getT m (strOfNums r.client)).ans ∧ askF m r = (getT m (strOfNums r.client)).finished ∧ askE m r = 0 ∧ askM m r = m := by
  unfold askA askF askE askM askHit askNew isT; rw [hr, hi, decide_eq_true h, decide_eq_false (p := (getT m (strOfNums r.client)).number < _) (by omega)]; simp
theorem ask_busy (hr : rightQ r = true) (hi : (al m (strOfNums r.client)).isSome = true) (h1 : ¬ r.num < (getT m (strOfNums r.client)).number) (h2 : ¬ (getT m (strOfNums r.client)).number = r.num) (hf : (getT m (strOfNums r.client)).finished = false) : askA m r = ans0 ∧ askF m r = false ∧ askE m r = 121 ∧ askM m r = m := by
  unfold askA askF askE askM askHit askNew isT; rw [hr, hi, hf, decide_eq_false h2]; simp [h1]
theorem ask_new (hr : rightQ r = true) (hi : (al m (strOfNums r.client)).isSome = false ∨ (al m (strOfNums r.client)).isSome = true ∧ ¬ r.num < (getT m (strOfNums r.client)).number ∧ ¬ (getT m (strOfNums r.client)).number = r.num ∧ (getT m (strOfNums r.client)).finished = true) : askA m r = ans0 ∧ askF m r = false ∧ askE m r = 0 ∧ askM m r = mput m (strOfNums r.client) ⟨r.num, false, ans0⟩ := by
  unfold askA askF askE askM askHit askNew isT
  rcases hi with hi | ⟨hi, h1, h2, h3⟩
  · rw [hr, hi]; simp
  · rw [hr, hi, h3, decide_eq_false h2, decide_eq_true (p := (getT m (strOfNums r.client)).number < _) (by omega)]; simp
theorem fin_no {k : ByteArray} {n : Int} {y : AnswerD} (h : (al m k).isSome = false ∨ ¬ (getT m k).number = n ∨ (getT m k).finished = true) : finE m k n = 121 ∧ finM m k n y = m := by
  have : finOk m k n = false := by
    unfold finOk isT
    rcases h with h | h | h
    · rw [h]; rfl
    · rw [decide_eq_false h]; simp
    · rw [h]; simp
  unfold finE finM; rw [this]; exact ⟨rfl, rfl⟩
theorem fin_yes {k : ByteArray} {n : Int} {y : AnswerD} (h : (al m k).isSome = true) (h1 : (getT m k).number = n) (h2 : (getT m k).finished = false) : finE m k n = 0 ∧ finM m k n y = mput m k ⟨n, true, y⟩ := by
  have : finOk m k n = true := by unfold finOk isT; rw [h, decide_eq_true h1, h2]; rfl
  unfold finE finM; rw [this]; exact ⟨rfl, rfl⟩
end
theorem ans_same {a b : AnswerD} : (a = b) = (a.outcome = b.outcome ∧ a.err = b.err ∧ a.results = b.results) := by
  cases a; cases b; simp
theorem ans_not {x y : AnswerD} (h : ¬ x.outcome = y.outcome ∨ ¬ x.err = y.err ∨ ¬ (x.results.length : Int) = y.results.length) : decide (x = y) = false :=
  decide_eq_false (fun e => by subst e; simp at h)
theorem ans_res {x y : AnswerD} (h : decide (x.results = y.results) = false) : decide (x = y) = false :=
  decide_eq_false (fun e => by subst e; simp at h)
end Go.Proofs.YtiiklnghnifmjaaDoor.Act
