/- Once: what the law over the table of clients rests on. -/
import Derived.Test.YtiiklnghnifmjaaDoorTabDZt
set_option linter.unusedVariables false
set_option linter.unusedSimpArgs false
namespace Go.Proofs.YtiiklnghnifmjaaDoor.Act
open Go.RowKit Go.Proofs.YtiiklnghnifmjaaDoor.Sx Go.Proofs.YtiiklnghnifmjaaDoor.Cod Go.Proofs.YtiiklnghnifmjaaDoor.Num
def oneC : List Int := [99, 108, 105, 101, 110, 116]
def reqC (r : SReqD) : SReqD := ⟨oneC, r.num, r.ops⟩
theorem oneC_byte : Byte oneC := by intro x hx; simp [oneC] at hx; omega
theorem reqC_B {r : SReqD} (h : SReqB r) : SReqB (reqC r) := ⟨oneC_byte, h.num, h.ops⟩
def onceI (m : TabM) (last : Int) (op : Bool) (t : AnswerD) : Prop := (m = [] ∧ last = 0 ∧ op = false) ∨ (1 ≤ last ∧ m = [(strOfNums oneC, ⟨last, !op, t⟩)])
theorem once_nil (t : AnswerD) : onceI [] 0 false t := .inl ⟨rfl, rfl, rfl⟩
theorem al_one (kx : ByteArray) (x : LastD) : al [(kx, x)] kx = some x := by simp [al]
theorem get_one' (kx : ByteArray) (x : LastD) : getT [(kx, x)] kx = x := by unfold getT; rw [al_one]; rfl
theorem put_one (kx : ByteArray) (x y : LastD) : mput [(kx, x)] kx y = [(kx, y)] := by simp [mput]
theorem once_e {m : TabM} {last : Int} {op : Bool} {t : AnswerD} {r : SReqD} (h : onceI m last op t) (hr : rightQ (reqC r) = true) :
    (last < r.num → op = decide (askE m (reqC r) = 121)) ∧ (r.num < last → askE m (reqC r) = 222) ∧ (r.num = last → askE m (reqC r) = 0 ∧ askF m (reqC r) = !op ∧ (op = false → askA m (reqC r) = t)) := by
  have hn := (rightQ_parts hr).2.2.1
  have hnn : (reqC r).num = r.num := rfl
  rw [hnn] at hn
  rcases h with ⟨rfl, rfl, rfl⟩ | ⟨hl, rfl⟩
  · obtain ⟨h1, h2, h3, _⟩ := ask_new (m := []) hr (.inl rfl)
    exact ⟨fun _ => by rw [h3]; rfl, fun h => by omega, fun h => by omega⟩
  · have hg : getT [(strOfNums oneC, (⟨last, !op, t⟩ : LastD))] (strOfNums (reqC r).client) = ⟨last, !op, t⟩ := get_one' _ _
    have hi : (al [(strOfNums oneC, (⟨last, !op, t⟩ : LastD))] (strOfNums (reqC r).client)).isSome = true := by
      show (al _ (strOfNums oneC)).isSome = true
      rw [al_one]; rfl
    refine ⟨fun h => ?_, fun h => ?_, fun h => ?_⟩
    · cases op with
      | true => obtain ⟨_, _, h3, _⟩ := ask_busy hr hi (by rw [hg, hnn]; show ¬ r.num < last; omega) (by rw [hg, hnn]; show ¬ last = r.num; omega) (by rw [hg]; rfl); rw [h3]; rfl
      | false => obtain ⟨_, _, h3, _⟩ := ask_new hr (.inr ⟨hi, by rw [hg, hnn]; show ¬ r.num < last; omega, by rw [hg, hnn]; show ¬ last = r.num; omega, by rw [hg]; rfl⟩); rw [h3]; rfl
    · exact (ask_late hr hi (by rw [hg, hnn]; exact h)).2.2.1
    · obtain ⟨h1, h2, h3, _⟩ := ask_hit hr hi (by rw [hg, hnn]; exact h.symm)
      exact ⟨h3, by rw [h2, hg], fun _ => by rw [h1, hg]⟩
theorem once_ask {m : TabM} {last : Int} {op : Bool} {t : AnswerD} {r : SReqD} (h : onceI m last op t) :
    (askE m (reqC r) = 0 ∧ last < r.num → onceI (askM m (reqC r)) r.num true ans0) ∧ (¬ (askE m (reqC r) = 0 ∧ last < r.num) → onceI (askM m (reqC r)) last op t) := by
  have hnn : (reqC r).num = r.num := rfl
  cases hr : rightQ (reqC r) with
  | false => obtain ⟨_, _, h3, h4⟩ := ask_wrong (m := m) hr; exact ⟨fun hh => (by rw [h3] at hh; exact absurd hh.1 (by decide)), fun _ => by rw [h4]; exact h⟩
  | true =>
    have hn := (rightQ_parts hr).2.2.1
    rw [hnn] at hn
    rcases h with ⟨rfl, rfl, rfl⟩ | ⟨hl, rfl⟩
    · obtain ⟨h1, h2, h3, h4⟩ := ask_new (m := []) hr (.inl rfl)
      exact ⟨fun _ => .inr ⟨by omega, by rw [h4]; rfl⟩, fun hh => (hh ⟨h3, by omega⟩).elim⟩
    · have hg : getT [(strOfNums oneC, (⟨last, !op, t⟩ : LastD))] (strOfNums (reqC r).client) = ⟨last, !op, t⟩ := get_one' _ _
      have hi : (al [(strOfNums oneC, (⟨last, !op, t⟩ : LastD))] (strOfNums (reqC r).client)).isSome = true := by
        show (al _ (strOfNums oneC)).isSome = true
        rw [al_one]; rfl
      have same : ∀ {m' : TabM}, m' = [(strOfNums oneC, (⟨last, !op, t⟩ : LastD))] → onceI m' last op t := fun e => .inr ⟨hl, e⟩
      rcases Int.lt_trichotomy r.num last with hc | hc | hc
      · obtain ⟨_, _, h3, h4⟩ := ask_late hr hi (by rw [hg, hnn]; exact hc)
        exact ⟨fun hh => by omega, fun _ => same h4⟩
      · obtain ⟨_, _, h3, h4⟩ := ask_hit hr hi (by rw [hg, hnn]; exact hc.symm)
        exact ⟨fun hh => by omega, fun _ => same h4⟩
      · cases op with
        | true =>
          obtain ⟨_, _, h3, h4⟩ := ask_busy hr hi (by rw [hg, hnn]; show ¬ r.num < last; omega) (by rw [hg, hnn]; show ¬ last = r.num; omega) (by rw [hg]; rfl)
          exact ⟨fun hh => (by rw [h3] at hh; exact absurd hh.1 (by decide)), fun _ => same h4⟩
        | false =>
          obtain ⟨_, _, h3, h4⟩ := ask_new hr (.inr ⟨hi, by rw [hg, hnn]; show ¬ r.num < last; omega, by rw [hg, hnn]; show ¬ last = r.num; omega, by rw [hg]; rfl⟩)
          exact ⟨fun _ => .inr ⟨by omega, by rw [h4]; exact put_one _ _ _⟩, fun hh => (hh ⟨h3, hc⟩).elim⟩
theorem once_fin {m : TabM} {last : Int} {op : Bool} {t : AnswerD} (y : AnswerD) (h : onceI m last op t) :
    decide (finE m (strOfNums oneC) last = 0) = (op && decide (0 < last)) ∧ (finE m (strOfNums oneC) last = 0 → onceI (finM m (strOfNums oneC) last y) last false y) ∧ (¬ finE m (strOfNums oneC) last = 0 → onceI (finM m (strOfNums oneC) last y) last op t) := by
  rcases h with ⟨rfl, rfl, rfl⟩ | ⟨hl, rfl⟩
  · obtain ⟨h1, h2⟩ := fin_no (m := []) (k := strOfNums oneC) (n := 0) (y := y) (.inl rfl)
    rw [h1, h2]; exact ⟨rfl, fun h => absurd h (by decide), fun _ => .inl ⟨rfl, rfl, rfl⟩⟩
  · have hi : (al [(strOfNums oneC, (⟨last, !op, t⟩ : LastD))] (strOfNums oneC)).isSome = true := by rw [al_one]; rfl
    cases op with
    | true =>
      obtain ⟨h1, h2⟩ := fin_yes (y := y) hi (n := last) (by rw [get_one']) (by rw [get_one']; rfl)
      rw [h1, h2]; exact ⟨by rw [decide_eq_true (show (0 : Int) < last by omega)]; rfl, fun _ => .inr ⟨hl, put_one _ _ _⟩, fun h => (h rfl).elim⟩
    | false =>
      obtain ⟨h1, h2⟩ := fin_no (m := [(strOfNums oneC, (⟨last, !false, t⟩ : LastD))]) (k := strOfNums oneC) (n := last) (y := y) (.inr (.inr (by rw [get_one']; rfl)))
      rw [h1, h2]; exact ⟨rfl, fun h => absurd h (by decide), fun _ => .inr ⟨hl, rfl⟩⟩
end Go.Proofs.YtiiklnghnifmjaaDoor.Act
