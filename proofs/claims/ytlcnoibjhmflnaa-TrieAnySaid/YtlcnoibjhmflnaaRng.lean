/- The round of a range over a function: what the walks' words need there. -/
import Derived.Test.YtlcnoibjhmflnaaFld
import Derived.CallsIn
import Derived.RangeFuncIn
import Derived.RangeFuncRecord
import Derived.OrdersIn
set_option linter.unusedVariables false
set_option linter.unusedSimpArgs false
namespace Go.Proofs.Ytlcnoibjhmflnaa.Sx
open Go.RowKit
abbrev RF (r : Option Nat) : Fence := { Fence.wide with round := r }
theorem calls_in {r : Option Nat} {n : Nat} {P : Program} {f : FuncId} {args : Array Value} {w : World} {R : Ending → World → Prop} (h : Calls P f args w R) : CallsIn (RF r) n P f args w R :=
  (callsIn_wide (n := n)).2 h
theorem rows_in {r : Option Nat} {n : Nat} {P : Program} {row : String} {args : Array Value} {w : World} {R : Value → World → Prop} (h : Rows P row args w R) : RowsIn (RF r) n P row args w R := by
  intro c cs hc
  obtain ⟨v, w', h1, h2⟩ := h c cs
  exact ⟨v, w', h1, stepsIn_wide.2 h2⟩
theorem oper_in {r : Option Nat} {n : Nat} {P : Program} {o : Oper} {a : Act} {w : World} {K : Act → World → Prop} {Q : Exit → Act → World → Prop} (hd : ∀ c, o.op ≠ .defer c) (h : o.wp P a w K Q) : o.wpIn (RF r) n P a w K Q := by
  refine ⟨fun _ _ => trivial, ?_⟩
  rw [Oper.semAt_eq (RF r).round a.eval o hd]
  unfold Oper.wp at h
  generalize hres : (execOp a.eval o).run P w = res at h
  cases res with
  | ok nx w' =>
    cases nx with
    | value v => exact h
    | skip => exact h
    | defer d => exact h
    | enter f args => exact ⟨fun hd => (by cases hd), calls_in h⟩
    | row row args => exact ⟨fun hd => (by cases hd), rows_in h⟩
    | _ => exact False.elim h
  | halt s w' => cases s <;> first | exact h | exact False.elim h
def noDefer (o : Oper) : Bool := match o.op with | .defer _ => false | _ => true
theorem noDefer_ne {o : Oper} (h : noDefer o = true) : ∀ c, o.op ≠ .defer c := by
  intro c hc
  unfold noDefer at h
  rw [hc] at h
  cases h
theorem list_in {r : Option Nat} {n : Nat} {P : Program} {ops : Array Oper} {Q : Exit → Act → World → Prop} (hno : ¬ LetsOut Q) : ∀ (l : List Oper), (l.all noDefer) = true → ∀ (a : Act) (w : World), wpList P ops Q l a w → wpListIn (RF r) n P ops Q l a w
  | [], _, _, _, h => h
  | o :: rest, hd, a, w, h => by
    simp only [List.all_cons, Bool.and_eq_true] at hd
    refine wpListIn_step fun K hK => ?_
    unfold wpList at h
    split at h
    · rename_i hw
      rw [if_pos hw]
      rcases h with h | h
      · exact oper_in (noDefer_ne hd.1) (Oper.wp_mono (fun a w h => hK a w (list_in hno rest hd.2 a w h)) h)
      · exact absurd h.2 hno
    · rename_i hw
      rw [if_neg hw]
      exact ⟨fun _ _ => trivial, hK _ _ (list_in hno rest hd.2 _ _ h)⟩
theorem opi_in {r : Option Nat} {n : Nat} {P : Program} {ops : Array Oper} {Q : Exit → Act → World → Prop} (hno : ¬ LetsOut Q) (hd : ops.toList.all noDefer = true) {i : Nat} {K : Act → World → Prop} {a : Act} {w : World} (h : wpOp P ops Q i K a w) : wpOpIn (RF r) n P ops Q i K a w := by
  unfold wpOp at h
  unfold wpOpIn
  split at h
  · rename_i ho
    simp only [ho]
    exact h
  · rename_i o ho
    simp only [ho]
    have hm : o ∈ ops.toList := by
      have := Array.mem_of_getElem? ho
      simpa using this
    split at h
    · rename_i hw
      rw [if_pos hw]
      rcases h with h | h
      · exact oper_in (noDefer_ne (List.all_eq_true.1 hd o hm)) h
      · exact absurd h.2 hno
    · rename_i hw
      rw [if_neg hw]
      exact ⟨fun _ _ => trivial, h⟩
theorem any_in {r : Option Nat} {n : Nat} {P : Program} {md : Region.Mode} {ops : Array Oper} {Q : Exit → Act → World → Prop} (hno : ¬ LetsOut Q) (hd : ops.toList.all noDefer = true) : ∀ (fuel : Nat) (listed : Array Bool) (a : Act) (w : World), wpAny P md ops Q fuel listed a w → wpAnyIn (RF r) n P md ops Q fuel listed a w
  | 0, _, _, _, h => h
  | fuel + 1, _, _, _, h => ⟨h.1, fun i hi => wpOpIn_mono (fun a w h => any_in hno hd fuel _ a w h) (opi_in hno hd (h.2 i hi))⟩
/-- A region of the text's order, in a round. -/
theorem region_in {r : Option Nat} {n : Nat} {P : Program} {id : Nat} {l : List Oper} {Q : Exit → Act → World → Prop} {a : Act} {w : World} (hno : ¬ LetsOut Q) (hd : l.all noDefer = true) (h : wpList P l.toArray Q l a w) : (Code.region id l.toArray false).wpIn (RF r) n P Q a w :=
  wpIn_region_lit (list_in hno l hd a w h)
/-- A region in any order, in a round. -/
theorem regiona_in {r : Option Nat} {n : Nat} {P : Program} {id : Nat} {ops : Array Oper} {Q : Exit → Act → World → Prop} {a : Act} {w : World} {B : Nat → Prop} {w0 : World} {H : List (Nat × Asn)} (hno : ¬ LetsOut Q) (hd : ops.toList.all noDefer = true) (HS : List (Nat × Asn)) (hm : P.follows .mixedOrders = true) (hH : Hp B w0 w H) (h : Hp B w0 w.drew H → wpAnyH P .any ops Q (SL HS) ops.size (Array.replicate ops.size false) a w.drew) : (Code.region id ops true).wpIn (RF r) n P Q a w :=
  wpIn_region_any hm (any_in hno hd _ _ _ _ (wpAny_of_held _ _ _ _ (h hH.drew)))
theorem x_mkfunc {P : Program} {a : Act} {w : World} {dst : Option Tmp} {ty : TypeId} {pos : String} {af : Array Edge} {gg : Option (Nat × Bool)} {fn : Fn} {cap : Array Operand} {vs : Array Value} (hc : cap.map a.eval = vs) : At P ⟨dst, .makeFunc fn #[] cap, ty, pos, af, gg⟩ a w (.func fn #[] vs) := by
  subst hc
  unfold At
  simp [execOp, Instr.makeFunc, go_sem]
end Go.Proofs.Ytlcnoibjhmflnaa.Sx
