/- The bag: what lies in memory, and what its operations do. -/
import Derived.Test.YtiiklnghnifmjaaGreatDoorMdcDZb
import Derived.Test.YtiiklnghnifmjaaGreatDoorBunZb
import Derived.Test.YtiiklnghnifmjaaGreatDoorMapZb
import Derived.Test.YtiiklnghnifmjaaGreatDoorDelZb
set_option linter.unusedVariables false
set_option linter.unusedSimpArgs false
namespace Go.Proofs.YtiiklnghnifmjaaGreatDoor.Sx
open Go.RowKit
section
variable {B : Nat → Prop} {w0 w : World} {H : List (Nat × Asn)} {X X' : Asn}
/-- An element of a row: what is read for it is apart from the row's own block. -/
theorem Row.at_ {α : Type} {E : Rep α} {T : TypeId} {A : Option Addr} {c : Nat} {xs : List α} {ok : Nat → Prop} (h : Row E T w ok (.slice A xs.length c) xs) {i : Nat} {x : α} (hx : xs[i]? = some x) :
    ∃ g cs, A = some ⟨g, 0, none⟩ ∧ E.R w ok x cs ∧ ∀ j u, cs[j]? = some u → w.cell? ⟨g, i * E.n + j, none⟩ = some u := by
  obtain ⟨cs, ho, he⟩ := h
  have hi : i < xs.length := (List.getElem?_eq_some_iff.1 hx).1
  rcases ho.2 with ⟨_, h0⟩ | ⟨g, cap, cur, h3, _, hh, _, _, _, htk⟩
  · omega
  · injection h3 with h31 h32 h33
    subst h31 h33
    refine ⟨g, _, rfl, he.2 i x hx, fun j u hj => ?_⟩
    rw [cell_of_row w g _ cur T (0, 0) hh]
    rw [List.getElem?_take] at hj
    split at hj
    · rw [List.getElem?_drop, ← htk, List.getElem?_take] at hj
      split at hj
      · simpa using hj
      · cases hj
    · cases hj
end
section
variable {P : Program} {fn : Func} {a : Act} {w : World} {n : Nat} {L : List (Nat × Value)} {v u u2 : Value} {ds : List Deferred}
end
end Go.Proofs.YtiiklnghnifmjaaGreatDoor.Sx
namespace Go.Proofs.YtiiklnghnifmjaaGreatDoor.Act
open Go.RowKit Go.Proofs.YtiiklnghnifmjaaGreatDoor.Sx Go.Proofs.YtiiklnghnifmjaaGreatDoor.Cod Go.Proofs.YtiiklnghnifmjaaGreatDoor.Num
structure WayD where
  b : List Int
  epoch : Int
deriving DecidableEq
def WayD.tup (x : WayD) : (List Int) × Int := (x.b, x.epoch)
def WayE : Rep WayD := Rep.iso (Rep.pair (Rep.slice (Rep.int .u8)) (Rep.int .i64)) WayD.tup
theorem way_cells {w : World} {ok : Nat → Prop} {x : WayD} {cs : List Value} (h : WayE.R w ok x cs) : ∃ A0 c0, cs = [.slice A0 x.b.length c0, .int .i64 x.epoch] ∧ Rd (Rep.int .u8) w ok A0 x.b c0 := by
  obtain ⟨cc0, dd0, rfl, ⟨A0, c0, hc0, hr0⟩, hc1⟩ := h
  subst hc0
  have he1 : dd0 = [.int .i64 x.epoch] := hc1
  subst he1
  exact ⟨A0, c0, rfl, hr0⟩
def msg0 : MessageD := ⟨0, 0, 0, 0, [], []⟩
structure BagS where
  ways : List (MessageD × Int)
  eps : List Int
  lost : Int
def wy (l : List (MessageD × Int)) : List WayD := l.map fun p => ⟨encM p.1, p.2⟩
/-- A bag lies at bb. -/
def BagA (T TW : TypeId) (bb : Nat) (s : BagS) (X : Asn) : Prop :=
  ∃ (Aw : Option Addr) (cw : Nat) (okw : Nat → Prop), X = Asn.all [(1, .blk bb (.cells #[.slice Aw (wy s.ways).length cw, .int .i64 (gi s.eps 0), .int .i64 (gi s.eps 1), .int .i64 (gi s.eps 2), .int .i64 (gi s.eps 3), .int .i64 (gi s.eps 4), .int .i64 (gi s.eps 5), .int .i64 (gi s.eps 6), .int .i64 (gi s.eps 7), .int .i64 s.lost] T (0, 0))), (2, .row WayE TW (.slice Aw (wy s.ways).length cw) (wy s.ways) okw)]
def idW (s : BagS) (i : Int) : MessageD × Int := s.ways.getD i.toNat (msg0, 0)
def isW (s : BagS) (i : Int) : Bool := decide (0 ≤ i) && decide (i < (s.ways.length : Int))
/-- What a bag keeps to. -/
structure BagOk (s : BagS) : Prop where
  eps : s.eps.length = 8
  few : s.ways.length ≤ 500
  all : ∀ p ∈ s.ways, rightM p.1 = true ∧ MessageB p.1
theorem idW_mem {s : BagS} {i : Int} (h : isW s i = true) : idW s i ∈ s.ways ∧ s.ways[i.toNat]? = some (idW s i) := by
  unfold isW at h
  simp only [Bool.and_eq_true, decide_eq_true_eq] at h
  have hi : i.toNat < s.ways.length := by omega
  have e : s.ways[i.toNat]? = some (idW s i) := by unfold idW; simp [List.getD_eq_getElem?_getD, List.getElem?_eq_getElem hi]
  exact ⟨List.mem_of_getElem? e, e⟩
theorem eps_at {a0 e : Value} {l : List Int} {i : Int} (h0 : 0 ≤ i) (h1 : i < 8) : (#[a0, .int .i64 (gi l 0), .int .i64 (gi l 1), .int .i64 (gi l 2), .int .i64 (gi l 3), .int .i64 (gi l 4), .int .i64 (gi l 5), .int .i64 (gi l 6), .int .i64 (gi l 7), e] : Array Value)[1 + i.toNat * 1]? = some (.int .i64 (gi l i)) := by
  obtain ⟨n, rfl⟩ : ∃ n : Nat, i = (n : Int) := ⟨i.toNat, by omega⟩
  rw [Int.toNat_natCast, Nat.mul_one]
  rcases n with _ | _ | _ | _ | _ | _ | _ | _ | n
  all_goals first | rfl | omega
theorem wy_at {s : BagS} {i : Int} (h : isW s i = true) : (wy s.ways)[i.toNat]? = some ⟨encM (idW s i).1, (idW s i).2⟩ := by
  unfold wy; rw [List.getElem?_map, (idW_mem h).2]; rfl
section
variable {T TW : TypeId} {bb : Nat} {s : BagS} {X : Asn} {w : World}
theorem BagA.row (hX : BagA T TW bb s X) : ∃ (Aw : Option Addr) (cw : Nat), ∀ w, X.holds w → w.cell? ⟨bb, 0, none⟩ = some (.slice Aw (wy s.ways).length cw) ∧ Rd WayE w (fun k => X.own k ∨ X.rd k) Aw (wy s.ways) cw ∧
    (∀ n : Int, 0 ≤ n → n < 8 → w.cell? ⟨bb, 1 + n.toNat * 1, none⟩ = some (.int .i64 (gi s.eps n))) ∧
    ∀ i, isW s i = true → ∃ (fA : Option Addr) (fc : Nat) (okb : Nat → Prop), Rd (.int .u8) w okb fA (encM (idW s i).1) fc ∧ (∀ k, okb k → X.rd k) ∧ (∀ j u, (#[.slice fA (encM (idW s i).1).length fc, .int .i64 (idW s i).2] : Array Value).toList[j]? = some u → w.cell? ((adr Aw (i.toNat * 2)).add j) = some u) ∧ w.cell? (adr Aw (i.toNat * 2 + 1)) = some (.int .i64 (idW s i).2) := by
  obtain ⟨Aw, cw, okw, rfl⟩ := hX
  refine ⟨Aw, cw, fun w h => ⟨?_, ?_, fun n h0 h1 => ?_, fun i hi => ?_⟩⟩
  · exact blk_cell (h.holds 1 _ rfl) 0 rfl
  · exact Row.rd (h.holds 2 _ rfl) (fun k hk _ => .inr ⟨2, _, rfl, hk⟩) (fun k hk => .inl ⟨2, _, rfl, hk⟩)
  · exact blk_cell (h.holds 1 _ rfl) _ (eps_at h0 h1)
  · obtain ⟨g, cs, rfl, hR, hc⟩ := Row.at_ (h.holds 2 _ rfl) (wy_at hi)
    obtain ⟨A0, c0, rfl, hr⟩ := way_cells hR
    have e : ∀ q, adr (some (⟨g, 0, none⟩ : Addr)) q = ⟨g, q, none⟩ := fun q => by simp only [adr, Option.getD_some]; rw [add_off, Nat.zero_add]
    refine ⟨A0, c0, okw, hr, fun k hk => ⟨2, _, rfl, hk⟩, fun j u hj => ?_, ?_⟩
    · rw [e, add_off]; exact hc j u hj
    · rw [e]; exact hc 1 _ rfl
end
/-! ### The live question -/
/-! ### A full bag -/
end Go.Proofs.YtiiklnghnifmjaaGreatDoor.Act
