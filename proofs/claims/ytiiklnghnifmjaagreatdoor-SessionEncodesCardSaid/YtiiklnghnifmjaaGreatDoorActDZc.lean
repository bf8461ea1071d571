/- Actions: what their bytes are, plain. -/
import Derived.Test.YtiiklnghnifmjaaGreatDoorCodHZc
import Derived.Test.YtiiklnghnifmjaaGreatDoorSnZc
import Derived.Test.YtiiklnghnifmjaaGreatDoorNumDZc
import Derived.Lib.ItoaLen
set_option linter.unusedVariables false
set_option linter.unusedSimpArgs false
namespace Go.Proofs.YtiiklnghnifmjaaGreatDoor.Act
open Go.RowKit Go.Proofs.YtiiklnghnifmjaaGreatDoor.Sx Go.Proofs.YtiiklnghnifmjaaGreatDoor.Cod Go.Proofs.YtiiklnghnifmjaaGreatDoor.Num
/-! ### texts as bytes -/
def toI (l : List UInt8) : List Int := l.map fun c => (c.toNat : Int)
def ofI (xs : List Int) : List UInt8 := xs.map fun n => UInt8.ofNat n.toNat
theorem toI_byte (l : List UInt8) : Byte (toI l) := fun n hn => by
  obtain ⟨c, _, rfl⟩ := List.mem_map.1 hn
  have := c.toNat_lt
  omega
theorem ofI_toI (l : List UInt8) : ofI (toI l) = l := by
  unfold ofI toI
  rw [List.map_map]
  have e : ((fun n : Int => UInt8.ofNat n.toNat) ∘ fun b : UInt8 => (b.toNat : Int)) = id := by funext b; simp
  rw [e, List.map_id]
theorem toI_ofI {xs : List Int} (h : Byte xs) : toI (ofI xs) = xs := by
  unfold ofI toI
  rw [List.map_map]
  conv => rhs; rw [← List.map_id xs]
  refine List.map_congr_left fun n hn => ?_
  have := h n hn
  simp only [Function.comp, id]
  rw [UInt8.toNat_ofNat']; omega
theorem sn_toI (l : List UInt8) : strOfNums (toI l) = ⟨l.toArray⟩ := by
  apply ByteArray.ext
  apply Array.ext'
  have := ofI_toI l
  unfold ofI at this
  simp only [strOfNums]
  exact this
def itoaI (n : Int) : List Int := toI (Lib.itoa n)
theorem itoaI_byte (n : Int) : Byte (itoaI n) := toI_byte _
def numI (xs : List Int) : Option Int := numT (ofI xs)
theorem numI_itoa {n : Int} (h : Fits n) : numI (itoaI n) = some n := by unfold numI itoaI; rw [ofI_toI, numT_itoa h]
theorem numI_some {xs : List Int} (hb : Byte xs) {v : Int} (h : numI xs = some v) : xs = itoaI v ∧ Fits v := by
  obtain ⟨h1, h2⟩ := numT_some h
  refine ⟨?_, h2⟩
  unfold itoaI
  rw [← h1, toI_ofI hb]
/-! ### steps -/
abbrev StepD := Int × List Int × List Int × Int
abbrev StE : Rep StepD := Rep.pair (Rep.int .i64) (Rep.pair Rep.sn (Rep.pair Rep.sn (Rep.int .i64)))
def gst (xs : List StepD) (i : Int) : StepD := xs.getD i.toNat (0, [], [], 0)
theorem gst_some {xs : List StepD} {i : Int} (h0 : 0 ≤ i) (h1 : i < xs.length) : xs[i.toNat]? = some (gst xs i) := by
  have hi : i.toNat < xs.length := by omega
  simp [gst, List.getD_eq_getElem?_getD, List.getElem?_eq_getElem hi]
theorem gst_mem {xs : List StepD} {j : Nat} (h : j < xs.length) : gst xs (j : Int) ∈ xs := List.mem_of_getElem? (gst_some (xs := xs) (i := (j : Int)) (by omega) (by omega))
/-- What a step is that is handed in. -/
def StepB (s : StepD) : Prop := Byte s.2.1 ∧ Byte s.2.2.1 ∧ Fits s.2.2.2
theorem st_cells {w : World} {ok : Nat → Prop} {x : StepD} {cs : List Value} (h : StE.R w ok x cs) : cs = [.int .i64 x.1, .string (strOfNums x.2.1), .string (strOfNums x.2.2.1), .int .i64 x.2.2.2] := by
  obtain ⟨c1, d1, rfl, h1, c2, d2, rfl, h2, c3, d3, rfl, h3, h4⟩ := h
  have h1' : c1 = [_] := h1
  have h2' : c2 = [_] := h2
  have h3' : c3 = [_] := h3
  have h4' : d3 = [_] := h4
  subst h1' h2' h3' h4'
  rfl
theorem st_mk {w : World} {ok : Nat → Prop} (x : StepD) : StE.R w ok x [.int .i64 x.1, .string (strOfNums x.2.1), .string (strOfNums x.2.2.1), .int .i64 x.2.2.2] :=
  ⟨[.int .i64 x.1], _, rfl, rfl, [.string (strOfNums x.2.1)], _, rfl, rfl, [.string (strOfNums x.2.2.1)], _, rfl, rfl, rfl⟩
theorem rd_st {w : World} {ok : Nat → Prop} {A : Option Addr} {xs : List StepD} {c : Nat} (hr : Rd StE w ok A xs c) {i : Nat} {f : StepD} (hx : xs[i]? = some f) : w.cell? (adr A (i * 4)) = some (.int .i64 f.1) ∧ w.cell? (adr A (i * 4 + 1)) = some (.string (strOfNums f.2.1)) ∧ w.cell? (adr A (i * 4 + 2)) = some (.string (strOfNums f.2.2.1)) ∧ w.cell? (adr A (i * 4 + 3)) = some (.int .i64 f.2.2.2) ∧
    (∀ j u, (#[.int .i64 f.1, .string (strOfNums f.2.1), .string (strOfNums f.2.2.1), .int .i64 f.2.2.2] : Array Value).toList[j]? = some u → w.cell? ((adr A (i * 4)).add j) = some u) := by
  obtain ⟨cs, hR, hc⟩ := hr.cellsA (n := 4) rfl hx
  have := st_cells hR
  subst this
  obtain ⟨b, off, rfl⟩ := hr.some_ (by have := (List.getElem?_eq_some_iff.1 hx).1; omega)
  have e : ∀ q, adr (some (⟨b, off, Option.none⟩ : Addr)) q = ⟨b, off + q, Option.none⟩ := fun q => by simp only [adr, Option.getD_some]; exact add_off _ _ _
  have g : ∀ j u, [Value.int .i64 f.1, .string (strOfNums f.2.1), .string (strOfNums f.2.2.1), .int .i64 f.2.2.2][j]? = some u → w.cell? (adr (some (⟨b, off, Option.none⟩ : Addr)) (i * 4 + j)) = some u := fun j u hj => by
    have := hc j u hj
    rw [e, add_off] at this
    rw [e, ← Nat.add_assoc]; exact this
  exact ⟨g 0 _ rfl, g 1 _ rfl, g 2 _ rfl, g 3 _ rfl, fun j u hj => hc j u hj⟩
/-! ### right steps -/
def nameI (xs : List Int) : Bool := decide (1 ≤ xs.length) && decide (xs.length ≤ 16)
def rightS (s : StepD) : Bool :=
  if s.1 = 1 then nameI s.2.1 && decide (s.2.2.1.length ≤ 60) && decide (s.2.2.2 = 0)
  else if s.1 = 2 ∨ s.1 = 4 then nameI s.2.1 && decide (s.2.2.1.length = 0) && decide (s.2.2.2 = 0)
  else if s.1 = 3 then nameI s.2.1 && decide (s.2.2.1.length = 0) else false
def restS (s : StepD) : List Int := if s.1 = 3 then itoaI s.2.2.2 else s.2.2.1
def fldS (s : StepD) : Fld := (s.1, [(s.2.1.length : Int)] ++ (s.2.1 ++ restS s))
def encE (l : List StepD) : Int := if 4 < l.length then 93 else if l.all rightS then 0 else 91
def encT (l : List StepD) : List Int := if encE l = 0 then encI (l.map fldS) else []
theorem right_parts {s : StepD} (h : rightS s = true) : (s.1 = 1 ∨ s.1 = 2 ∨ s.1 = 3 ∨ s.1 = 4) ∧ 1 ≤ s.2.1.length ∧ s.2.1.length ≤ 16 ∧ s.2.2.1.length ≤ 60 ∧ (s.1 ≠ 3 → s.2.2.2 = 0) ∧ (s.1 ≠ 1 → s.2.2.1 = []) := by
  unfold rightS nameI at h
  split at h
  · simp at h; refine ⟨by omega, by omega, by omega, by omega, fun _ => h.2, fun e => absurd (by assumption) e⟩
  · split at h
    · simp at h; refine ⟨by omega, by omega, by omega, by rw [h.1.2]; simp, fun _ => h.2, fun _ => h.1.2⟩
    · split at h
      · simp at h; refine ⟨by omega, by omega, by omega, by rw [h.2]; simp, fun e => absurd (by assumption) e, fun _ => h.2⟩
      · cases h
theorem itoaI_len {n : Int} (h : Fits n) : (itoaI n).length ≤ 21 := by
  unfold itoaI toI Fits at *; rw [List.length_map]; exact Lib.itoa_length_le n h.1 (by omega)
theorem fld_ok {s : StepD} (h : rightS s = true) (hb : StepB s) : okF (fldS s) = true := by
  obtain ⟨h1, h2, h3, h4, h5, h6⟩ := right_parts h
  have := itoaI_len hb.2.2
  have hr : (restS s).length ≤ 60 := by unfold restS; split <;> omega
  unfold okF fldS
  simp only [List.length_append, List.length_cons, List.length_nil]
  rw [decide_eq_true (by omega), decide_eq_true (by omega), decide_eq_true (by omega)]; rfl
theorem fld_byte {s : StepD} (h : rightS s = true) (hb : StepB s) : Byte (fldS s).2 := by
  obtain ⟨h1, h2, h3, h4, h5, h6⟩ := right_parts h
  unfold fldS
  refine Byte.app (fun n hn => ?_) (hb.1.app ?_)
  · rw [List.mem_singleton] at hn; subst hn; omega
  · unfold restS; split
    · exact itoaI_byte _
    · exact hb.2.1
theorem enc0 {l : List StepD} (h : encE l = 0) : l.length ≤ 4 ∧ l.all rightS = true := by
  unfold encE at h
  split at h
  · cases h
  · split at h
    · exact ⟨by omega, by assumption⟩
    · cases h
theorem map_ok {l : List StepD} (h : l.all rightS = true) (hb : ∀ s ∈ l, StepB s) : (l.map fldS).all okF = true := by
  rw [List.all_map, List.all_eq_true]
  intro s hs
  exact fld_ok (List.all_eq_true.1 h s hs) (hb s hs)
/-! ### a field's step -/
def stepF (f : Fld) : Option StepD :=
  if f.2.length = 0 ∨ (f.2.length : Int) ≤ gi f.2 0 then none
  else
    let key := (f.2.take (1 + gi f.2 0).toNat).drop 1
    let rest := f.2.drop (1 + gi f.2 0).toNat
    if f.1 = 3 then (match numI rest with | some n => if rightS (3, key, [], n) then some (3, key, [], n) else none | none => none)
    else if rightS (f.1, key, rest, 0) then some (f.1, key, rest, 0) else none
theorem step_fld {s : StepD} (h : rightS s = true) (hb : StepB s) : stepF (fldS s) = some s := by
  obtain ⟨h1, h2, h3, h4, h5, h6⟩ := right_parts h
  obtain ⟨k, key, val, n⟩ := s
  dsimp only at *
  have hg : gi (fldS (k, key, val, n)).2 0 = (key.length : Int) := rfl
  have hl : (fldS (k, key, val, n)).2.length = 1 + (key.length + (restS (k, key, val, n)).length) := by unfold fldS; simp only [List.length_append, List.length_cons, List.length_nil] <;> omega
  unfold stepF
  rw [hg, hl, if_neg (by omega)]
  dsimp only
  have e1 : ((fldS (k, key, val, n)).2.take (1 + (key.length : Int)).toNat).drop 1 = key := by
    unfold fldS
    rw [show (1 + (key.length : Int)).toNat = key.length + 1 by omega]
    simp
  have e2 : (fldS (k, key, val, n)).2.drop (1 + (key.length : Int)).toNat = restS (k, key, val, n) := by
    unfold fldS
    rw [show (1 + (key.length : Int)).toNat = key.length + 1 by omega]
    simp
  rw [e1, e2]
  have e3 : (fldS (k, key, val, n)).1 = k := rfl
  rw [e3]
  by_cases h7 : k = 3
  · subst h7
    have e4 : restS (3, key, val, n) = itoaI n := by unfold restS; rw [if_pos rfl]
    have e5 := h6 (by omega)
    subst e5
    rw [if_pos rfl, e4, numI_itoa hb.2.2]
    dsimp only
    rw [if_pos h]
  · have e4 : restS (k, key, val, n) = val := by unfold restS; rw [if_neg h7]
    have e5 := h5 h7
    subst e5
    rw [if_neg h7, e4, if_pos h]
theorem fld_step {f : Fld} {s : StepD} (hb : Byte f.2) (h : stepF f = some s) : fldS s = f ∧ rightS s = true ∧ StepB s := by
  unfold stepF at h
  split at h
  · cases h
  · rename_i h0
    have h00 : ¬ f.2.length = 0 := fun e => h0 (.inl e)
    have h01 : gi f.2 0 < (f.2.length : Int) := by
      have : ¬ (f.2.length : Int) ≤ gi f.2 0 := fun e => h0 (.inr e)
      omega
    have hg := hb.gi 0
    obtain ⟨g, hgn⟩ := Int.eq_ofNat_of_zero_le hg.1
    dsimp only at h
    rw [hgn] at h
    rw [show (1 + (g : Int)).toNat = g + 1 by omega] at h
    obtain ⟨tag, data⟩ := f
    dsimp only at *
    obtain ⟨d0, r, rfl⟩ : ∃ d0 r, data = d0 :: r := by
      cases data with
      | nil => exact absurd rfl h00
      | cons d0 r => exact ⟨d0, r, rfl⟩
    have e0 : d0 = (g : Int) := hgn
    subst e0
    have hgr : g ≤ r.length := by simp only [List.length_cons] at h01; omega
    simp only [List.take_succ_cons, List.drop_succ_cons, List.drop_zero] at h
    have hbr : Byte r := fun n hn => hb n (List.mem_cons_of_mem _ hn)
    have hkl : (r.take g).length = g := by rw [List.length_take]; omega
    split at h
    · rename_i h3
      subst h3
      cases hn : numI (r.drop g) with
      | none => rw [hn] at h; cases h
      | some n =>
        rw [hn] at h
        dsimp only at h
        split at h
        · rename_i hr
          cases h
          obtain ⟨h8, h9⟩ := numI_some (hbr.drop g) hn
          refine ⟨?_, hr, hbr.take g, Byte.nil, h9⟩
          unfold fldS restS
          dsimp only
          rw [if_pos rfl, ← h8, hkl, List.take_append_drop]
          rfl
        · cases h
    · rename_i h3
      split at h
      · rename_i hr
        cases h
        refine ⟨?_, hr, hbr.take g, hbr.drop g, show Fits 0 by decide⟩
        unfold fldS restS
        dsimp only
        rw [if_neg h3, hkl, List.take_append_drop]
        rfl
      · cases h
end Go.Proofs.YtiiklnghnifmjaaGreatDoor.Act
