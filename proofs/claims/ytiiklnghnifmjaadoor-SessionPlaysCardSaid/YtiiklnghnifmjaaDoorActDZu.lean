/- Actions: what their bytes are, plain. -/
import Derived.Test.YtiiklnghnifmjaaDoorCodHZu
import Derived.Test.YtiiklnghnifmjaaDoorSnZu
import Derived.Test.YtiiklnghnifmjaaDoorNumDZu
import Derived.Lib.ItoaLen
set_option linter.unusedVariables false
set_option linter.unusedSimpArgs false
namespace Go.Proofs.YtiiklnghnifmjaaDoor.Act
open Go.RowKit Go.Proofs.YtiiklnghnifmjaaDoor.Sx Go.Proofs.YtiiklnghnifmjaaDoor.Cod Go.Proofs.YtiiklnghnifmjaaDoor.Num
/-! ### texts as bytes -/
def toI (l : List UInt8) : List Int := l.map fun c => (c.toNat : Int)
def ofI (xs : List Int) : List UInt8 := xs.map fun n => UInt8.ofNat n.toNat
theorem toI_byte (l : List UInt8) : Byte (toI l) := fun n hn => by
  obtain ⟨c, _, rfl⟩ := List.mem_map.1 hn
  have := c.toNat_lt
  omega
theorem ofI_toI (l : List UInt8) : ofI (toI l) = l := by
  unfold ofI toI
  rw [List.map_map]
  have e : ((fun n : Int => UInt8.ofNat n.toNat) ∘ fun b : UInt8 => (b.toNat : Int)) = id := by funext b; simp
  rw [e, List.map_id]
theorem sn_toI (l : List UInt8) : strOfNums (toI l) = ⟨l.toArray⟩ := by
  apply ByteArray.ext
  apply Array.ext'
  have := ofI_toI l
  unfold ofI at this
  simp only [strOfNums]
  exact this
def itoaI (n : Int) : List Int := toI (Lib.itoa n)
theorem itoaI_byte (n : Int) : Byte (itoaI n) := toI_byte _
def numI (xs : List Int) : Option Int := numT (ofI xs)
/-! ### steps -/
abbrev StepD := Int × List Int × List Int × Int
abbrev StE : Rep StepD := Rep.pair (Rep.int .i64) (Rep.pair Rep.sn (Rep.pair Rep.sn (Rep.int .i64)))
def gst (xs : List StepD) (i : Int) : StepD := xs.getD i.toNat (0, [], [], 0)
theorem gst_some {xs : List StepD} {i : Int} (h0 : 0 ≤ i) (h1 : i < xs.length) : xs[i.toNat]? = some (gst xs i) := by
  have hi : i.toNat < xs.length := by omega
  simp [gst, List.getD_eq_getElem?_getD, List.getElem?_eq_getElem hi]
theorem gst_mem {xs : List StepD} {j : Nat} (h : j < xs.length) : gst xs (j : Int) ∈ xs := List.mem_of_getElem? (gst_some (xs := xs) (i := (j : Int)) (by omega) (by omega))
/-- What a step is that is handed in. -/
def StepB (s : StepD) : Prop := Byte s.2.1 ∧ Byte s.2.2.1 ∧ Fits s.2.2.2
theorem st_cells {w : World} {ok : Nat → Prop} {x : StepD} {cs : List Value} (h : StE.R w ok x cs) : cs = [.int .i64 x.1, .string (strOfNums x.2.1), .string (strOfNums x.2.2.1), .int .i64 x.2.2.2] := by
  obtain ⟨c1, d1, rfl, h1, c2, d2, rfl, h2, c3, d3, rfl, h3, h4⟩ := h
  have h1' : c1 = [_] := h1
  have h2' : c2 = [_] := h2
  have h3' : c3 = [_] := h3
  have h4' : d3 = [_] := h4
  subst h1' h2' h3' h4'
  rfl
theorem st_mk {w : World} {ok : Nat → Prop} (x : StepD) : StE.R w ok x [.int .i64 x.1, .string (strOfNums x.2.1), .string (strOfNums x.2.2.1), .int .i64 x.2.2.2] :=
  ⟨[.int .i64 x.1], _, rfl, rfl, [.string (strOfNums x.2.1)], _, rfl, rfl, [.string (strOfNums x.2.2.1)], _, rfl, rfl, rfl⟩
theorem rd_st {w : World} {ok : Nat → Prop} {A : Option Addr} {xs : List StepD} {c : Nat} (hr : Rd StE w ok A xs c) {i : Nat} {f : StepD} (hx : xs[i]? = some f) : w.cell? (adr A (i * 4)) = some (.int .i64 f.1) ∧ w.cell? (adr A (i * 4 + 1)) = some (.string (strOfNums f.2.1)) ∧ w.cell? (adr A (i * 4 + 2)) = some (.string (strOfNums f.2.2.1)) ∧ w.cell? (adr A (i * 4 + 3)) = some (.int .i64 f.2.2.2) ∧
    (∀ j u, (#[.int .i64 f.1, .string (strOfNums f.2.1), .string (strOfNums f.2.2.1), .int .i64 f.2.2.2] : Array Value).toList[j]? = some u → w.cell? ((adr A (i * 4)).add j) = some u) := by
  obtain ⟨cs, hR, hc⟩ := hr.cellsA (n := 4) rfl hx
  have := st_cells hR
  subst this
  obtain ⟨b, off, rfl⟩ := hr.some_ (by have := (List.getElem?_eq_some_iff.1 hx).1; omega)
  have e : ∀ q, adr (some (⟨b, off, Option.none⟩ : Addr)) q = ⟨b, off + q, Option.none⟩ := fun q => by simp only [adr, Option.getD_some]; exact add_off _ _ _
  have g : ∀ j u, [Value.int .i64 f.1, .string (strOfNums f.2.1), .string (strOfNums f.2.2.1), .int .i64 f.2.2.2][j]? = some u → w.cell? (adr (some (⟨b, off, Option.none⟩ : Addr)) (i * 4 + j)) = some u := fun j u hj => by
    have := hc j u hj
    rw [e, add_off] at this
    rw [e, ← Nat.add_assoc]; exact this
  exact ⟨g 0 _ rfl, g 1 _ rfl, g 2 _ rfl, g 3 _ rfl, fun j u hj => hc j u hj⟩
/-! ### right steps -/
def nameI (xs : List Int) : Bool := decide (1 ≤ xs.length) && decide (xs.length ≤ 16)
def rightS (s : StepD) : Bool :=
  if s.1 = 1 then nameI s.2.1 && decide (s.2.2.1.length ≤ 60) && decide (s.2.2.2 = 0)
  else if s.1 = 2 ∨ s.1 = 4 then nameI s.2.1 && decide (s.2.2.1.length = 0) && decide (s.2.2.2 = 0)
  else if s.1 = 3 then nameI s.2.1 && decide (s.2.2.1.length = 0) else false
def restS (s : StepD) : List Int := if s.1 = 3 then itoaI s.2.2.2 else s.2.2.1
def fldS (s : StepD) : Fld := (s.1, [(s.2.1.length : Int)] ++ (s.2.1 ++ restS s))
def encE (l : List StepD) : Int := if 4 < l.length then 93 else if l.all rightS then 0 else 91
def encT (l : List StepD) : List Int := if encE l = 0 then encI (l.map fldS) else []
theorem right_parts {s : StepD} (h : rightS s = true) : (s.1 = 1 ∨ s.1 = 2 ∨ s.1 = 3 ∨ s.1 = 4) ∧ 1 ≤ s.2.1.length ∧ s.2.1.length ≤ 16 ∧ s.2.2.1.length ≤ 60 ∧ (s.1 ≠ 3 → s.2.2.2 = 0) ∧ (s.1 ≠ 1 → s.2.2.1 = []) := by
  unfold rightS nameI at h
  split at h
  · simp at h; refine ⟨by omega, by omega, by omega, by omega, fun _ => h.2, fun e => absurd (by assumption) e⟩
  · split at h
    · simp at h; refine ⟨by omega, by omega, by omega, by rw [h.1.2]; simp, fun _ => h.2, fun _ => h.1.2⟩
    · split at h
      · simp at h; refine ⟨by omega, by omega, by omega, by rw [h.2]; simp, fun e => absurd (by assumption) e, fun _ => h.2⟩
      · cases h
theorem itoaI_len {n : Int} (h : Fits n) : (itoaI n).length ≤ 21 := by
  unfold itoaI toI Fits at *; rw [List.length_map]; exact Lib.itoa_length_le n h.1 (by omega)
theorem fld_ok {s : StepD} (h : rightS s = true) (hb : StepB s) : okF (fldS s) = true := by
  obtain ⟨h1, h2, h3, h4, h5, h6⟩ := right_parts h
  have := itoaI_len hb.2.2
  have hr : (restS s).length ≤ 60 := by unfold restS; split <;> omega
  unfold okF fldS
  simp only [List.length_append, List.length_cons, List.length_nil]
  rw [decide_eq_true (by omega), decide_eq_true (by omega), decide_eq_true (by omega)]; rfl
theorem enc0 {l : List StepD} (h : encE l = 0) : l.length ≤ 4 ∧ l.all rightS = true := by
  unfold encE at h
  split at h
  · cases h
  · split at h
    · exact ⟨by omega, by assumption⟩
    · cases h
theorem map_ok {l : List StepD} (h : l.all rightS = true) (hb : ∀ s ∈ l, StepB s) : (l.map fldS).all okF = true := by
  rw [List.all_map, List.all_eq_true]
  intro s hs
  exact fld_ok (List.all_eq_true.1 h s hs) (hb s hs)
/-! ### a field's step -/
def stepF (f : Fld) : Option StepD :=
  if f.2.length = 0 ∨ (f.2.length : Int) ≤ gi f.2 0 then none
  else
    let key := (f.2.take (1 + gi f.2 0).toNat).drop 1
    let rest := f.2.drop (1 + gi f.2 0).toNat
    if f.1 = 3 then (match numI rest with | some n => if rightS (3, key, [], n) then some (3, key, [], n) else none | none => none)
    else if rightS (f.1, key, rest, 0) then some (f.1, key, rest, 0) else none
end Go.Proofs.YtiiklnghnifmjaaDoor.Act
