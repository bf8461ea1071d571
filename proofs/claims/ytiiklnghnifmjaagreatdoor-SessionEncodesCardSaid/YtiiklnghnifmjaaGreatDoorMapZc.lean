/- Maps: entries in the heap as a list of keys and data. -/
import Derived.Test.YtiiklnghnifmjaaGreatDoorFldZc
import Derived.Laws.NewFold
import Derived.Maps.RangeRun
set_option linter.unusedVariables false
set_option linter.unusedSimpArgs false
namespace Go.Proofs.YtiiklnghnifmjaaGreatDoor.Sx
open Go.RowKit Go.ChangeMaps
/-! ### Lists of keys and data -/
section
variable {κ α : Type} [DecidableEq κ]
def mput : List (κ × α) → κ → α → List (κ × α)
  | [], k, x => [(k, x)]
  | p :: m, k, x => if p.1 = k then (k, x) :: m else p :: mput m k x
def Keys (m : List (κ × α)) : Prop := (m.map (·.1)).Nodup
theorem mput_keys {m : List (κ × α)} {k : κ} {x : α} : ∀ k', k' ∈ (mput m k x).map (·.1) ↔ k' = k ∨ k' ∈ m.map (·.1) := by
  induction m with
  | nil => intro k'; simp [mput]
  | cons p m ih =>
    intro k'
    unfold mput
    split
    · rename_i e; subst e; simp
    · simp only [List.map_cons, List.mem_cons, ih]
      constructor
      · rintro (h | h | h); exact .inr (.inl h); exact .inl h; exact .inr (.inr h)
      · rintro (h | h | h); exact .inr (.inl h); exact .inl h; exact .inr (.inr h)
theorem Keys.put {m : List (κ × α)} (h : Keys m) (k : κ) (x : α) : Keys (mput m k x) := by
  induction m with
  | nil => simp [Keys, mput]
  | cons p m ih =>
    unfold Keys at h ⊢
    rw [List.map_cons, List.nodup_cons] at h
    unfold mput
    split
    · rename_i e; subst e; rw [List.map_cons, List.nodup_cons]; exact h
    · rename_i e
      rw [List.map_cons, List.nodup_cons]
      refine ⟨fun hm => ?_, ih h.2⟩
      rcases (mput_keys _).1 hm with h1 | h1
      · exact e h1
      · exact h.1 h1
end
/-! ### Keys and data as values -/
structure KeyR (κ : Type) [DecidableEq κ] where
  desc : TypeDesc
  val : κ → Value
  same : ∀ a b, Instr.sameNow desc (val a) (val b) = some (decide (a = b))
  plain : ∀ (P : Program) (t : TypeId) (k : κ) (e : Bool) (w : World), P.underlying t = some desc → (Instr.checkKey e 10000 t (val k)).run P w = .ok () w
  bits : ∀ k, Instr.sameBits 10000 (val k) (val k) = true
theorem sb_int (n : Nat) (q : IntKind) (k : Int) : Instr.sameBits n (.int q k) (.int q k) = true := by cases n <;> simp [Instr.sameBits]
theorem ba_beq (a b : ByteArray) : (a == b) = decide (a = b) := by
  obtain ⟨x⟩ := a
  obtain ⟨y⟩ := b
  show (x == y) = _
  by_cases h : x = y
  · subst h; simp
  · rw [decide_eq_false (fun e => h (by cases e; rfl))]; simp [h]
theorem sb_str (n : Nat) (k : ByteArray) : Instr.sameBits n (.string k) (.string k) = true := by cases n <;> simp [Instr.sameBits, ba_beq]
theorem ck_int {P : Program} {t : TypeId} {q : IntKind} {w : World} (n : Nat) (e : Bool) (k : Int) (h : P.underlying t = some (.int q)) : (Instr.checkKey e (n + 1) t (.int q k)).run P w = .ok () w := by simp [Instr.checkKey, run_underlying h, go_sem]
theorem ck_str {P : Program} {t : TypeId} {w : World} (n : Nat) (e : Bool) (k : ByteArray) (h : P.underlying t = some .string) : (Instr.checkKey e (n + 1) t (.string k)).run P w = .ok () w := by simp [Instr.checkKey, run_underlying h, go_sem]
def KeyR.int (q : IntKind) : KeyR Int where
  desc := .int q
  val := fun k => .int q k
  same := fun a b => by simp [Instr.sameNow]; rfl
  plain := fun P t k e w h => ck_int 9999 e k h
  bits := fun k => sb_int _ q k
def KeyR.str : KeyR ByteArray where
  desc := .string
  val := fun k => .string k
  same := fun a b => by
    simp only [Instr.sameNow, ba_beq]
  plain := fun P t k e w h => ck_str 9999 e k h
  bits := fun k => sb_str _ k
/-- How a datum lies in one value. -/
structure VRep (α : Type) where
  R : World → (Nat → Prop) → α → Value → Prop
  move : ∀ {w w' : World} {ok ok' : Nat → Prop} {x v}, (∀ k, ok k → k < w.heap.size → w'.heap[k]? = w.heap[k]?) → (∀ k, ok k → k < w.heap.size → ok' k) → R w ok x v → R w' ok' x v
def VRep.agg {α : Type} (E : Rep α) : VRep α where
  R := fun w ok x v => ∃ cs, E.R w ok x cs ∧ v = .agg cs.toArray
  move := fun hw ho ⟨cs, h, e⟩ => ⟨cs, E.move hw ho h, e⟩
def VRep.flat {α : Type} (enc : α → Value) : VRep α where
  R := fun _ _ x v => v = enc x
  move := fun _ _ h => h
section
variable {κ α : Type} [DecidableEq κ] {K : KeyR κ} {V : VRep α} {w w' w0 : World} {ok ok' : Nat → Prop} {m : List (κ × α)} {b : Nat} {P : Program}
def Ents (K : KeyR κ) (V : VRep α) (w : World) (ok : Nat → Prop) : List MapEntry → List (κ × α) → Prop
  | [], [] => True
  | e :: es, p :: m => (e.key = K.val p.1 ∧ V.R w ok p.2 e.val) ∧ Ents K V w ok es m
  | _, _ => False
theorem Ents.move (hw : ∀ k, ok k → k < w.heap.size → w'.heap[k]? = w.heap[k]?) (ho : ∀ k, ok k → k < w.heap.size → ok' k) : ∀ {es : List MapEntry} {m : List (κ × α)}, Ents K V w ok es m → Ents K V w' ok' es m
  | [], [], _ => trivial
  | e :: es, p :: m, h => ⟨⟨h.1.1, V.move hw ho h.1.2⟩, Ents.move hw ho h.2⟩
  | [], _ :: _, h => h.elim
  | _ :: _, [], h => h.elim
theorem Ents.length : ∀ {es : List MapEntry} {m : List (κ × α)}, Ents K V w ok es m → es.length = m.length
  | [], [], _ => rfl
  | _ :: _, _ :: _, h => by simp only [List.length_cons, Ents.length h.2]
  | [], _ :: _, h => h.elim
  | _ :: _, [], h => h.elim
/-- The births of entries: none twice, all ahead of the clock. -/
structure Born (l : List MapEntry) (clock : Nat) : Prop where
  ne : l.Pairwise (fun x y => x.born ≠ y.born)
  lt : ∀ e ∈ l, e.born < clock
/-- Block b is a map. -/
def MapAt (K : KeyR κ) (V : VRep α) (w : World) (ok : Nat → Prop) (b : Nat) (m : List (κ × α)) : Prop :=
  ∃ es clock, w.heap[b]? = some (.map es clock) ∧ Ents K V w ok es.toList m ∧ Born es.toList clock
def Asn.map (K : KeyR κ) (V : VRep α) (b : Nat) (m : List (κ × α)) (ok : Nat → Prop) : Asn :=
  ⟨fun k => k = b, fun k => ok k ∧ k ≠ b, fun w => MapAt K V w (fun k => ok k ∧ k ≠ b) b m, fun {w w'} h hw => by
    obtain ⟨es, clock, h1, h2, h3⟩ := hw
    exact ⟨es, clock, (h b (.inl rfl)).trans h1, h2.move (fun k hk _ => h k (.inr hk)) (fun k hk _ => hk), h3⟩⟩
end
/-! ### Operations -/
section
variable {κ α : Type} [DecidableEq κ] {K : KeyR κ} {V : VRep α} {w w' w0 : World} {ok ok' : Nat → Prop} {m : List (κ × α)} {b : Nat} {P : Program} {t kt e : TypeId}
end
section
variable {κ α : Type} [DecidableEq κ] {K : KeyR κ} {V : VRep α} {ds : List Deferred} {P : Program} {a : Act} {w w0 w' : World} {K' : Act → World → Prop} {Q : Exit → Act → World → Prop} {v z : Value} {B : Nat → Prop} {H : List (Nat × Asn)} {dst : Option Tmp} {ty : TypeId} {pos : String} {af : Array Edge} {x y u : Operand} {t kt e : TypeId} {n d : Nat} {gg : Option (Nat × Bool)} {m : List (κ × α)} {b : Nat} {ok : Nat → Prop} {L : List (Nat × Value)} {key : Value}
theorem Hp.map (h : Hp B w0 w H) (l : Nat) (hl : get H l = some (.map K V b m ok)) : MapAt K V w (fun k => ok k ∧ k ≠ b) b m := h.holds l _ hl
end
/-! ### A range over a map -/
section
variable {κ α : Type} [DecidableEq κ] {K : KeyR κ} {V : VRep α} {w w' w0 : World} {ok ok' : Nat → Prop} {m rest : List (κ × α)} {b it : Nat} {P : Program}
end
section
variable {κ α : Type} [DecidableEq κ] {K : KeyR κ} {V : VRep α} {ds : List Deferred} {P : Program} {a : Act} {w w0 w' : World} {K' : Act → World → Prop} {Q : Exit → Act → World → Prop} {v z : Value} {B : Nat → Prop} {H : List (Nat × Asn)} {dst : Option Tmp} {ty : TypeId} {pos : String} {af : Array Edge} {x y u : Operand} {t kt e : TypeId} {n d : Nat} {gg : Option (Nat × Bool)} {m rest : List (κ × α)} {b it : Nat} {ok : Nat → Prop} {L : List (Nat × Value)} {key : Value}
theorem Hp.atro (h : Hp B w0 w H) (l : Nat) {b : Nat} {o : Obj} (hl : get H l = some (.ro (.blk b o))) : w.heap[b]? = some o := h.holds l _ hl
end
/-! ### Lookups whose answer is known beforehand -/
section
variable {κ α : Type} [DecidableEq κ] {K : KeyR κ} {P : Program} {a : Act} {w w0 w' : World} {v z : Value} {B : Nat → Prop} {H HS : List (Nat × Asn)} {dst : Option Tmp} {ty : TypeId} {pos : String} {af : Array Edge} {x y u : Operand} {t kt e : TypeId} {n d : Nat} {gg : Option (Nat × Bool)} {m rest : List (κ × α)} {b it : Nat} {ok : Nat → Prop} {L : List (Nat × Value)} {key : Value}
theorem SL.atro {b : Nat} {ob : Obj} (h : SL HS w) (l : Nat) (hl : get HS l = some (.ro (.blk b ob))) : w.heap[b]? = some ob := h l _ hl
end
section
variable {P : Program} {fn : Func} {a : Act} {w : World} {n : Nat} {L : List (Nat × Value)} {v u : Value} {ds : List Deferred}
/-- A struct in a cell, and a value. -/
theorem resct (hF : FrD ds n a L) {t t' : Nat} {ty : TypeId} {b : Nat} {cs : Array Value} {T : TypeId} {fz : Nat × Nat} {z : Value} {k by' : Nat} (hr : fn.results = #[.cell t ty, .tmp t']) (hv : get L t = some (.pointer (some ⟨b, 0, none⟩))) (hu : get L t' = some u) (hb : w.heap[b]? = some (.cells cs T fz))
    (h : TyI P ty z k by' true) (hn : cs.size = k) : (results fn a.tmps).run P w = .ok (.tuple #[.agg cs, u]) w := by
  have h3 : a.tmps[t]?.getD undef = .pointer (some ⟨b, 0, none⟩) := by simpa using hF.getD t hv
  have h4 : a.tmps[t']?.getD undef = u := by simpa using hF.getD t' hu
  obtain ⟨d, hd, he⟩ := h.und
  obtain ⟨i, hi, _, hz, _⟩ := h.parts
  have hl := run_loadVar_row (P := P) w b T ty cs fz d hb hd (by cases d <;> simp_all) (by rw [hi]; simp [hz, hn])
  simp [results, hr, h3, h4, asAddr, hl]
end
end Go.Proofs.YtiiklnghnifmjaaGreatDoor.Sx
