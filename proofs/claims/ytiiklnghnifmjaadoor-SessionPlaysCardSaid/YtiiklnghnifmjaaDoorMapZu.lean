/- Maps: entries in the heap as a list of keys and data. -/
import Derived.Test.YtiiklnghnifmjaaDoorFldZu
import Derived.Laws.NewFold
import Derived.Maps.RangeRun
set_option linter.unusedVariables false
set_option linter.unusedSimpArgs false
namespace Go.Proofs.YtiiklnghnifmjaaDoor.Sx
open Go.RowKit Go.ChangeMaps
/-! ### Lists of keys and data -/
section
variable {κ α : Type} [DecidableEq κ]
def al : List (κ × α) → κ → Option α
  | [], _ => none
  | p :: m, k => if p.1 = k then some p.2 else al m k
def mput : List (κ × α) → κ → α → List (κ × α)
  | [], k, x => [(k, x)]
  | p :: m, k, x => if p.1 = k then (k, x) :: m else p :: mput m k x
def mdel : List (κ × α) → κ → List (κ × α)
  | [], _ => []
  | p :: m, k => if p.1 = k then m else p :: mdel m k
def Keys (m : List (κ × α)) : Prop := (m.map (·.1)).Nodup
theorem al_put (m : List (κ × α)) (k : κ) (x : α) (k' : κ) : al (mput m k x) k' = if k = k' then some x else al m k' := by
  induction m with
  | nil => simp [mput, al]
  | cons p m ih =>
    unfold mput
    by_cases h : p.1 = k
    · rw [if_pos h]
      unfold al
      by_cases e : k = k'
      · simp [e]
      · simp [e, h]
    · rw [if_neg h]
      unfold al
      by_cases e : p.1 = k'
      · rw [if_pos e, if_pos e, if_neg (fun e2 => h (e.trans e2.symm))]
      · rw [if_neg e, if_neg e, ih]
theorem mput_keys {m : List (κ × α)} {k : κ} {x : α} : ∀ k', k' ∈ (mput m k x).map (·.1) ↔ k' = k ∨ k' ∈ m.map (·.1) := by
  induction m with
  | nil => intro k'; simp [mput]
  | cons p m ih =>
    intro k'
    unfold mput
    split
    · rename_i e; subst e; simp
    · simp only [List.map_cons, List.mem_cons, ih]
      constructor
      · rintro (h | h | h); exact .inr (.inl h); exact .inl h; exact .inr (.inr h)
      · rintro (h | h | h); exact .inr (.inl h); exact .inl h; exact .inr (.inr h)
theorem Keys.put {m : List (κ × α)} (h : Keys m) (k : κ) (x : α) : Keys (mput m k x) := by
  induction m with
  | nil => simp [Keys, mput]
  | cons p m ih =>
    unfold Keys at h ⊢
    rw [List.map_cons, List.nodup_cons] at h
    unfold mput
    split
    · rename_i e; subst e; rw [List.map_cons, List.nodup_cons]; exact h
    · rename_i e
      rw [List.map_cons, List.nodup_cons]
      refine ⟨fun hm => ?_, ih h.2⟩
      rcases (mput_keys _).1 hm with h1 | h1
      · exact e h1
      · exact h.1 h1
end
/-! ### Keys and data as values -/
structure KeyR (κ : Type) [DecidableEq κ] where
  desc : TypeDesc
  val : κ → Value
  same : ∀ a b, Instr.sameNow desc (val a) (val b) = some (decide (a = b))
  plain : ∀ (P : Program) (t : TypeId) (k : κ) (e : Bool) (w : World), P.underlying t = some desc → (Instr.checkKey e 10000 t (val k)).run P w = .ok () w
  bits : ∀ k, Instr.sameBits 10000 (val k) (val k) = true
theorem sb_int (n : Nat) (q : IntKind) (k : Int) : Instr.sameBits n (.int q k) (.int q k) = true := by cases n <;> simp [Instr.sameBits]
theorem ba_beq (a b : ByteArray) : (a == b) = decide (a = b) := by
  obtain ⟨x⟩ := a
  obtain ⟨y⟩ := b
  show (x == y) = _
  by_cases h : x = y
  · subst h; simp
  · rw [decide_eq_false (fun e => h (by cases e; rfl))]; simp [h]
theorem sb_str (n : Nat) (k : ByteArray) : Instr.sameBits n (.string k) (.string k) = true := by cases n <;> simp [Instr.sameBits, ba_beq]
theorem ck_int {P : Program} {t : TypeId} {q : IntKind} {w : World} (n : Nat) (e : Bool) (k : Int) (h : P.underlying t = some (.int q)) : (Instr.checkKey e (n + 1) t (.int q k)).run P w = .ok () w := by simp [Instr.checkKey, run_underlying h, go_sem]
theorem ck_str {P : Program} {t : TypeId} {w : World} (n : Nat) (e : Bool) (k : ByteArray) (h : P.underlying t = some .string) : (Instr.checkKey e (n + 1) t (.string k)).run P w = .ok () w := by simp [Instr.checkKey, run_underlying h, go_sem]
def KeyR.int (q : IntKind) : KeyR Int where
  desc := .int q
  val := fun k => .int q k
  same := fun a b => by simp [Instr.sameNow]; rfl
  plain := fun P t k e w h => ck_int 9999 e k h
  bits := fun k => sb_int _ q k
def KeyR.str : KeyR ByteArray where
  desc := .string
  val := fun k => .string k
  same := fun a b => by
    simp only [Instr.sameNow, ba_beq]
  plain := fun P t k e w h => ck_str 9999 e k h
  bits := fun k => sb_str _ k
/-- How a datum lies in one value. -/
structure VRep (α : Type) where
  R : World → (Nat → Prop) → α → Value → Prop
  move : ∀ {w w' : World} {ok ok' : Nat → Prop} {x v}, (∀ k, ok k → k < w.heap.size → w'.heap[k]? = w.heap[k]?) → (∀ k, ok k → k < w.heap.size → ok' k) → R w ok x v → R w' ok' x v
def VRep.agg {α : Type} (E : Rep α) : VRep α where
  R := fun w ok x v => ∃ cs, E.R w ok x cs ∧ v = .agg cs.toArray
  move := fun hw ho ⟨cs, h, e⟩ => ⟨cs, E.move hw ho h, e⟩
def VRep.flat {α : Type} (enc : α → Value) : VRep α where
  R := fun _ _ x v => v = enc x
  move := fun _ _ h => h
section
variable {κ α : Type} [DecidableEq κ] {K : KeyR κ} {V : VRep α} {w w' w0 : World} {ok ok' : Nat → Prop} {m : List (κ × α)} {b : Nat} {P : Program}
def Ents (K : KeyR κ) (V : VRep α) (w : World) (ok : Nat → Prop) : List MapEntry → List (κ × α) → Prop
  | [], [] => True
  | e :: es, p :: m => (e.key = K.val p.1 ∧ V.R w ok p.2 e.val) ∧ Ents K V w ok es m
  | _, _ => False
theorem Ents.move (hw : ∀ k, ok k → k < w.heap.size → w'.heap[k]? = w.heap[k]?) (ho : ∀ k, ok k → k < w.heap.size → ok' k) : ∀ {es : List MapEntry} {m : List (κ × α)}, Ents K V w ok es m → Ents K V w' ok' es m
  | [], [], _ => trivial
  | e :: es, p :: m, h => ⟨⟨h.1.1, V.move hw ho h.1.2⟩, Ents.move hw ho h.2⟩
  | [], _ :: _, h => h.elim
  | _ :: _, [], h => h.elim
theorem Ents.length : ∀ {es : List MapEntry} {m : List (κ × α)}, Ents K V w ok es m → es.length = m.length
  | [], [], _ => rfl
  | _ :: _, _ :: _, h => by simp only [List.length_cons, Ents.length h.2]
  | [], _ :: _, h => h.elim
  | _ :: _, [], h => h.elim
theorem Ents.find (k : κ) : ∀ {es : List MapEntry} {m : List (κ × α)} (i : Nat), Ents K V w ok es m →
    (al m k = none ∧ Instr.findNow K.desc (K.val k) es i = some none ∧ (∀ e y v', e.key = K.val k → e.val = v' → V.R w ok y v' → Ents K V w ok (es ++ [e]) (mput m k y)) ∧ Ents K V w ok es (mdel m k)) ∨
    (∃ j e x, al m k = some x ∧ es[j]? = some e ∧ e.key = K.val k ∧ V.R w ok x e.val ∧ Instr.findNow K.desc (K.val k) es i = some (some (i + j, e.val)) ∧
      (∀ y v' bo, V.R w ok y v' → Ents K V w ok (es.modify j fun _ => { key := K.val k, val := v', born := bo }) (mput m k y)) ∧ Ents K V w ok (es.eraseIdx j) (mdel m k))
  | [], [], i, _ => .inl ⟨rfl, rfl, fun e y v' h1 h2 h3 => ⟨⟨h1, h2 ▸ h3⟩, trivial⟩, trivial⟩
  | [], _ :: _, _, h => h.elim
  | _ :: _, [], _, h => h.elim
  | e :: es, p :: m, i, h => by
    by_cases hp : p.1 = k
    · refine .inr ⟨0, e, p.2, by simp [al, hp], rfl, by rw [h.1.1, hp], h.1.2, ?_, fun y v' bo hy => ?_, ?_⟩
      · unfold Instr.findNow
        rw [h.1.1, K.same, decide_eq_true hp.symm]
        rfl
      · unfold mput
        rw [if_pos hp]
        exact ⟨⟨rfl, hy⟩, h.2⟩
      · unfold mdel
        rw [if_pos hp]
        exact h.2
    · have hf : Instr.findNow K.desc (K.val k) (e :: es) i = Instr.findNow K.desc (K.val k) es (i + 1) := by
        conv => lhs; unfold Instr.findNow
        rw [h.1.1, K.same, decide_eq_false (fun e => hp e.symm)]
      have ha : al (p :: m) k = al m k := by conv => lhs; unfold al
                                             rw [if_neg hp]
      rcases Ents.find k (i + 1) h.2 with ⟨h1, h2, h3, h4⟩ | ⟨j, e', x, h1, h2, h3, h4, h5, h6, h7⟩
      · refine .inl ⟨ha.trans h1, hf.trans h2, fun e2 y v' a1 a2 a3 => ?_, ?_⟩
        · unfold mput; rw [if_neg hp]; exact ⟨h.1, h3 e2 y v' a1 a2 a3⟩
        · unfold mdel; rw [if_neg hp]; exact ⟨h.1, h4⟩
      · refine .inr ⟨j + 1, e', x, ha.trans h1, h2, h3, h4, ?_, fun y v' bo hy => ?_, ?_⟩
        · rw [hf, h5]; congr 3; omega
        · unfold mput; rw [if_neg hp]; exact ⟨h.1, h6 y v' bo hy⟩
        · unfold mdel; rw [if_neg hp]; exact ⟨h.1, h7⟩
/-- The births of entries: none twice, all ahead of the clock. -/
structure Born (l : List MapEntry) (clock : Nat) : Prop where
  ne : l.Pairwise (fun x y => x.born ≠ y.born)
  lt : ∀ e ∈ l, e.born < clock
/-- Block b is a map. -/
def MapAt (K : KeyR κ) (V : VRep α) (w : World) (ok : Nat → Prop) (b : Nat) (m : List (κ × α)) : Prop :=
  ∃ es clock, w.heap[b]? = some (.map es clock) ∧ Ents K V w ok es.toList m ∧ Born es.toList clock
def Asn.map (K : KeyR κ) (V : VRep α) (b : Nat) (m : List (κ × α)) (ok : Nat → Prop) : Asn :=
  ⟨fun k => k = b, fun k => ok k ∧ k ≠ b, fun w => MapAt K V w (fun k => ok k ∧ k ≠ b) b m, fun {w w'} h hw => by
    obtain ⟨es, clock, h1, h2, h3⟩ := hw
    exact ⟨es, clock, (h b (.inl rfl)).trans h1, h2.move (fun k hk _ => h k (.inr hk)) (fun k hk _ => hk), h3⟩⟩
end
/-! ### Operations -/
section
variable {κ α : Type} [DecidableEq κ] {K : KeyR κ} {V : VRep α} {w w' w0 : World} {ok ok' : Nat → Prop} {m : List (κ × α)} {b : Nat} {P : Program} {t kt e : TypeId}
theorem run_find (hk : P.underlying kt = some K.desc) (k : κ) {es : List MapEntry} {r : Option (Nat × Value)} (h : Instr.findNow K.desc (K.val k) es 0 = some r) : (Instr.findKey kt (K.val k) es).run P w = .ok r w := by
  unfold Instr.findKey
  simp [run_underlying hk, h, go_sem]
/-- What a map has for a key; z: the element type's zero value, which is the datum x0. -/
theorem MapAt.look (h : MapAt K V w ok b m) (ht : P.underlying t = some (.map kt e)) (hk : P.underlying kt = some K.desc) {z : Value} {x0 : α} (hz : (zeroValue e).run P w = .ok z w) (h0 : V.R w ok x0 z) (k : κ) :
    ∃ v, V.R w ok ((al m k).getD x0) v ∧ ∀ c, (Instr.lookup t (.map (some b)) (K.val k) c).run P w = .ok (if c then .tuple #[v, .bool (al m k).isSome] else v) w := by
  obtain ⟨es, clock, hb, he, _⟩ := h
  have hg : (getObj b).run P w = .ok (.map es clock) w := by simp [getObj, Sem.run, hb]
  rcases Ents.find k 0 he with ⟨h1, h2, _⟩ | ⟨j, e', x, h1, _, _, h4, h5, _⟩
  · refine ⟨z, by rw [h1]; exact h0, fun c => ?_⟩
    unfold Instr.lookup
    simp [run_underlying ht, hg, K.plain P kt k _ w hk, run_find hk k h2, hz, h1, go_sem]
  · refine ⟨e'.val, by rw [h1]; exact h4, fun c => ?_⟩
    unfold Instr.lookup
    simp [run_underlying ht, hg, K.plain P kt k _ w hk, run_find hk k h5, h1, go_sem]
end
section
variable {κ α : Type} [DecidableEq κ] {K : KeyR κ} {V : VRep α} {ds : List Deferred} {P : Program} {a : Act} {w w0 w' : World} {K' : Act → World → Prop} {Q : Exit → Act → World → Prop} {v z : Value} {B : Nat → Prop} {H : List (Nat × Asn)} {dst : Option Tmp} {ty : TypeId} {pos : String} {af : Array Edge} {x y u : Operand} {t kt e : TypeId} {n d : Nat} {gg : Option (Nat × Bool)} {m : List (κ × α)} {b : Nat} {ok : Nat → Prop} {L : List (Nat × Value)} {key : Value}
theorem Hp.map (h : Hp B w0 w H) (l : Nat) (hl : get H l = some (.map K V b m ok)) : MapAt K V w (fun k => ok k ∧ k ≠ b) b m := h.holds l _ hl
theorem x_lookup {c : Bool} {mv : Value} (hl : ∀ c, (Instr.lookup t mv key c).run P w = .ok (if c then .tuple #[v, z] else v) w) (hx : a.eval x = mv) (hy : a.eval y = key) : At P ⟨dst, .lookup t x y c, ty, pos, af, gg⟩ a w (if c then .tuple #[v, z] else v) := by
  unfold At; generalize a.eval = ρ at *
  simp [execOp, hx, hy, hl, go_sem]
theorem w_makeMap {κ α : Type} [DecidableEq κ] (K : KeyR κ) (V : VRep α) (l : Nat) (hF : FrD ds n a L) (hH : Hp B w0 w H) (hn : Nat.blt d n = true)
    (k' : ∀ a' w' b, FrD ds n a' ((d, .map (some b)) :: L) → Hp B w0 w' ((l, .map K V b [] (fun _ => False)) :: H) → K' a' w') : Oper.wp P ⟨some d, .makeMap t none, ty, pos, af, gg⟩ a w K' Q := by
  have hto : To P ⟨some d, .makeMap t none, ty, pos, af, gg⟩ a w (.map (some w.heap.size)) (w.alloc (.map #[] 0)) := by
    unfold To; generalize a.eval = ρ at *
    simp [execOp, Instr.makeMap, run_newObj_alloc, go_sem]
  refine w_to hF hto rfl hn fun a' hF' => k' a' _ _ hF' ?_
  refine hH.one (Mods.alloc (fun _ => False) w _) l _ (fun k hk => hk.elim) ⟨#[], 0, heap_alloc_new w _, trivial, ⟨by simp, by simp⟩⟩ (fun k hk => .inr (by rw [show k = w.heap.size from hk]; exact Nat.le_refl _)) (fun k hk => hk.1.elim)
    (fun k hk => by rcases hk with hk | hk; (· rw [show k = w.heap.size from hk]; simp); (· exact hk.1.elim)) (fun k _ hk => hk.1.elim)
theorem Mods.setMap (w : World) (b : Nat) (o : Obj) : Mods (fun k => k = b) w { w with heap := w.heap.setIfInBounds b o } :=
  ⟨rfl, rfl, rfl, by simp, fun k _ hn => by simp [Array.getElem?_setIfInBounds_ne (Ne.symm hn)]⟩
theorem setMap_same {w : World} {b : Nat} {o o' : Obj} (h : w.heap[b]? = some o) : ({ w with heap := w.heap.setIfInBounds b o' } : World).heap[b]? = some o' := by
  have := (Array.getElem?_eq_some_iff.1 h).1
  simp [this]
theorem run_setMap {w : World} {b : Nat} {es : Array MapEntry} {cl : Nat} (h : w.heap[b]? = some (.map es cl)) (o' : Obj) : (setObj b o').run P w = .ok () { w with heap := w.heap.setIfInBounds b o' } := by
  simp [setObj, Sem.run, h]
/-- How a label's map turns. -/
theorem Hp.setMap (hH : Hp B w0 w H) (l : Nat) (hl : get H l = some (.map K V b m ok)) {m' : List (κ × α)} {ok' : Nat → Prop} {es : Array MapEntry} {clock : Nat} (he : Ents K V w (fun k => ok' k ∧ k ≠ b) es.toList m') (hb : Born es.toList clock)
    (hok : ∀ k, ok' k → ok k ∨ ∃ j A, get H j = some A ∧ A.rd k) : Hp B w0 { w with heap := w.heap.setIfInBounds b (.map es clock) } ((l, .map K V b m' ok') :: H) := by
  obtain ⟨es0, cl0, h1, _, _⟩ := hH.map l hl
  refine hH.one (Mods.setMap w b _) l _ (fun k hk => ⟨_, hl, hk⟩) ⟨es, clock, setMap_same h1, he.move (fun k hk hlt => (Mods.setMap w b _).block k hlt hk.2) (fun k hk _ => hk), hb⟩ (fun k hk => .inl ⟨_, hl, hk⟩) (fun k hk => ?_) (fun k hk => ?_) (fun k hk hk2 => hk2.2 hk)
  · rcases hok k hk.1 with h | h
    · exact .inr (.inl ⟨l, _, hl, h, hk.2⟩)
    · exact .inr (.inl h)
  · have hs : w.heap.size ≤ ({ w with heap := w.heap.setIfInBounds b (.map es clock) } : World).heap.size := (Mods.setMap w b _).size
    rcases hk with hk | hk
    · exact Nat.lt_of_lt_of_le (hH.inb l _ hl k (.inl hk)) hs
    · rcases hok k hk.1 with h | ⟨j, A, h2, h3⟩
      · exact Nat.lt_of_lt_of_le (hH.inb l _ hl k (.inr ⟨h, hk.2⟩)) hs
      · exact Nat.lt_of_lt_of_le (hH.inb j A h2 k (.inr h3)) hs
theorem born_push {es : Array MapEntry} {clock : Nat} (h : Born es.toList clock) (k v : Value) : Born (es.push { key := k, val := v, born := clock }).toList (clock + 1) := by
  refine ⟨?_, fun e he => ?_⟩
  · rw [Array.toList_push, List.pairwise_append]
    refine ⟨h.ne, by simp, fun x hx y hy => ?_⟩
    simp at hy; subst hy
    exact Nat.ne_of_lt (h.lt x hx)
  · rw [Array.toList_push, List.mem_append] at he
    rcases he with he | he
    · exact Nat.lt_succ_of_lt (h.lt e he)
    · simp at he; subst he; exact Nat.lt_succ_self _
theorem born_modify {l : List MapEntry} {clock : Nat} (h : Born l clock) (j : Nat) (f : MapEntry → MapEntry) (hf : ∀ e, (f e).born = e.born) : Born (l.modify j f) clock := by
  have e : (l.modify j f).map (·.born) = l.map (·.born) := by
    apply List.ext_getElem?
    intro i
    rw [List.getElem?_map, List.getElem?_map, List.getElem?_modify]
    cases l[i]? with
    | none => rfl
    | some x => simp only [Option.map_some]; split <;> simp [hf]
  refine ⟨?_, fun x hx => ?_⟩
  · have h1 : (l.map (·.born)).Pairwise (· ≠ ·) := List.pairwise_map.2 h.ne
    rw [← e] at h1
    exact List.pairwise_map.1 h1
  · have : x.born ∈ (l.modify j f).map (·.born) := List.mem_map_of_mem hx
    rw [e] at this
    obtain ⟨y, hy, hy2⟩ := List.mem_map.1 this
    exact hy2 ▸ h.lt y hy
theorem modify_of {l : List MapEntry} {j : Nat} {e : MapEntry} (hj : l[j]? = some e) (f : MapEntry → MapEntry) : l.modify j f = l.modify j (fun _ => f e) := by
  apply List.ext_getElem?
  intro i
  rw [List.getElem?_modify, List.getElem?_modify]
  by_cases h : j = i
  · subst h; rw [hj]; simp
  · cases l[i]? with
    | none => rfl
    | some x => simp [h]
/-- m[k] = y -/
theorem w_mapSet (l : Nat) {k : κ} {yv : α} (ok' : Nat → Prop) (hH : Hp B w0 w H) (hl : get H l = some (.map K V b m ok)) (ht : P.underlying t = some (.map kt e)) (hk : P.underlying kt = some K.desc)
    (hx : a.eval x = .map (some b)) (hy : a.eval y = K.val k) (hu : a.eval u = v) (hv : V.R w (fun k => ok' k ∧ k ≠ b) yv v) (hsub : ∀ k, ok k → ok' k) (hok : ∀ k, ok' k → ok k ∨ ∃ j A, get H j = some A ∧ A.rd k)
    (k' : ∀ w', Hp B w0 w' ((l, .map K V b (mput m k yv) ok') :: H) → K' a w') : Oper.wp P ⟨none, .mapUpdate t x y u, ty, pos, af, gg⟩ a w K' Q := by
  obtain ⟨es, clock, hb, he, hbo⟩ := hH.map l hl
  have he' : Ents K V w (fun k => ok' k ∧ k ≠ b) es.toList m := he.move (fun _ _ _ => rfl) (fun k hk _ => ⟨hsub k hk.1, hk.2⟩)
  have hg : (getObj b).run P w = .ok (.map es clock) w := by simp [getObj, Sem.run, hb]
  rcases Ents.find k 0 he' with ⟨h1, h2, h3, _⟩ | ⟨j, e', x', h1, hj, hke, h4, h5, h6, _⟩
  · have hs : Sk P ⟨none, .mapUpdate t x y u, ty, pos, af, gg⟩ a w { w with heap := w.heap.setIfInBounds b (.map (es.push { key := K.val k, val := v, born := clock }) (clock + 1)) } := by
      unfold Sk; generalize a.eval = ρ at *
      simp [execOp, Instr.mapUpdate, hx, hy, hu, run_underlying ht, hg, K.plain P kt k _ w hk, run_find hk k h2, run_setMap hb, go_sem]
    refine w_sk hs rfl (k' _ ?_)
    exact hH.setMap l hl (by rw [Array.toList_push]; exact h3 _ yv v rfl rfl hv) (born_push hbo _ _) hok
  · have hs : Sk P ⟨none, .mapUpdate t x y u, ty, pos, af, gg⟩ a w { w with heap := w.heap.setIfInBounds b (.map (es.modify j fun e => { e with key := K.val k, val := v }) clock) } := by
      have hj' : es[j]? = some e' := by rw [← Array.getElem?_toList]; exact hj
      unfold Sk; generalize a.eval = ρ at *
      rw [Nat.zero_add] at h5
      simp [execOp, Instr.mapUpdate, hx, hy, hu, run_underlying ht, hg, K.plain P kt k _ w hk, run_find hk k h5, run_setMap hb, Instr.keyThatStays, hj', hke, K.bits, go_sem]
    refine w_sk hs rfl (k' _ ?_)
    refine hH.setMap l hl ?_ ?_ hok
    · rw [Array.toList_modify, modify_of hj]; exact h6 yv v _ hv
    · rw [Array.toList_modify]; exact born_modify hbo j _ (fun _ => rfl)
end
/-! ### A range over a map -/
section
variable {κ α : Type} [DecidableEq κ] {K : KeyR κ} {V : VRep α} {w w' w0 : World} {ok ok' : Nat → Prop} {m rest : List (κ × α)} {b it : Nat} {P : Program}
end
section
variable {κ α : Type} [DecidableEq κ] {K : KeyR κ} {V : VRep α} {ds : List Deferred} {P : Program} {a : Act} {w w0 w' : World} {K' : Act → World → Prop} {Q : Exit → Act → World → Prop} {v z : Value} {B : Nat → Prop} {H : List (Nat × Asn)} {dst : Option Tmp} {ty : TypeId} {pos : String} {af : Array Edge} {x y u : Operand} {t kt e : TypeId} {n d : Nat} {gg : Option (Nat × Bool)} {m rest : List (κ × α)} {b it : Nat} {ok : Nat → Prop} {L : List (Nat × Value)} {key : Value}
theorem Hp.mapro (h : Hp B w0 w H) (l : Nat) (hl : get H l = some (.ro (.map K V b m ok))) : MapAt K V w (fun k => ok k ∧ k ≠ b) b m := h.holds l _ hl
theorem Hp.atro (h : Hp B w0 w H) (l : Nat) {b : Nat} {o : Obj} (hl : get H l = some (.ro (.blk b o))) : w.heap[b]? = some o := h.holds l _ hl
/-- Any label's thing is only read from now on. -/
theorem Hp.roAny (h : Hp B w0 w H) (l : Nat) {X : Asn} (hl : get H l = some X) : Hp B w0 w ((l, X.ro) :: H) :=
  h.one (Mods.refl (fun _ => False) w) l _ (fun k hk => hk.elim) (h.holds l X hl) (fun k hk => hk.elim) (fun k hk => hk.elim (fun h1 => .inl ⟨X, hl, h1⟩) (fun h1 => .inr (.inl ⟨l, X, hl, h1⟩)))
    (fun k hk => hk.elim (fun h => h.elim) (fun h1 => h.inb l X hl k h1)) (fun k hk => hk.elim)
theorem eqIn_ptr (ht : P.underlying t = some (.pointer e)) (d : Nat) (A : Option Addr) : (Op.equalIn (d + 1) t (.pointer A) (.pointer Option.none)).run P w = .ok A.isNone w := by
  cases A <;> simp [Op.equalIn, run_underlying ht, go_sem]
theorem eq_ptr (ht : P.underlying t = some (.pointer e)) (A : Option Addr) : (Op.equal t (.pointer A) (.pointer Option.none)).run P w = .ok A.isNone w := eqIn_ptr ht 9999 A
/-- p == nil, of pointers -/
theorem x_ptrnil {pa : Option Addr} {t' : TypeId} (ht : P.underlying t = some (.pointer e)) (hx : a.eval x = .pointer pa) (hy : a.eval y = .pointer Option.none) : At P ⟨dst, .binOp .eql t x y t', ty, pos, af, gg⟩ a w (.bool pa.isNone) := by
  unfold At; generalize a.eval = ρ at *
  simp [execOp, hx, hy, binOp, eqGuard, eq_ptr ht, go_sem]
end
/-! ### Lookups whose answer is known beforehand -/
section
variable {κ α : Type} [DecidableEq κ] {K : KeyR κ} {P : Program} {a : Act} {w w0 w' : World} {v z : Value} {B : Nat → Prop} {H HS : List (Nat × Asn)} {dst : Option Tmp} {ty : TypeId} {pos : String} {af : Array Edge} {x y u : Operand} {t kt e : TypeId} {n d : Nat} {gg : Option (Nat × Bool)} {m rest : List (κ × α)} {b it : Nat} {ok : Nat → Prop} {L : List (Nat × Value)} {key : Value}
theorem SL.atro {b : Nat} {ob : Obj} (h : SL HS w) (l : Nat) (hl : get HS l = some (.ro (.blk b ob))) : w.heap[b]? = some ob := h l _ hl
end
section
variable {P : Program} {fn : Func} {a : Act} {w : World} {n : Nat} {L : List (Nat × Value)} {v u : Value} {ds : List Deferred}
end
end Go.Proofs.YtiiklnghnifmjaaDoor.Sx
