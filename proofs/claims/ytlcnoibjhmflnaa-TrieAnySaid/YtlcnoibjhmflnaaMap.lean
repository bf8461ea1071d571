/- Maps: entries in the heap as a list of keys and data. -/
import Derived.Test.YtlcnoibjhmflnaaFld
import Derived.Laws.NewFold
import Derived.Maps.RangeRun
set_option linter.unusedVariables false
set_option linter.unusedSimpArgs false
namespace Go.Proofs.Ytlcnoibjhmflnaa.Sx
open Go.RowKit Go.ChangeMaps
/-! ### Lists of keys and data -/
section
variable {κ α : Type} [DecidableEq κ]
def al : List (κ × α) → κ → Option α
  | [], _ => none
  | p :: m, k => if p.1 = k then some p.2 else al m k
def mput : List (κ × α) → κ → α → List (κ × α)
  | [], k, x => [(k, x)]
  | p :: m, k, x => if p.1 = k then (k, x) :: m else p :: mput m k x
def mdel : List (κ × α) → κ → List (κ × α)
  | [], _ => []
  | p :: m, k => if p.1 = k then m else p :: mdel m k
def Keys (m : List (κ × α)) : Prop := (m.map (·.1)).Nodup
theorem al_none {m : List (κ × α)} {k : κ} : al m k = none ↔ k ∉ m.map (·.1) := by
  induction m with
  | nil => simp [al]
  | cons p m ih =>
    unfold al
    by_cases h : p.1 = k
    · simp [h]
    · rw [if_neg h, ih]; simp [Ne.symm h, fun e => h e]
theorem al_mem {m : List (κ × α)} {k : κ} {x : α} (h : al m k = some x) : (k, x) ∈ m := by
  induction m with
  | nil => simp [al] at h
  | cons p m ih =>
    unfold al at h
    split at h
    · rename_i e; cases h; subst e; simp
    · exact List.mem_cons_of_mem _ (ih h)
theorem al_of_mem {m : List (κ × α)} (hk : Keys m) {k : κ} {x : α} (h : (k, x) ∈ m) : al m k = some x := by
  induction m with
  | nil => cases h
  | cons p m ih =>
    unfold Keys at hk
    rw [List.map_cons, List.nodup_cons] at hk
    unfold al
    rcases List.mem_cons.1 h with rfl | h
    · rw [if_pos rfl]
    · rw [if_neg, ih hk.2 h]
      intro e
      exact hk.1 (by rw [e]; exact List.mem_map_of_mem (f := (·.1)) h)
theorem al_put (m : List (κ × α)) (k : κ) (x : α) (k' : κ) : al (mput m k x) k' = if k = k' then some x else al m k' := by
  induction m with
  | nil => simp [mput, al]
  | cons p m ih =>
    unfold mput
    by_cases h : p.1 = k
    · rw [if_pos h]
      unfold al
      by_cases e : k = k'
      · simp [e]
      · simp [e, h]
    · rw [if_neg h]
      unfold al
      by_cases e : p.1 = k'
      · rw [if_pos e, if_pos e, if_neg (fun e2 => h (e.trans e2.symm))]
      · rw [if_neg e, if_neg e, ih]
theorem mput_keys {m : List (κ × α)} {k : κ} {x : α} : ∀ k', k' ∈ (mput m k x).map (·.1) ↔ k' = k ∨ k' ∈ m.map (·.1) := by
  induction m with
  | nil => intro k'; simp [mput]
  | cons p m ih =>
    intro k'
    unfold mput
    split
    · rename_i e; subst e; simp
    · simp only [List.map_cons, List.mem_cons, ih]
      constructor
      · rintro (h | h | h); exact .inr (.inl h); exact .inl h; exact .inr (.inr h)
      · rintro (h | h | h); exact .inr (.inl h); exact .inl h; exact .inr (.inr h)
theorem Keys.put {m : List (κ × α)} (h : Keys m) (k : κ) (x : α) : Keys (mput m k x) := by
  induction m with
  | nil => simp [Keys, mput]
  | cons p m ih =>
    unfold Keys at h ⊢
    rw [List.map_cons, List.nodup_cons] at h
    unfold mput
    split
    · rename_i e; subst e; rw [List.map_cons, List.nodup_cons]; exact h
    · rename_i e
      rw [List.map_cons, List.nodup_cons]
      refine ⟨fun hm => ?_, ih h.2⟩
      rcases (mput_keys _).1 hm with h1 | h1
      · exact e h1
      · exact h.1 h1
theorem mdel_sub {m : List (κ × α)} {k : κ} : ∀ p, p ∈ mdel m k → p ∈ m := by
  induction m with
  | nil => intro p h; exact h
  | cons q m ih =>
    intro p h
    unfold mdel at h
    split at h
    · exact List.mem_cons_of_mem _ h
    · rcases List.mem_cons.1 h with rfl | h
      · simp
      · exact List.mem_cons_of_mem _ (ih p h)
theorem Keys.del {m : List (κ × α)} (h : Keys m) (k : κ) : Keys (mdel m k) := by
  induction m with
  | nil => exact h
  | cons p m ih =>
    unfold Keys at h ⊢
    rw [List.map_cons, List.nodup_cons] at h
    unfold mdel
    split
    · exact h.2
    · rw [List.map_cons, List.nodup_cons]
      refine ⟨fun hm => h.1 ?_, ih h.2⟩
      obtain ⟨q, hq, e⟩ := List.mem_map.1 hm
      exact e ▸ List.mem_map_of_mem (f := (·.1)) (mdel_sub q hq)
theorem al_del {m : List (κ × α)} (h : Keys m) (k k' : κ) : al (mdel m k) k' = if k = k' then none else al m k' := by
  induction m with
  | nil => simp [mdel, al]
  | cons p m ih =>
    unfold Keys at h
    rw [List.map_cons, List.nodup_cons] at h
    unfold mdel
    by_cases e : p.1 = k
    · rw [if_pos e]
      by_cases e2 : k = k'
      · rw [if_pos e2, al_none, ← e2, ← e]; exact h.1
      · rw [if_neg e2]
        conv => rhs; unfold al
        rw [if_neg (fun e3 => e2 (e ▸ e3))]
    · rw [if_neg e]
      unfold al
      by_cases e2 : p.1 = k'
      · rw [if_pos e2, if_pos e2, if_neg (fun e3 => e (e2.trans e3.symm))]
      · rw [if_neg e2, if_neg e2, ih h.2]
theorem al_perm {m m' : List (κ × α)} (hp : m.Perm m') (hk : Keys m) (k : κ) : al m k = al m' k := by
  have hk' : Keys m' := (hp.map _).nodup_iff.1 hk
  cases h : al m' k with
  | none =>
    rw [al_none] at h ⊢
    intro hm
    exact h ((hp.map _).mem_iff.1 hm)
  | some x => exact al_of_mem hk (hp.mem_iff.2 (al_mem h))
/-- Two lists without a key twice are one's reordering where each key has the same in both. -/
theorem perm_of_al {m m' : List (κ × α)} (hk : Keys m) (hk' : Keys m') (h : ∀ k, al m k = al m' k) : m.Perm m' := by
  have nd : ∀ {l : List (κ × α)}, Keys l → l.Nodup := fun {l} hl => by
    unfold Keys at hl
    induction l with
    | nil => exact List.nodup_nil
    | cons p l ih =>
      rw [List.map_cons, List.nodup_cons] at hl
      exact List.nodup_cons.2 ⟨fun hm => hl.1 (List.mem_map_of_mem (f := (·.1)) hm), ih hl.2⟩
  refine (List.perm_ext_iff_of_nodup (nd hk) (nd hk')).2 fun p => ?_
  obtain ⟨k, x⟩ := p
  exact ⟨fun hm => al_mem ((h k).symm.trans (al_of_mem hk hm)), fun hm => al_mem ((h k).trans (al_of_mem hk' hm))⟩
theorem mput_length {m : List (κ × α)} {k : κ} {x : α} : (mput m k x).length = if (al m k).isSome then m.length else m.length + 1 := by
  induction m with
  | nil => rfl
  | cons p m ih =>
    unfold mput al
    split
    · rfl
    · rw [List.length_cons, ih]; split <;> rfl
end
/-! ### Keys and data as values -/
structure KeyR (κ : Type) [DecidableEq κ] where
  desc : TypeDesc
  val : κ → Value
  same : ∀ a b, Instr.sameNow desc (val a) (val b) = some (decide (a = b))
  plain : ∀ (P : Program) (t : TypeId) (k : κ) (e : Bool) (w : World), P.underlying t = some desc → (Instr.checkKey e 10000 t (val k)).run P w = .ok () w
  bits : ∀ k, Instr.sameBits 10000 (val k) (val k) = true
theorem sb_int (n : Nat) (q : IntKind) (k : Int) : Instr.sameBits n (.int q k) (.int q k) = true := by cases n <;> simp [Instr.sameBits]
theorem ba_beq (a b : ByteArray) : (a == b) = decide (a = b) := by
  obtain ⟨x⟩ := a
  obtain ⟨y⟩ := b
  show (x == y) = _
  by_cases h : x = y
  · subst h; simp
  · rw [decide_eq_false (fun e => h (by cases e; rfl))]; simp [h]
theorem sb_str (n : Nat) (k : ByteArray) : Instr.sameBits n (.string k) (.string k) = true := by cases n <;> simp [Instr.sameBits, ba_beq]
theorem ck_int {P : Program} {t : TypeId} {q : IntKind} {w : World} (n : Nat) (e : Bool) (k : Int) (h : P.underlying t = some (.int q)) : (Instr.checkKey e (n + 1) t (.int q k)).run P w = .ok () w := by simp [Instr.checkKey, run_underlying h, go_sem]
theorem ck_str {P : Program} {t : TypeId} {w : World} (n : Nat) (e : Bool) (k : ByteArray) (h : P.underlying t = some .string) : (Instr.checkKey e (n + 1) t (.string k)).run P w = .ok () w := by simp [Instr.checkKey, run_underlying h, go_sem]
def KeyR.int (q : IntKind) : KeyR Int where
  desc := .int q
  val := fun k => .int q k
  same := fun a b => by simp [Instr.sameNow]; rfl
  plain := fun P t k e w h => ck_int 9999 e k h
  bits := fun k => sb_int _ q k
def KeyR.str : KeyR ByteArray where
  desc := .string
  val := fun k => .string k
  same := fun a b => by
    simp only [Instr.sameNow, ba_beq]
  plain := fun P t k e w h => ck_str 9999 e k h
  bits := fun k => sb_str _ k
/-- How a datum lies in one value. -/
structure VRep (α : Type) where
  R : World → (Nat → Prop) → α → Value → Prop
  move : ∀ {w w' : World} {ok ok' : Nat → Prop} {x v}, (∀ k, ok k → k < w.heap.size → w'.heap[k]? = w.heap[k]?) → (∀ k, ok k → k < w.heap.size → ok' k) → R w ok x v → R w' ok' x v
def VRep.agg {α : Type} (E : Rep α) : VRep α where
  R := fun w ok x v => ∃ cs, E.R w ok x cs ∧ v = .agg cs.toArray
  move := fun hw ho ⟨cs, h, e⟩ => ⟨cs, E.move hw ho h, e⟩
def VRep.flat {α : Type} (enc : α → Value) : VRep α where
  R := fun _ _ x v => v = enc x
  move := fun _ _ h => h
section
variable {κ α : Type} [DecidableEq κ] {K : KeyR κ} {V : VRep α} {w w' w0 : World} {ok ok' : Nat → Prop} {m : List (κ × α)} {b : Nat} {P : Program}
def Ents (K : KeyR κ) (V : VRep α) (w : World) (ok : Nat → Prop) : List MapEntry → List (κ × α) → Prop
  | [], [] => True
  | e :: es, p :: m => (e.key = K.val p.1 ∧ V.R w ok p.2 e.val) ∧ Ents K V w ok es m
  | _, _ => False
theorem Ents.move (hw : ∀ k, ok k → k < w.heap.size → w'.heap[k]? = w.heap[k]?) (ho : ∀ k, ok k → k < w.heap.size → ok' k) : ∀ {es : List MapEntry} {m : List (κ × α)}, Ents K V w ok es m → Ents K V w' ok' es m
  | [], [], _ => trivial
  | e :: es, p :: m, h => ⟨⟨h.1.1, V.move hw ho h.1.2⟩, Ents.move hw ho h.2⟩
  | [], _ :: _, h => h.elim
  | _ :: _, [], h => h.elim
theorem Ents.length : ∀ {es : List MapEntry} {m : List (κ × α)}, Ents K V w ok es m → es.length = m.length
  | [], [], _ => rfl
  | _ :: _, _ :: _, h => by simp only [List.length_cons, Ents.length h.2]
  | [], _ :: _, h => h.elim
  | _ :: _, [], h => h.elim
theorem Ents.find (k : κ) : ∀ {es : List MapEntry} {m : List (κ × α)} (i : Nat), Ents K V w ok es m →
    (al m k = none ∧ Instr.findNow K.desc (K.val k) es i = some none ∧ (∀ e y v', e.key = K.val k → e.val = v' → V.R w ok y v' → Ents K V w ok (es ++ [e]) (mput m k y)) ∧ Ents K V w ok es (mdel m k)) ∨
    (∃ j e x, al m k = some x ∧ es[j]? = some e ∧ e.key = K.val k ∧ V.R w ok x e.val ∧ Instr.findNow K.desc (K.val k) es i = some (some (i + j, e.val)) ∧
      (∀ y v' bo, V.R w ok y v' → Ents K V w ok (es.modify j fun _ => { key := K.val k, val := v', born := bo }) (mput m k y)) ∧ Ents K V w ok (es.eraseIdx j) (mdel m k))
  | [], [], i, _ => .inl ⟨rfl, rfl, fun e y v' h1 h2 h3 => ⟨⟨h1, h2 ▸ h3⟩, trivial⟩, trivial⟩
  | [], _ :: _, _, h => h.elim
  | _ :: _, [], _, h => h.elim
  | e :: es, p :: m, i, h => by
    by_cases hp : p.1 = k
    · refine .inr ⟨0, e, p.2, by simp [al, hp], rfl, by rw [h.1.1, hp], h.1.2, ?_, fun y v' bo hy => ?_, ?_⟩
      · unfold Instr.findNow
        rw [h.1.1, K.same, decide_eq_true hp.symm]
        rfl
      · unfold mput
        rw [if_pos hp]
        exact ⟨⟨rfl, hy⟩, h.2⟩
      · unfold mdel
        rw [if_pos hp]
        exact h.2
    · have hf : Instr.findNow K.desc (K.val k) (e :: es) i = Instr.findNow K.desc (K.val k) es (i + 1) := by
        conv => lhs; unfold Instr.findNow
        rw [h.1.1, K.same, decide_eq_false (fun e => hp e.symm)]
      have ha : al (p :: m) k = al m k := by conv => lhs; unfold al
                                             rw [if_neg hp]
      rcases Ents.find k (i + 1) h.2 with ⟨h1, h2, h3, h4⟩ | ⟨j, e', x, h1, h2, h3, h4, h5, h6, h7⟩
      · refine .inl ⟨ha.trans h1, hf.trans h2, fun e2 y v' a1 a2 a3 => ?_, ?_⟩
        · unfold mput; rw [if_neg hp]; exact ⟨h.1, h3 e2 y v' a1 a2 a3⟩
        · unfold mdel; rw [if_neg hp]; exact ⟨h.1, h4⟩
      · refine .inr ⟨j + 1, e', x, ha.trans h1, h2, h3, h4, ?_, fun y v' bo hy => ?_, ?_⟩
        · rw [hf, h5]; congr 3; omega
        · unfold mput; rw [if_neg hp]; exact ⟨h.1, h6 y v' bo hy⟩
        · unfold mdel; rw [if_neg hp]; exact ⟨h.1, h7⟩
/-- The births of entries: none twice, all ahead of the clock. -/
structure Born (l : List MapEntry) (clock : Nat) : Prop where
  ne : l.Pairwise (fun x y => x.born ≠ y.born)
  lt : ∀ e ∈ l, e.born < clock
/-- Block b is a map. -/
def MapAt (K : KeyR κ) (V : VRep α) (w : World) (ok : Nat → Prop) (b : Nat) (m : List (κ × α)) : Prop :=
  ∃ es clock, w.heap[b]? = some (.map es clock) ∧ Ents K V w ok es.toList m ∧ Born es.toList clock
def Asn.map (K : KeyR κ) (V : VRep α) (b : Nat) (m : List (κ × α)) (ok : Nat → Prop) : Asn :=
  ⟨fun k => k = b, fun k => ok k ∧ k ≠ b, fun w => MapAt K V w (fun k => ok k ∧ k ≠ b) b m, fun {w w'} h hw => by
    obtain ⟨es, clock, h1, h2, h3⟩ := hw
    exact ⟨es, clock, (h b (.inl rfl)).trans h1, h2.move (fun k hk _ => h k (.inr hk)) (fun k hk _ => hk), h3⟩⟩
end
/-! ### Operations -/
section
variable {κ α : Type} [DecidableEq κ] {K : KeyR κ} {V : VRep α} {w w' w0 : World} {ok ok' : Nat → Prop} {m : List (κ × α)} {b : Nat} {P : Program} {t kt e : TypeId}
theorem run_find (hk : P.underlying kt = some K.desc) (k : κ) {es : List MapEntry} {r : Option (Nat × Value)} (h : Instr.findNow K.desc (K.val k) es 0 = some r) : (Instr.findKey kt (K.val k) es).run P w = .ok r w := by
  unfold Instr.findKey
  simp [run_underlying hk, h, go_sem]
/-- What a map has for a key; z: the element type's zero value, which is the datum x0. -/
theorem MapAt.look (h : MapAt K V w ok b m) (ht : P.underlying t = some (.map kt e)) (hk : P.underlying kt = some K.desc) {z : Value} {x0 : α} (hz : (zeroValue e).run P w = .ok z w) (h0 : V.R w ok x0 z) (k : κ) :
    ∃ v, V.R w ok ((al m k).getD x0) v ∧ ∀ c, (Instr.lookup t (.map (some b)) (K.val k) c).run P w = .ok (if c then .tuple #[v, .bool (al m k).isSome] else v) w := by
  obtain ⟨es, clock, hb, he, _⟩ := h
  have hg : (getObj b).run P w = .ok (.map es clock) w := by simp [getObj, Sem.run, hb]
  rcases Ents.find k 0 he with ⟨h1, h2, _⟩ | ⟨j, e', x, h1, _, _, h4, h5, _⟩
  · refine ⟨z, by rw [h1]; exact h0, fun c => ?_⟩
    unfold Instr.lookup
    simp [run_underlying ht, hg, K.plain P kt k _ w hk, run_find hk k h2, hz, h1, go_sem]
  · refine ⟨e'.val, by rw [h1]; exact h4, fun c => ?_⟩
    unfold Instr.lookup
    simp [run_underlying ht, hg, K.plain P kt k _ w hk, run_find hk k h5, h1, go_sem]
end
section
variable {κ α : Type} [DecidableEq κ] {K : KeyR κ} {V : VRep α} {ds : List Deferred} {P : Program} {a : Act} {w w0 w' : World} {K' : Act → World → Prop} {Q : Exit → Act → World → Prop} {v z : Value} {B : Nat → Prop} {H : List (Nat × Asn)} {dst : Option Tmp} {ty : TypeId} {pos : String} {af : Array Edge} {x y u : Operand} {t kt e : TypeId} {n d : Nat} {gg : Option (Nat × Bool)} {m : List (κ × α)} {b : Nat} {ok : Nat → Prop} {L : List (Nat × Value)} {key : Value}
theorem Hp.map (h : Hp B w0 w H) (l : Nat) (hl : get H l = some (.map K V b m ok)) : MapAt K V w (fun k => ok k ∧ k ≠ b) b m := h.holds l _ hl
theorem x_lookup {c : Bool} {mv : Value} (hl : ∀ c, (Instr.lookup t mv key c).run P w = .ok (if c then .tuple #[v, z] else v) w) (hx : a.eval x = mv) (hy : a.eval y = key) : At P ⟨dst, .lookup t x y c, ty, pos, af, gg⟩ a w (if c then .tuple #[v, z] else v) := by
  unfold At; generalize a.eval = ρ at *
  simp [execOp, hx, hy, hl, go_sem]
theorem x_len_map (h : MapAt K V w ok b m) (ht : P.underlying t = some (.map kt e)) (hx : a.eval x = .map (some b)) : At P ⟨dst, .call ⟨.builtin .len, #[x], #[t]⟩, ty, pos, af, gg⟩ a w (.int .i64 m.length) := by
  obtain ⟨es, clock, hb, he, _⟩ := h
  have hg : (getObj b).run P w = .ok (.map es clock) w := by simp [getObj, Sem.run, hb]
  have hs : es.size = m.length := by rw [← he.length]; simp
  unfold At; generalize a.eval = ρ at *
  simp [execOp, resolve, invoke, builtin, Builtin.len_, hx, run_underlying ht, hg, hs, goInt, go_sem]
theorem x_len_nilmap (ht : P.underlying t = some (.map kt e)) (hx : a.eval x = .map none) : At P ⟨dst, .call ⟨.builtin .len, #[x], #[t]⟩, ty, pos, af, gg⟩ a w (.int .i64 0) := by
  unfold At; generalize a.eval = ρ at *
  simp [execOp, resolve, invoke, builtin, Builtin.len_, hx, run_underlying ht, goInt, go_sem]
theorem w_makeMap {κ α : Type} [DecidableEq κ] (K : KeyR κ) (V : VRep α) (l : Nat) (hF : FrD ds n a L) (hH : Hp B w0 w H) (hn : Nat.blt d n = true)
    (k' : ∀ a' w' b, FrD ds n a' ((d, .map (some b)) :: L) → Hp B w0 w' ((l, .map K V b [] (fun _ => False)) :: H) → K' a' w') : Oper.wp P ⟨some d, .makeMap t none, ty, pos, af, gg⟩ a w K' Q := by
  have hto : To P ⟨some d, .makeMap t none, ty, pos, af, gg⟩ a w (.map (some w.heap.size)) (w.alloc (.map #[] 0)) := by
    unfold To; generalize a.eval = ρ at *
    simp [execOp, Instr.makeMap, run_newObj_alloc, go_sem]
  refine w_to hF hto rfl hn fun a' hF' => k' a' _ _ hF' ?_
  refine hH.one (Mods.alloc (fun _ => False) w _) l _ (fun k hk => hk.elim) ⟨#[], 0, heap_alloc_new w _, trivial, ⟨by simp, by simp⟩⟩ (fun k hk => .inr (by rw [show k = w.heap.size from hk]; exact Nat.le_refl _)) (fun k hk => hk.1.elim)
    (fun k hk => by rcases hk with hk | hk; (· rw [show k = w.heap.size from hk]; simp); (· exact hk.1.elim)) (fun k _ hk => hk.1.elim)
theorem Mods.setMap (w : World) (b : Nat) (o : Obj) : Mods (fun k => k = b) w { w with heap := w.heap.setIfInBounds b o } :=
  ⟨rfl, rfl, rfl, by simp, fun k _ hn => by simp [Array.getElem?_setIfInBounds_ne (Ne.symm hn)]⟩
theorem setMap_same {w : World} {b : Nat} {o o' : Obj} (h : w.heap[b]? = some o) : ({ w with heap := w.heap.setIfInBounds b o' } : World).heap[b]? = some o' := by
  have := (Array.getElem?_eq_some_iff.1 h).1
  simp [this]
theorem run_setMap {w : World} {b : Nat} {es : Array MapEntry} {cl : Nat} (h : w.heap[b]? = some (.map es cl)) (o' : Obj) : (setObj b o').run P w = .ok () { w with heap := w.heap.setIfInBounds b o' } := by
  simp [setObj, Sem.run, h]
/-- How a label's map turns. -/
theorem Hp.setMap (hH : Hp B w0 w H) (l : Nat) (hl : get H l = some (.map K V b m ok)) {m' : List (κ × α)} {ok' : Nat → Prop} {es : Array MapEntry} {clock : Nat} (he : Ents K V w (fun k => ok' k ∧ k ≠ b) es.toList m') (hb : Born es.toList clock)
    (hok : ∀ k, ok' k → ok k ∨ ∃ j A, get H j = some A ∧ A.rd k) : Hp B w0 { w with heap := w.heap.setIfInBounds b (.map es clock) } ((l, .map K V b m' ok') :: H) := by
  obtain ⟨es0, cl0, h1, _, _⟩ := hH.map l hl
  refine hH.one (Mods.setMap w b _) l _ (fun k hk => ⟨_, hl, hk⟩) ⟨es, clock, setMap_same h1, he.move (fun k hk hlt => (Mods.setMap w b _).block k hlt hk.2) (fun k hk _ => hk), hb⟩ (fun k hk => .inl ⟨_, hl, hk⟩) (fun k hk => ?_) (fun k hk => ?_) (fun k hk hk2 => hk2.2 hk)
  · rcases hok k hk.1 with h | h
    · exact .inr (.inl ⟨l, _, hl, h, hk.2⟩)
    · exact .inr (.inl h)
  · have hs : w.heap.size ≤ ({ w with heap := w.heap.setIfInBounds b (.map es clock) } : World).heap.size := (Mods.setMap w b _).size
    rcases hk with hk | hk
    · exact Nat.lt_of_lt_of_le (hH.inb l _ hl k (.inl hk)) hs
    · rcases hok k hk.1 with h | ⟨j, A, h2, h3⟩
      · exact Nat.lt_of_lt_of_le (hH.inb l _ hl k (.inr ⟨h, hk.2⟩)) hs
      · exact Nat.lt_of_lt_of_le (hH.inb j A h2 k (.inr h3)) hs
theorem born_push {es : Array MapEntry} {clock : Nat} (h : Born es.toList clock) (k v : Value) : Born (es.push { key := k, val := v, born := clock }).toList (clock + 1) := by
  refine ⟨?_, fun e he => ?_⟩
  · rw [Array.toList_push, List.pairwise_append]
    refine ⟨h.ne, by simp, fun x hx y hy => ?_⟩
    simp at hy; subst hy
    exact Nat.ne_of_lt (h.lt x hx)
  · rw [Array.toList_push, List.mem_append] at he
    rcases he with he | he
    · exact Nat.lt_succ_of_lt (h.lt e he)
    · simp at he; subst he; exact Nat.lt_succ_self _
theorem born_modify {l : List MapEntry} {clock : Nat} (h : Born l clock) (j : Nat) (f : MapEntry → MapEntry) (hf : ∀ e, (f e).born = e.born) : Born (l.modify j f) clock := by
  have e : (l.modify j f).map (·.born) = l.map (·.born) := by
    apply List.ext_getElem?
    intro i
    rw [List.getElem?_map, List.getElem?_map, List.getElem?_modify]
    cases l[i]? with
    | none => rfl
    | some x => simp only [Option.map_some]; split <;> simp [hf]
  refine ⟨?_, fun x hx => ?_⟩
  · have h1 : (l.map (·.born)).Pairwise (· ≠ ·) := List.pairwise_map.2 h.ne
    rw [← e] at h1
    exact List.pairwise_map.1 h1
  · have : x.born ∈ (l.modify j f).map (·.born) := List.mem_map_of_mem hx
    rw [e] at this
    obtain ⟨y, hy, hy2⟩ := List.mem_map.1 this
    exact hy2 ▸ h.lt y hy
theorem born_erase {l : List MapEntry} {clock : Nat} (h : Born l clock) (j : Nat) : Born (l.eraseIdx j) clock :=
  ⟨h.ne.sublist (List.eraseIdx_sublist _ _), fun e he => h.lt e ((List.eraseIdx_sublist _ _).subset he)⟩
theorem modify_of {l : List MapEntry} {j : Nat} {e : MapEntry} (hj : l[j]? = some e) (f : MapEntry → MapEntry) : l.modify j f = l.modify j (fun _ => f e) := by
  apply List.ext_getElem?
  intro i
  rw [List.getElem?_modify, List.getElem?_modify]
  by_cases h : j = i
  · subst h; rw [hj]; simp
  · cases l[i]? with
    | none => rfl
    | some x => simp [h]
/-- m[k] = y -/
theorem w_mapSet (l : Nat) {k : κ} {yv : α} (ok' : Nat → Prop) (hH : Hp B w0 w H) (hl : get H l = some (.map K V b m ok)) (ht : P.underlying t = some (.map kt e)) (hk : P.underlying kt = some K.desc)
    (hx : a.eval x = .map (some b)) (hy : a.eval y = K.val k) (hu : a.eval u = v) (hv : V.R w (fun k => ok' k ∧ k ≠ b) yv v) (hsub : ∀ k, ok k → ok' k) (hok : ∀ k, ok' k → ok k ∨ ∃ j A, get H j = some A ∧ A.rd k)
    (k' : ∀ w', Hp B w0 w' ((l, .map K V b (mput m k yv) ok') :: H) → K' a w') : Oper.wp P ⟨none, .mapUpdate t x y u, ty, pos, af, gg⟩ a w K' Q := by
  obtain ⟨es, clock, hb, he, hbo⟩ := hH.map l hl
  have he' : Ents K V w (fun k => ok' k ∧ k ≠ b) es.toList m := he.move (fun _ _ _ => rfl) (fun k hk _ => ⟨hsub k hk.1, hk.2⟩)
  have hg : (getObj b).run P w = .ok (.map es clock) w := by simp [getObj, Sem.run, hb]
  rcases Ents.find k 0 he' with ⟨h1, h2, h3, _⟩ | ⟨j, e', x', h1, hj, hke, h4, h5, h6, _⟩
  · have hs : Sk P ⟨none, .mapUpdate t x y u, ty, pos, af, gg⟩ a w { w with heap := w.heap.setIfInBounds b (.map (es.push { key := K.val k, val := v, born := clock }) (clock + 1)) } := by
      unfold Sk; generalize a.eval = ρ at *
      simp [execOp, Instr.mapUpdate, hx, hy, hu, run_underlying ht, hg, K.plain P kt k _ w hk, run_find hk k h2, run_setMap hb, go_sem]
    refine w_sk hs rfl (k' _ ?_)
    exact hH.setMap l hl (by rw [Array.toList_push]; exact h3 _ yv v rfl rfl hv) (born_push hbo _ _) hok
  · have hs : Sk P ⟨none, .mapUpdate t x y u, ty, pos, af, gg⟩ a w { w with heap := w.heap.setIfInBounds b (.map (es.modify j fun e => { e with key := K.val k, val := v }) clock) } := by
      have hj' : es[j]? = some e' := by rw [← Array.getElem?_toList]; exact hj
      unfold Sk; generalize a.eval = ρ at *
      rw [Nat.zero_add] at h5
      simp [execOp, Instr.mapUpdate, hx, hy, hu, run_underlying ht, hg, K.plain P kt k _ w hk, run_find hk k h5, run_setMap hb, Instr.keyThatStays, hj', hke, K.bits, go_sem]
    refine w_sk hs rfl (k' _ ?_)
    refine hH.setMap l hl ?_ ?_ hok
    · rw [Array.toList_modify, modify_of hj]; exact h6 yv v _ hv
    · rw [Array.toList_modify]; exact born_modify hbo j _ (fun _ => rfl)
/-- delete(m, k) -/
theorem w_mapDel (l : Nat) {k : κ} {t2 : TypeId} (hF : FrD ds n a L) (hH : Hp B w0 w H) (hn : Nat.blt d n = true) (hl : get H l = some (.map K V b m ok)) (ht : P.underlying t = some (.map kt e)) (hk : P.underlying kt = some K.desc)
    (hx : a.eval x = .map (some b)) (hy : a.eval y = K.val k)
    (k' : ∀ a' w', FrD ds n a' ((d, .tuple #[]) :: L) → Hp B w0 w' ((l, .map K V b (mdel m k) ok) :: H) → K' a' w') : Oper.wp P ⟨some d, .call ⟨.builtin .delete, #[x, y], #[t, t2]⟩, ty, pos, af, gg⟩ a w K' Q := by
  obtain ⟨es, clock, hb, he, hbo⟩ := hH.map l hl
  have hg : (getObj b).run P w = .ok (.map es clock) w := by simp [getObj, Sem.run, hb]
  rcases Ents.find k 0 he with ⟨h1, h2, _, h3⟩ | ⟨j, e', x', h1, hj, hke, h4, h5, _, h6⟩
  · have hs : To P ⟨some d, .call ⟨.builtin .delete, #[x, y], #[t, t2]⟩, ty, pos, af, gg⟩ a w (.tuple #[]) { w with heap := w.heap.setIfInBounds b (.map es clock) } := by
      unfold To; generalize a.eval = ρ at *
      simp [execOp, resolve, invoke, builtin, Builtin.delete_, hx, hy, run_underlying ht, hg, K.plain P kt k _ w hk, run_find hk k h2, run_setMap hb, go_sem]
    exact w_to hF hs rfl hn fun a' hF' => k' a' _ hF' (hH.setMap l hl h3 hbo (fun k hk => .inl hk))
  · have hs : To P ⟨some d, .call ⟨.builtin .delete, #[x, y], #[t, t2]⟩, ty, pos, af, gg⟩ a w (.tuple #[]) { w with heap := w.heap.setIfInBounds b (.map (es.eraseIdxIfInBounds j) clock) } := by
      unfold To; generalize a.eval = ρ at *
      rw [Nat.zero_add] at h5
      simp [execOp, resolve, invoke, builtin, Builtin.delete_, hx, hy, run_underlying ht, hg, K.plain P kt k _ w hk, run_find hk k h5, run_setMap hb, go_sem]
    have e : (es.eraseIdxIfInBounds j).toList = es.toList.eraseIdx j := by simp
    exact w_to hF hs rfl hn fun a' hF' => k' a' _ hF' (hH.setMap l hl (by rw [e]; exact h6) (by rw [e]; exact born_erase hbo j) (fun k hk => .inl hk))
end
/-! ### A range over a map -/
section
variable {κ α : Type} [DecidableEq κ] {K : KeyR κ} {V : VRep α} {w w' w0 : World} {ok ok' : Nat → Prop} {m rest : List (κ × α)} {b it : Nat} {P : Program}
def IterAt (K : KeyR κ) (V : VRep α) (w : World) (ok : Nat → Prop) (b it : Nat) (m rest : List (κ × α)) (cur : Option ((κ × α) × Value)) : Prop :=
  ∃ es clock since seen c0, w.heap[b]? = some (.map es clock) ∧ w.heap[it]? = some (.mapIter (some b) since seen c0) ∧ Ents K V w ok es.toList m ∧ Born es.toList clock ∧ (∀ x ∈ es.toList, x.born < since) ∧ (since ≤ c0 ∧ since ≤ clock) ∧
    Ents K V w ok (leftOf es seen).toList rest ∧ ∀ p v, cur = some (p, v) → ∃ (e : MapEntry) (seen0 : Array Nat), seen = seen0.push e.born ∧ c0 = clock ∧ e ∈ es.toList ∧ e.key = K.val p.1 ∧ e.val = v ∧ V.R w ok p.2 v
def Asn.iter (K : KeyR κ) (V : VRep α) (b it : Nat) (m rest : List (κ × α)) (cur : Option ((κ × α) × Value)) (ok : Nat → Prop) : Asn :=
  ⟨fun k => k = it, fun k => (k = b ∨ ok k) ∧ k ≠ it, fun w => b ≠ it ∧ IterAt K V w (fun k => ok k ∧ k ≠ it) b it m rest cur, fun {w w'} h hw => by
    obtain ⟨hne, es, clock, since, seen, c0, h1, h2, h3, h4, h5, h6, h7, h8⟩ := hw
    have hm : ∀ k, (ok k ∧ k ≠ it) → k < w.heap.size → w'.heap[k]? = w.heap[k]? := fun k hk _ => h k (.inr ⟨.inr hk.1, hk.2⟩)
    refine ⟨hne, es, clock, since, seen, c0, (h b (.inr ⟨.inl rfl, hne⟩)).trans h1, (h it (.inl rfl)).trans h2, h3.move hm (fun k hk _ => hk), h4, h5, h6, h7.move hm (fun k hk _ => hk), fun p v hc => ?_⟩
    obtain ⟨e, seen0, a1, a2, a3, a4, a5, a6⟩ := h8 p v hc
    exact ⟨e, seen0, a1, a2, a3, a4, a5, V.move hm (fun k hk _ => hk) a6⟩⟩
theorem ents_split : ∀ {l1 : List MapEntry} {e : MapEntry} {l2 : List MapEntry} {m : List (κ × α)}, Ents K V w ok (l1 ++ e :: l2) m → ∃ r1 p r2, m = r1 ++ p :: r2 ∧ e.key = K.val p.1 ∧ V.R w ok p.2 e.val ∧ Ents K V w ok (l1 ++ l2) (r1 ++ r2)
  | [], e, l2, [], h => h.elim
  | [], e, l2, p :: m, h => ⟨[], p, m, rfl, h.1.1, h.1.2, h.2⟩
  | x :: l1, e, l2, [], h => h.elim
  | x :: l1, e, l2, q :: m, h => by
    obtain ⟨r1, p, r2, rfl, h1, h2, h3⟩ := ents_split h.2
    exact ⟨q :: r1, p, r2, rfl, h1, h2, h.1, h3⟩
theorem left_push {es : Array MapEntry} {seen : Array Nat} {l1 l2 : List MapEntry} {e : MapEntry} (hn : es.toList.Pairwise (fun x y => x.born ≠ y.born)) (h : (leftOf es seen).toList = l1 ++ e :: l2) : (leftOf es (seen.push e.born)).toList = l1 ++ l2 := by
  have hp : (l1 ++ e :: l2).Pairwise (fun x y => x.born ≠ y.born) := by
    rw [← h]
    unfold leftOf
    rw [Array.toList_filter]
    exact hn.sublist List.filter_sublist
  have e1 : (leftOf es (seen.push e.born)).toList = ((leftOf es seen).toList).filter (fun x => !decide (x.born = e.born)) := by
    unfold leftOf
    rw [Array.toList_filter, Array.toList_filter, List.filter_filter]
    refine List.filter_congr fun x _ => ?_
    simp [Bool.and_comm, eq_comm, and_comm]
  rw [e1, h]
  rw [List.pairwise_append] at hp
  obtain ⟨_, h2, h3⟩ := hp
  rw [List.pairwise_cons] at h2
  rw [List.filter_append, List.filter_cons]
  simp only [decide_true, Bool.not_true, Bool.false_eq_true, if_false]
  rw [List.filter_eq_self.2, List.filter_eq_self.2]
  · intro x hx; have := h2.1 x hx; simp [Ne.symm this]
  · intro x hx; have := h3 x hx e (by simp); simp [this]
end
section
variable {κ α : Type} [DecidableEq κ] {K : KeyR κ} {V : VRep α} {ds : List Deferred} {P : Program} {a : Act} {w w0 w' : World} {K' : Act → World → Prop} {Q : Exit → Act → World → Prop} {v z : Value} {B : Nat → Prop} {H : List (Nat × Asn)} {dst : Option Tmp} {ty : TypeId} {pos : String} {af : Array Edge} {x y u : Operand} {t kt e : TypeId} {n d : Nat} {gg : Option (Nat × Bool)} {m rest : List (κ × α)} {b it : Nat} {ok : Nat → Prop} {L : List (Nat × Value)} {key : Value}
theorem Hp.mapro (h : Hp B w0 w H) (l : Nat) (hl : get H l = some (.ro (.map K V b m ok))) : MapAt K V w (fun k => ok k ∧ k ≠ b) b m := h.holds l _ hl
theorem Hp.atro (h : Hp B w0 w H) (l : Nat) {b : Nat} {o : Obj} (hl : get H l = some (.ro (.blk b o))) : w.heap[b]? = some o := h.holds l _ hl
/-- for .. := range m -/
theorem w_range (l lm : Nat) (hF : FrD ds n a L) (hH : Hp B w0 w H) (hn : Nat.blt d n = true) (hl : get H lm = some (.ro (.map K V b m ok))) (ht : P.underlying t = some (.map kt e)) (hx : a.eval x = .map (some b))
    (k' : ∀ a' w' it, FrD ds n a' ((d, .pointer (some ⟨it, 0, Option.none⟩)) :: L) → Hp B w0 w' ((l, .iter K V b it m m Option.none (fun k => ok k ∧ k ≠ b)) :: H) → K' a' w') : Oper.wp P ⟨some d, .range t x, ty, pos, af, gg⟩ a w K' Q := by
  obtain ⟨es, clock, hb, he, hbo⟩ := hH.mapro lm hl
  have hg : (getObj b).run P w = .ok (.map es clock) w := by simp [getObj, Sem.run, hb]
  have hto : To P ⟨some d, .range t x, ty, pos, af, gg⟩ a w (.pointer (some ⟨w.heap.size, 0, Option.none⟩)) (w.alloc (.mapIter (some b) clock #[] clock)) := by
    unfold To; generalize a.eval = ρ at *
    simp [execOp, Instr.range, hx, run_underlying ht, hg, run_newObj_alloc, go_sem]
  have hbs : b < w.heap.size := (Array.getElem?_eq_some_iff.1 hb).1
  have hold : ∀ k, k < w.heap.size → (w.alloc (.mapIter (some b) clock #[] clock)).heap[k]? = w.heap[k]? := fun k hk => (Mods.alloc (fun _ => False) w _).block k hk (fun h => h)
  have hin : ∀ k, (ok k ∧ k ≠ b) → k < w.heap.size := fun k hk => hH.inb lm _ hl k (.inr (.inr hk))
  have hE := he.move (ok' := fun k => (ok k ∧ k ≠ b) ∧ k ≠ w.heap.size) (fun k hk hlt => hold k hlt) (fun k hk hlt => ⟨hk, Nat.ne_of_lt hlt⟩)
  have hE2 : Ents K V (w.alloc (.mapIter (some b) clock #[] clock)) (fun k => (ok k ∧ k ≠ b) ∧ k ≠ w.heap.size) (leftOf es #[]).toList m := by
    have : (leftOf es #[]).toList = es.toList := by unfold leftOf; simp
    rw [this]; exact hE
  refine w_to hF hto rfl hn fun a' hF' => k' a' _ _ hF' ?_
  refine hH.one (Mods.alloc (fun _ => False) w _) l _ (fun k hk => hk.elim) ⟨Nat.ne_of_lt hbs, es, clock, clock, #[], clock, (hold b hbs).trans hb, heap_alloc_new w _, hE, hbo, hbo.lt, ⟨Nat.le_refl _, Nat.le_refl _⟩, hE2, fun p v h => by cases h⟩ (fun k hk => .inr (by rw [show k = w.heap.size from hk]; exact Nat.le_refl _)) (fun k hk => .inr (.inl ⟨lm, _, hl, ?_⟩)) (fun k hk => ?_) (fun k hk hk2 => hk2.2 hk)
  · rcases hk.1 with h | h
    · exact .inl h
    · exact .inr h
  · rcases hk with hk | hk
    · rw [show k = w.heap.size from hk]; simp
    · rcases hk.1 with h | h
      · subst h; simp; omega
      · have := hin k h; simp; omega
theorem w_next {cur : Option ((κ × α) × Value)} (l : Nat) (hF : FrD ds n a L) (hH : Hp B w0 w H) (hn : Nat.blt d n = true) (hl : get H l = some (.iter K V b it m rest cur ok)) (hx : a.eval x = .pointer (some ⟨it, 0, Option.none⟩))
    (k0 : ∀ a', rest = [] → FrD ds n a' ((d, .tuple #[.bool false]) :: L) → Hp B w0 w H → K' a' w)
    (k1 : ∀ a' w' r1 p r2 v, rest = r1 ++ p :: r2 → FrD ds n a' ((d, .tuple #[.bool true, K.val p.1, v]) :: L) → Hp B w0 w' ((l, .iter K V b it m (r1 ++ r2) (some (p, v)) ok) :: H) → K' a' w') : Oper.wp P ⟨some d, .next x false, ty, pos, af, gg⟩ a w K' Q := by
  obtain ⟨hne, es, clock, since, seen, c0, h1, h2, h3, h4, h5, h6, h7, h8⟩ := hH.holds l _ hl
  rcases run_next_at (P := P) w ty it b since c0 seen es clock h2 h1 h5 h6.1 with ⟨hz, hr⟩ | ⟨e', he', w1, hw1, hr⟩
  · have hto : To P ⟨some d, .next x false, ty, pos, af, gg⟩ a w (.tuple #[.bool false]) w := by
      unfold To; generalize a.eval = ρ at *
      simp [execOp, hx, hr, go_sem]
    have hr0 : rest = [] := List.length_eq_zero_iff.1 (by rw [← h7.length]; simpa using hz)
    exact w_to hF hto rfl hn fun a' hF' => k0 a' hr0 hF' hH
  · obtain ⟨l1, l2, hsp⟩ := List.append_of_mem he'
    rw [hsp] at h7
    obtain ⟨r1, p, r2, hrest, hk, hv, hE⟩ := ents_split h7
    have hto : To P ⟨some d, .next x false, ty, pos, af, gg⟩ a w (.tuple #[.bool true, K.val p.1, e'.val]) (setBlock w1 it (.mapIter (some b) since (seen.push e'.born) clock)) := by
      unfold To; generalize a.eval = ρ at *
      simp [execOp, hx, hr, hk, go_sem]
    have hm1 : Mods (fun _ => False) w w1 := by rcases hw1 with rfl | rfl; exact Mods.refl _ _; exact Mods.drew _ _
    have hH1 := hH.same hm1
    have hheap : w1.heap = w.heap := by rcases hw1 with rfl | rfl <;> rfl
    have hmod : Mods (fun k => k = it) w1 (setBlock w1 it (.mapIter (some b) since (seen.push e'.born) clock)) := Mods.setMap w1 it _
    have hrd : ∀ k, (ok k ∧ k ≠ it) → k < w1.heap.size → (setBlock w1 it (.mapIter (some b) since (seen.push e'.born) clock)).heap[k]? = w1.heap[k]? := fun k hk hlt => hmod.block k hlt hk.2
    have tow : ∀ {es : List MapEntry} {m : List (κ × α)}, Ents K V w (fun k => ok k ∧ k ≠ it) es m → Ents K V (setBlock w1 it (.mapIter (some b) since (seen.push e'.born) clock)) (fun k => ok k ∧ k ≠ it) es m := fun h => h.move (fun k hk hlt => (hrd k hk (hheap ▸ hlt)).trans (by rw [hheap])) (fun k hk _ => hk)
    refine w_to hF hto rfl hn fun a' hF' => k1 a' _ r1 p r2 e'.val hrest hF' ?_
    refine hH1.one hmod l _ (fun k hk => ⟨_, hl, hk⟩) ⟨hne, es, clock, since, seen.push e'.born, clock, ?_, ?_, tow h3, h4, h5, ?_, ?_, fun q u hq => ?_⟩ (fun k hk => .inl ⟨_, hl, hk⟩) (fun k hk => .inr (.inl ⟨l, _, hl, hk⟩)) (fun k hk => ?_) (fun k hk hk2 => hk2.2 hk)
    · exact (hmod.block b (by rw [hheap]; exact (Array.getElem?_eq_some_iff.1 h1).1) hne).trans (by rw [hheap]; exact h1)
    · exact setMap_same (by rw [hheap]; exact h2)
    · exact ⟨h6.2, h6.2⟩
    · rw [left_push h4.ne hsp]; exact tow hE
    · cases hq
      exact ⟨e', seen, rfl, rfl, by unfold leftOf at he'; rw [Array.toList_filter] at he'; exact (List.mem_filter.1 he').1, hk, rfl, V.move (fun k hk hlt => (hrd k hk (hheap ▸ hlt)).trans (by rw [hheap])) (fun k hk _ => hk) hv⟩
    · exact Nat.lt_of_lt_of_le (hH1.inb l _ hl k hk) hmod.size
theorem x_entry {p : κ × α} (l : Nat) (hH : Hp B w0 w H) (hl : get H l = some (.iter K V b it m rest (some (p, v)) ok)) (hx : a.eval x = .pointer (some ⟨it, 0, Option.none⟩)) : At P ⟨dst, .entry x, ty, pos, af, gg⟩ a w (.tuple #[K.val p.1, v]) := by
  obtain ⟨hne, es, clock, since, seen, c0, h1, h2, h3, h4, h5, h6, h7, h8⟩ := hH.holds l _ hl
  obtain ⟨e, seen0, rfl, rfl, he, hk, hv, _⟩ := h8 p v rfl
  have hn : (es.toList.map (·.born)).Nodup := List.pairwise_map.2 h4.ne
  have hr := run_entry_at (P := P) w it b since seen0 es c0 e h2 h1 he hn
  unfold At; generalize a.eval = ρ at *
  simp [execOp, hx, hr, hk, hv, go_sem]
theorem Hp.curR {p : κ × α} (hH : Hp B w0 w H) (l : Nat) (hl : get H l = some (.iter K V b it m rest (some (p, v)) ok)) : V.R w (fun k => ok k ∧ k ≠ it) p.2 v := by
  obtain ⟨hne, es, clock, since, seen, c0, h1, h2, h3, h4, h5, h6, h7, h8⟩ := hH.holds l _ hl
  obtain ⟨e, seen0, rfl, rfl, he, hk, hv, h⟩ := h8 p v rfl
  exact h
/-- Any label's thing is only read from now on. -/
theorem Hp.roAny (h : Hp B w0 w H) (l : Nat) {X : Asn} (hl : get H l = some X) : Hp B w0 w ((l, X.ro) :: H) :=
  h.one (Mods.refl (fun _ => False) w) l _ (fun k hk => hk.elim) (h.holds l X hl) (fun k hk => hk.elim) (fun k hk => hk.elim (fun h1 => .inl ⟨X, hl, h1⟩) (fun h1 => .inr (.inl ⟨l, X, hl, h1⟩)))
    (fun k hk => hk.elim (fun h => h.elim) (fun h1 => h.inb l X hl k h1)) (fun k hk => hk.elim)
theorem w_mapDel0 (l : Nat) {k : κ} {t2 : TypeId} (hH : Hp B w0 w H) (hl : get H l = some (.map K V b m ok)) (ht : P.underlying t = some (.map kt e)) (hk : P.underlying kt = some K.desc)
    (hx : a.eval x = .map (some b)) (hy : a.eval y = K.val k)
    (k' : ∀ w', Hp B w0 w' ((l, .map K V b (mdel m k) ok) :: H) → K' a w') : Oper.wp P ⟨Option.none, .call ⟨.builtin .delete, #[x, y], #[t, t2]⟩, ty, pos, af, gg⟩ a w K' Q := by
  obtain ⟨es, clock, hb, he, hbo⟩ := hH.map l hl
  have hg : (getObj b).run P w = .ok (.map es clock) w := by simp [getObj, Sem.run, hb]
  rcases Ents.find k 0 he with ⟨h1, h2, _, h3⟩ | ⟨j, e', x', h1, hj, hke, h4, h5, _, h6⟩
  · have hs : To P ⟨Option.none, .call ⟨.builtin .delete, #[x, y], #[t, t2]⟩, ty, pos, af, gg⟩ a w (.tuple #[]) { w with heap := w.heap.setIfInBounds b (.map es clock) } := by
      unfold To; generalize a.eval = ρ at *
      simp [execOp, resolve, invoke, builtin, Builtin.delete_, hx, hy, run_underlying ht, hg, K.plain P kt k _ w hk, run_find hk k h2, run_setMap hb, go_sem]
    unfold Oper.wp
    rw [show (execOp a.eval _).run P w = .ok (.value _) _ from hs, Oper.upon_value]
    exact k' _ (hH.setMap l hl h3 hbo (fun k hk => .inl hk))
  · have hs : To P ⟨Option.none, .call ⟨.builtin .delete, #[x, y], #[t, t2]⟩, ty, pos, af, gg⟩ a w (.tuple #[]) { w with heap := w.heap.setIfInBounds b (.map (es.eraseIdxIfInBounds j) clock) } := by
      unfold To; generalize a.eval = ρ at *
      rw [Nat.zero_add] at h5
      simp [execOp, resolve, invoke, builtin, Builtin.delete_, hx, hy, run_underlying ht, hg, K.plain P kt k _ w hk, run_find hk k h5, run_setMap hb, go_sem]
    have e : (es.eraseIdxIfInBounds j).toList = es.toList.eraseIdx j := by simp
    unfold Oper.wp
    rw [show (execOp a.eval _).run P w = .ok (.value _) _ from hs, Oper.upon_value]
    exact k' _ (hH.setMap l hl (by rw [e]; exact h6) (by rw [e]; exact born_erase hbo j) (fun k hk => .inl hk))
theorem eqIn_ptr (ht : P.underlying t = some (.pointer e)) (d : Nat) (A : Option Addr) : (Op.equalIn (d + 1) t (.pointer A) (.pointer Option.none)).run P w = .ok A.isNone w := by
  cases A <;> simp [Op.equalIn, run_underlying ht, go_sem]
theorem eq_ptr (ht : P.underlying t = some (.pointer e)) (A : Option Addr) : (Op.equal t (.pointer A) (.pointer Option.none)).run P w = .ok A.isNone w := eqIn_ptr ht 9999 A
/-- p == nil, of pointers -/
theorem x_ptrnil {pa : Option Addr} {t' : TypeId} (ht : P.underlying t = some (.pointer e)) (hx : a.eval x = .pointer pa) (hy : a.eval y = .pointer Option.none) : At P ⟨dst, .binOp .eql t x y t', ty, pos, af, gg⟩ a w (.bool pa.isNone) := by
  unfold At; generalize a.eval = ρ at *
  simp [execOp, hx, hy, binOp, eqGuard, eq_ptr ht, go_sem]
theorem x_ptrne {pa : Option Addr} {t' : TypeId} (ht : P.underlying t = some (.pointer e)) (hx : a.eval x = .pointer pa) (hy : a.eval y = .pointer Option.none) : At P ⟨dst, .binOp .neq t x y t', ty, pos, af, gg⟩ a w (.bool (!pa.isNone)) := by
  unfold At; generalize a.eval = ρ at *
  simp [execOp, hx, hy, binOp, eqGuard, eq_ptr ht, go_sem]
theorem x_slice3 {α : Type} {E : Rep α} {xs : List α} {A : Option Addr} {c : Nat} {z : Value} {by' : Nat} {ag : Bool} {q q' : IntKind} {h2 m2 : Int} {y' : Operand} (ht : P.underlying t = some (.slice e)) (hT : TyI P e z E.n by' ag) (hx : a.eval x = .slice A xs.length c) (hy : a.eval y = .int q h2) (hz : a.eval y' = .int q' m2) (h0 : 0 ≤ h2) (h1 : h2 ≤ m2) (h3 : m2 ≤ c) (hl : h2 ≤ xs.length) :
    At P ⟨dst, .slice t x Option.none (some y) (some y'), ty, pos, af, gg⟩ a w (.slice A (xs.take h2.toNat).length m2.toNat) := by
  unfold At; generalize a.eval = ρ at *
  have hlen : (xs.take h2.toNat).length = h2.toNat := by rw [List.length_take]; omega
  have hm0 : 0 ≤ m2 := by omega
  have hmt : (m2.toNat : Int) = m2 := by omega
  simp [execOp, Instr.sliceAt, Instr.slice, Instr.sliceBounds, Instr.sliceBound, asIntOf, hx, hy, hz, run_underlying ht, hT.size, h0, hm0, h3, hmt, h1, hlen, go_sem]
  all_goals (try (cases A <;> simp [Addr.add]))
theorem x_fieldV {fs : Array Field} {f : Field} {cs : Array Value} {i : Nat} {z : Value} {nf by' : Nat} (hs : P.underlying t = some (.struct fs)) (hf : fs[i]? = some f) (h : TyI P f.type z nf by' false) (hx : a.eval x = .agg cs) (hv : cs[f.offset]? = some v) : At P ⟨dst, .field t x i, ty, pos, af, gg⟩ a w v := by
  unfold At; generalize a.eval = ρ at *
  simp [execOp, Instr.field, hx, run_underlying hs, hf, asAgg, part, h.isAgg, hv, go_sem]
end
/-! ### Lookups whose answer is known beforehand -/
section
variable {κ α : Type} [DecidableEq κ] {K : KeyR κ} {P : Program} {a : Act} {w w0 w' : World} {v z : Value} {B : Nat → Prop} {H HS : List (Nat × Asn)} {dst : Option Tmp} {ty : TypeId} {pos : String} {af : Array Edge} {x y u : Operand} {t kt e : TypeId} {n d : Nat} {gg : Option (Nat × Bool)} {m rest : List (κ × α)} {b it : Nat} {ok : Nat → Prop} {L : List (Nat × Value)} {key : Value}
theorem x_lookF {enc : α → Value} {x0 : α} {k : κ} {c : Bool} (h : MapAt K (VRep.flat enc) w ok b m) (ht : P.underlying t = some (.map kt e)) (hk : P.underlying kt = some K.desc) (hz : ∀ w, (zeroValue e).run P w = .ok (enc x0) w) (hx : a.eval x = .map (some b)) (hy : a.eval y = K.val k) :
    At P ⟨dst, .lookup t x y c, ty, pos, af, gg⟩ a w (if c then .tuple #[enc ((al m k).getD x0), .bool (al m k).isSome] else enc ((al m k).getD x0)) := by
  obtain ⟨v, hv, hl⟩ := h.look ht hk (hz w) (x0 := x0) rfl k
  have hv' : v = enc ((al m k).getD x0) := hv
  subst hv'
  exact x_lookup hl hx hy
/-- What a map, which is only read, has for a key. -/
def Asn.lk (K : KeyR κ) (b : Nat) (k : κ) (r : Option Value) : Asn :=
  ⟨fun _ => False, fun i => i = b, fun w => ∃ es clock s, w.heap[b]? = some (.map es clock) ∧ Instr.findNow K.desc (K.val k) es.toList 0 = some s ∧ s.map (·.2) = r, fun {w w'} h hw => by
    obtain ⟨es, clock, s, h1, h2⟩ := hw
    exact ⟨es, clock, s, (h b (.inr rfl)).trans h1, h2⟩⟩
theorem Hp.lk {V : VRep α} (h : Hp B w0 w H) (l lm : Nat) (hl : get H lm = some (.ro (.map K V b m ok))) (k : κ) : ∃ r, Hp B w0 w ((l, .lk K b k r) :: H) ∧ r.isSome = (al m k).isSome ∧ ∀ v, r = some v → ∃ x, al m k = some x ∧ V.R w (fun k => ok k ∧ k ≠ b) x v := by
  obtain ⟨es, clock, hb, he, hbo⟩ := h.mapro lm hl
  rcases Ents.find k 0 he with ⟨h1, h2, _⟩ | ⟨j, e', x, h1, _, _, h4, h5, _⟩
  · exact ⟨none, h.addro l _ (fun _ hk => hk) ⟨es, clock, _, hb, h2, rfl⟩ (fun i hi => ⟨lm, _, hl, .inl hi⟩), by rw [h1]; rfl, fun v hv => by cases hv⟩
  · exact ⟨some e'.val, h.addro l _ (fun _ hk => hk) ⟨es, clock, _, hb, h5, rfl⟩ (fun i hi => ⟨lm, _, hl, .inl hi⟩), by rw [h1]; rfl, fun v hv => ⟨x, h1, by cases hv; exact h4⟩⟩
theorem x_lookL {r : Option Value} {k : κ} {c : Bool} (h : (Asn.lk K b k r).holds w) (ht : P.underlying t = some (.map kt e)) (hk : P.underlying kt = some K.desc) (hz : ∀ w, (zeroValue e).run P w = .ok z w) (hx : a.eval x = .map (some b)) (hy : a.eval y = K.val k) :
    At P ⟨dst, .lookup t x y c, ty, pos, af, gg⟩ a w (if c then .tuple #[r.getD z, .bool r.isSome] else r.getD z) := by
  obtain ⟨es, clock, s, hb, hf, hs⟩ := h
  have hg : (getObj b).run P w = .ok (.map es clock) w := by simp [getObj, Sem.run, hb]
  unfold At; generalize a.eval = ρ at *
  cases s with
  | none =>
    cases hs
    simp [execOp, Instr.lookup, hx, hy, run_underlying ht, hg, K.plain P kt k _ w hk, run_find hk k hf, hz, go_sem]
  | some q =>
    cases hs
    simp [execOp, Instr.lookup, hx, hy, run_underlying ht, hg, K.plain P kt k _ w hk, run_find hk k hf, hz, go_sem]
theorem SL.atro {b : Nat} {ob : Obj} (h : SL HS w) (l : Nat) (hl : get HS l = some (.ro (.blk b ob))) : w.heap[b]? = some ob := h l _ hl
end
section
variable {P : Program} {fn : Func} {a : Act} {w : World} {n : Nat} {L : List (Nat × Value)} {v u : Value} {ds : List Deferred}
/-- A struct in a cell, and a value. -/
theorem resct (hF : FrD ds n a L) {t t' : Nat} {ty : TypeId} {b : Nat} {cs : Array Value} {T : TypeId} {fz : Nat × Nat} {z : Value} {k by' : Nat} (hr : fn.results = #[.cell t ty, .tmp t']) (hv : get L t = some (.pointer (some ⟨b, 0, none⟩))) (hu : get L t' = some u) (hb : w.heap[b]? = some (.cells cs T fz))
    (h : TyI P ty z k by' true) (hn : cs.size = k) : (results fn a.tmps).run P w = .ok (.tuple #[.agg cs, u]) w := by
  have h3 : a.tmps[t]?.getD undef = .pointer (some ⟨b, 0, none⟩) := by simpa using hF.getD t hv
  have h4 : a.tmps[t']?.getD undef = u := by simpa using hF.getD t' hu
  obtain ⟨d, hd, he⟩ := h.und
  obtain ⟨i, hi, _, hz, _⟩ := h.parts
  have hl := run_loadVar_row (P := P) w b T ty cs fz d hb hd (by cases d <;> simp_all) (by rw [hi]; simp [hz, hn])
  simp [results, hr, h3, h4, asAddr, hl]
end
end Go.Proofs.Ytlcnoibjhmflnaa.Sx
