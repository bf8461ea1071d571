/- Timers, changes, messages: what is right, and their bytes, plain. -/
import Derived.Test.YtiiklnghnifmjaaDoorDatZu
import Derived.Test.YtiiklnghnifmjaaDoorCrcDZu
set_option linter.unusedVariables false
set_option linter.unusedSimpArgs false
namespace Go.Proofs.YtiiklnghnifmjaaDoor.Act
open Go.RowKit Go.Proofs.YtiiklnghnifmjaaDoor.Sx Go.Proofs.YtiiklnghnifmjaaDoor.Cod Go.Proofs.YtiiklnghnifmjaaDoor.Num
def U64 (n : Int) : Prop := 0 ≤ n ∧ n < 18446744073709551616
instance (n : Int) : Decidable (U64 n) := by unfold U64; infer_instance
structure TimerB (t : TimerD) : Prop where
  name : Byte t.name
  ver : Fits t.ver
  tick : U64 t.tick
  every : U64 t.every
  steps : ∀ s ∈ t.steps, StepB s
structure ChangeB (c : ChangeD) : Prop where
  kind : Fits c.kind
  key : Byte c.key
  value : Byte c.value
  timer : TimerB c.timer
structure MessageB (m : MessageD) : Prop where
  kind : Fits m.kind
  src : Fits m.src
  dst : Fits m.dst
  tx : Fits m.tx
  nodes : ∀ n ∈ m.nodes, Fits n
  changes : ∀ c ∈ m.changes, ChangeB c
/-! ### what is right -/
def bareT (t : TimerD) : Bool := decide (t.name.length = 0) && (decide (t.ver = 0) && (decide (t.tick = 0) && (decide (t.every = 0) && decide (t.steps.length = 0))))
def rightT (t : TimerD) : Bool := decide (encE t.steps = 0) && (decide (1 ≤ t.name.length) && (decide (t.name.length ≤ 16) && (decide (1 ≤ t.ver) && (decide (t.ver ≤ 1099511627776) && (decide (t.tick ≤ 4611686018427387904) && decide (t.every ≤ 4611686018427387904))))))
def rightC (c : ChangeD) : Bool :=
  if c.kind = 1 then nameI c.key && bareT c.timer && decide (c.value.length ≤ 60)
  else if c.kind = 2 ∨ c.kind = 4 then nameI c.key && bareT c.timer && decide (c.value.length = 0)
  else if c.kind = 3 then decide (c.key.length = 0) && decide (c.value.length = 0) && rightT c.timer else false
theorem rightT_parts {t : TimerD} (h : rightT t = true) : encE t.steps = 0 ∧ 1 ≤ t.name.length ∧ t.name.length ≤ 16 ∧ 1 ≤ t.ver ∧ t.ver ≤ 1099511627776 ∧ t.tick ≤ 4611686018427387904 ∧ t.every ≤ 4611686018427387904 := by
  unfold rightT at h
  simpa using h
theorem bareT_parts {t : TimerD} (h : bareT t = true) : t = ⟨[], 0, 0, 0, []⟩ := by
  unfold bareT at h
  obtain ⟨n, v, a, e, s⟩ := t
  simp at h
  obtain ⟨rfl, rfl, rfl, rfl, rfl⟩ := h
  rfl
theorem rightC_parts {c : ChangeD} (h : rightC c = true) :
    (c.kind = 1 ∧ nameI c.key = true ∧ bareT c.timer = true ∧ c.value.length ≤ 60) ∨ ((c.kind = 2 ∨ c.kind = 4) ∧ nameI c.key = true ∧ bareT c.timer = true ∧ c.value = []) ∨ (c.kind = 3 ∧ c.key = [] ∧ c.value = [] ∧ rightT c.timer = true) := by
  unfold rightC at h
  split at h
  · simp at h; exact .inl ⟨by assumption, h.1.1, h.1.2, h.2⟩
  · split at h
    · simp at h; exact .inr (.inl ⟨by assumption, h.1.1, h.1.2, h.2⟩)
    · split at h
      · simp at h; exact .inr (.inr ⟨by assumption, h.1.1, h.1.2, h.2⟩)
      · cases h
theorem nameI_parts {xs : List Int} (h : nameI xs = true) : 1 ≤ xs.length ∧ xs.length ≤ 16 := by unfold nameI at h; simpa using h
/-! ### a change's bytes -/
def bI (n : Int) : List Int := bytesI n.toNat
def chgF (c : ChangeD) : List Fld :=
  [(1, [c.kind])] ++ (if c.kind = 3 then [(4, c.timer.name), (5, bI c.timer.ver), (6, bI c.timer.tick), (7, bI c.timer.every), (8, encT c.timer.steps)] else if c.kind = 1 then [(2, c.key), (3, c.value)] else [(2, c.key)])
def encC (c : ChangeD) : List Int := if rightC c then encI (chgF c) else []
def encCE (c : ChangeD) : Int := if rightC c then 0 else 121
theorem bI_len (n : Int) : (bI n).length ≤ 8 := by unfold bI; rw [len_bytes]; exact nb_le _
theorem encF_len {s : StepD} (h : rightS s = true) (hb : StepB s) : (encF (fldS s)).length ≤ 80 := by
  have h1 := key_len h
  have h2 := restS_len h hb
  unfold encF fldS
  simp only [List.length_append, List.length_cons, List.length_nil]
  omega
theorem encT_320 {l : List StepD} (hb : ∀ s ∈ l, StepB s) : (encT l).length ≤ 320 := by
  unfold encT
  split
  · rename_i h
    obtain ⟨h4, hr⟩ := enc0 h
    have key : ∀ l : List StepD, l.all rightS = true → (∀ s ∈ l, StepB s) → (encI (l.map fldS)).length ≤ 80 * l.length := by
      intro l
      induction l with
      | nil => intro _ _; simp [encI]
      | cons x l ih =>
        intro hr hb
        rw [List.all_cons, Bool.and_eq_true] at hr
        have h1 := encF_len hr.1 (hb x (by simp))
        have h2 := ih hr.2 (fun s hs => hb s (by simp [hs]))
        have e : encI ((x :: l).map fldS) = encF (fldS x) ++ encI (l.map fldS) := by simp [encI]
        rw [e, List.length_append, List.length_cons]
        omega
    have := key l hr hb
    omega
  · simp
theorem okF_of {t : Int} {d : List Int} (h1 : 1 ≤ t) (h2 : t ≤ 255) (h3 : d.length ≤ 2000) : okF (t, d) = true := by
  unfold okF; rw [decide_eq_true h1, decide_eq_true h2, decide_eq_true h3]; rfl
theorem chgF_ok {c : ChangeD} (h : rightC c = true) (hb : ChangeB c) : (chgF c).all okF = true ∧ (chgF c).length ≤ 6 := by
  have h3 := encT_320 hb.timer.steps
  have b1 := bI_len c.timer.ver; have b2 := bI_len c.timer.tick; have b3 := bI_len c.timer.every
  unfold chgF
  rcases rightC_parts h with ⟨hk, hn, _, hv⟩ | ⟨hk, hn, _, _⟩ | ⟨hk, _, _, ht⟩
  · have := nameI_parts hn
    rw [if_neg (by omega), if_pos hk]
    simp only [List.all_append, List.all_cons, List.all_nil, Bool.and_true, Bool.and_eq_true]
    exact ⟨⟨okF_of (by decide) (by decide) (by simp), okF_of (by decide) (by decide) (by omega), okF_of (by decide) (by decide) (by omega)⟩, by simp⟩
  · have := nameI_parts hn
    rw [if_neg (by omega), if_neg (by omega)]
    simp only [List.all_append, List.all_cons, List.all_nil, Bool.and_true, Bool.and_eq_true]
    exact ⟨⟨okF_of (by decide) (by decide) (by simp), okF_of (by decide) (by decide) (by omega)⟩, by simp⟩
  · obtain ⟨_, _, hn, _⟩ := rightT_parts ht
    rw [if_pos hk]
    simp only [List.all_append, List.all_cons, List.all_nil, Bool.and_true, Bool.and_eq_true]
    exact ⟨⟨okF_of (by decide) (by decide) (by simp), okF_of (by decide) (by decide) (by omega), okF_of (by decide) (by decide) (by omega), okF_of (by decide) (by decide) (by omega), okF_of (by decide) (by decide) (by omega), okF_of (by decide) (by decide) (by omega)⟩, by simp⟩
theorem encC_encR {c : ChangeD} (h : rightC c = true) (hb : ChangeB c) : encR (chgF c) = some (encC c) := by
  obtain ⟨h1, h2⟩ := chgF_ok h hb
  unfold encC
  rw [if_pos h]
  exact encR_all (by omega) h1
theorem encC_len {c : ChangeD} (hb : ChangeB c) : (encC c).length ≤ 500 := by
  have h3 := encT_320 hb.timer.steps
  have b1 := bI_len c.timer.ver; have b2 := bI_len c.timer.tick; have b3 := bI_len c.timer.every
  unfold encC
  split
  · rename_i h
    unfold chgF
    rcases rightC_parts h with ⟨hk, hn, _, hv⟩ | ⟨hk, hn, _, _⟩ | ⟨hk, _, _, ht⟩
    · have := nameI_parts hn
      rw [if_neg (by omega), if_pos hk]
      simp [encI, encF]; omega
    · have := nameI_parts hn
      rw [if_neg (by omega), if_neg (by omega)]
      simp [encI, encF]; omega
    · obtain ⟨_, _, hn, _⟩ := rightT_parts ht
      rw [if_pos hk]
      simp [encI, encF]; omega
  · simp
theorem rightC_kind {c : ChangeD} (h : rightC c = true) : 0 ≤ c.kind ∧ c.kind < 256 := by rcases rightC_parts h with ⟨hk, _⟩ | ⟨hk, _⟩ | ⟨hk, _⟩ <;> omega
theorem rightC_3 {c : ChangeD} (h : rightC c = true) (hk : c.kind = 3) : rightT c.timer = true := by
  rcases rightC_parts h with ⟨hk', _⟩ | ⟨hk', _⟩ | ⟨_, _, _, ht⟩
  · omega
  · omega
  · exact ht
theorem rightC_1 {c : ChangeD} (h : rightC c = true) (hk : c.kind = 1) : nameI c.key = true ∧ c.value.length ≤ 60 := by
  rcases rightC_parts h with ⟨_, hn, _, hv⟩ | ⟨hk', _⟩ | ⟨hk', _⟩
  · exact ⟨hn, hv⟩
  · omega
  · omega
theorem rightC_2 {c : ChangeD} (h : rightC c = true) (h3 : ¬ c.kind = 3) (h1 : ¬ c.kind = 1) : nameI c.key = true := by
  rcases rightC_parts h with ⟨hk', _⟩ | ⟨_, hn, _⟩ | ⟨hk', _⟩
  · omega
  · exact hn
  · omega
theorem chgF_3 {c : ChangeD} (h : c.kind = 3) : ((((([((1, [c.kind]) : Fld)] ++ [((4, c.timer.name) : Fld)]) ++ [((5, bI c.timer.ver) : Fld)]) ++ [((6, bI c.timer.tick) : Fld)]) ++ [((7, bI c.timer.every) : Fld)]) ++ [((8, encT c.timer.steps) : Fld)]) = chgF c := by unfold chgF; rw [if_pos h]; rfl
theorem chgF_1 {c : ChangeD} (h : c.kind = 1) : (([((1, [c.kind]) : Fld)] ++ [((2, c.key) : Fld)]) ++ [((3, c.value) : Fld)]) = chgF c := by unfold chgF; rw [if_neg (by omega), if_pos h]; rfl
theorem chgF_2 {c : ChangeD} (h3 : ¬ c.kind = 3) (h1 : ¬ c.kind = 1) : ([((1, [c.kind]) : Fld)] ++ [((2, c.key) : Fld)]) = chgF c := by unfold chgF; rw [if_neg h3, if_neg h1]
theorem encC_no {c : ChangeD} (h : rightC c = false) : encC c = [] := by unfold encC; rw [h]; rfl
theorem encCE_no {c : ChangeD} (h : rightC c = false) : encCE c = 121 := by unfold encCE; rw [h]; rfl
theorem encCE_yes {c : ChangeD} (h : rightC c = true) : encCE c = 0 := by unfold encCE; rw [h]; rfl
/-! ### messages -/
def nodeI (n : Int) : Bool := decide (0 ≤ n) && decide (n < 8)
def nodesFrom : Int → List Int → Bool
  | _, [] => true
  | last, n :: r => (decide (last < n) && nodeI n) && nodesFrom n r
def le4 (s : Int) : List Int := [s % 256, s / 256 % 256, s / 65536 % 256, s / 16777216 % 256]
structure RM (m : MessageD) : Prop where
  kind : 1 ≤ m.kind ∧ m.kind ≤ 7
  src : 0 ≤ m.src ∧ m.src < 8
  dst : 0 ≤ m.dst ∧ m.dst < 8
  tx : 1 ≤ m.tx ∧ m.tx ≤ 1099511627776
  prep : m.kind = 1 → m.dst ∈ m.nodes ∧ nodesFrom (-1) m.nodes = true ∧ m.changes.length ≤ 32 ∧ m.changes.all rightC = true
  bare : ¬ m.kind = 1 → m.nodes = [] ∧ m.changes = []
theorem encI_len {xs : List Fld} : (encI xs).length = (xs.map fun f => 3 + f.2.length).sum := by
  unfold encI
  rw [List.length_flatMap]
  congr 1
  refine List.map_congr_left fun f _ => ?_
  unfold encF; simp; omega
theorem shrU (q : Int) : q.fdiv (2 ^ (min (Int.toNat 8) 32)) = q / 256 ∧ q.fdiv (2 ^ (min (Int.toNat 16) 32)) = q / 65536 ∧ q.fdiv (2 ^ (min (Int.toNat 24) 32)) = q / 16777216 := by
  refine ⟨?_, ?_, ?_⟩ <;> exact Int.fdiv_eq_ediv_of_nonneg _ (by decide)
/-! ### how long a message is -/
/-! ### alike just if the bytes are -/
end Go.Proofs.YtiiklnghnifmjaaDoor.Act
