/- Timers, changes, messages: what is right, and their bytes, plain. -/
import Derived.Test.YtiiklnghnifmjaaGreatDoorDatZc
import Derived.Test.YtiiklnghnifmjaaGreatDoorCrcDZc
set_option linter.unusedVariables false
set_option linter.unusedSimpArgs false
namespace Go.Proofs.YtiiklnghnifmjaaGreatDoor.Act
open Go.RowKit Go.Proofs.YtiiklnghnifmjaaGreatDoor.Sx Go.Proofs.YtiiklnghnifmjaaGreatDoor.Cod Go.Proofs.YtiiklnghnifmjaaGreatDoor.Num
def U64 (n : Int) : Prop := 0 ≤ n ∧ n < 18446744073709551616
instance (n : Int) : Decidable (U64 n) := by unfold U64; infer_instance
structure TimerB (t : TimerD) : Prop where
  name : Byte t.name
  ver : Fits t.ver
  tick : U64 t.tick
  every : U64 t.every
  steps : ∀ s ∈ t.steps, StepB s
structure ChangeB (c : ChangeD) : Prop where
  kind : Fits c.kind
  key : Byte c.key
  value : Byte c.value
  timer : TimerB c.timer
structure MessageB (m : MessageD) : Prop where
  kind : Fits m.kind
  src : Fits m.src
  dst : Fits m.dst
  tx : Fits m.tx
  nodes : ∀ n ∈ m.nodes, Fits n
  changes : ∀ c ∈ m.changes, ChangeB c
/-! ### what is right -/
def bareT (t : TimerD) : Bool := decide (t.name.length = 0) && (decide (t.ver = 0) && (decide (t.tick = 0) && (decide (t.every = 0) && decide (t.steps.length = 0))))
def rightT (t : TimerD) : Bool := decide (encE t.steps = 0) && (decide (1 ≤ t.name.length) && (decide (t.name.length ≤ 16) && (decide (1 ≤ t.ver) && (decide (t.ver ≤ 1099511627776) && (decide (t.tick ≤ 4611686018427387904) && decide (t.every ≤ 4611686018427387904))))))
def rightC (c : ChangeD) : Bool :=
  if c.kind = 1 then nameI c.key && bareT c.timer && decide (c.value.length ≤ 60)
  else if c.kind = 2 ∨ c.kind = 4 then nameI c.key && bareT c.timer && decide (c.value.length = 0)
  else if c.kind = 3 then decide (c.key.length = 0) && decide (c.value.length = 0) && rightT c.timer else false
theorem rightT_parts {t : TimerD} (h : rightT t = true) : encE t.steps = 0 ∧ 1 ≤ t.name.length ∧ t.name.length ≤ 16 ∧ 1 ≤ t.ver ∧ t.ver ≤ 1099511627776 ∧ t.tick ≤ 4611686018427387904 ∧ t.every ≤ 4611686018427387904 := by
  unfold rightT at h
  simpa using h
theorem bareT_parts {t : TimerD} (h : bareT t = true) : t = ⟨[], 0, 0, 0, []⟩ := by
  unfold bareT at h
  obtain ⟨n, v, a, e, s⟩ := t
  simp at h
  obtain ⟨rfl, rfl, rfl, rfl, rfl⟩ := h
  rfl
theorem rightC_parts {c : ChangeD} (h : rightC c = true) :
    (c.kind = 1 ∧ nameI c.key = true ∧ bareT c.timer = true ∧ c.value.length ≤ 60) ∨ ((c.kind = 2 ∨ c.kind = 4) ∧ nameI c.key = true ∧ bareT c.timer = true ∧ c.value = []) ∨ (c.kind = 3 ∧ c.key = [] ∧ c.value = [] ∧ rightT c.timer = true) := by
  unfold rightC at h
  split at h
  · simp at h; exact .inl ⟨by assumption, h.1.1, h.1.2, h.2⟩
  · split at h
    · simp at h; exact .inr (.inl ⟨by assumption, h.1.1, h.1.2, h.2⟩)
    · split at h
      · simp at h; exact .inr (.inr ⟨by assumption, h.1.1, h.1.2, h.2⟩)
      · cases h
theorem nameI_parts {xs : List Int} (h : nameI xs = true) : 1 ≤ xs.length ∧ xs.length ≤ 16 := by unfold nameI at h; simpa using h
/-! ### a change's bytes -/
def bI (n : Int) : List Int := bytesI n.toNat
def chgF (c : ChangeD) : List Fld :=
  [(1, [c.kind])] ++ (if c.kind = 3 then [(4, c.timer.name), (5, bI c.timer.ver), (6, bI c.timer.tick), (7, bI c.timer.every), (8, encT c.timer.steps)] else if c.kind = 1 then [(2, c.key), (3, c.value)] else [(2, c.key)])
def encC (c : ChangeD) : List Int := if rightC c then encI (chgF c) else []
def encCE (c : ChangeD) : Int := if rightC c then 0 else 121
theorem bI_len (n : Int) : (bI n).length ≤ 8 := by unfold bI; rw [len_bytes]; exact nb_le _
theorem bI_byte (n : Int) : Byte (bI n) := bts_bytes _ _
theorem encF_len {s : StepD} (h : rightS s = true) (hb : StepB s) : (encF (fldS s)).length ≤ 80 := by
  have h1 := key_len h
  have h2 := restS_len h hb
  unfold encF fldS
  simp only [List.length_append, List.length_cons, List.length_nil]
  omega
theorem encT_320 {l : List StepD} (hb : ∀ s ∈ l, StepB s) : (encT l).length ≤ 320 := by
  unfold encT
  split
  · rename_i h
    obtain ⟨h4, hr⟩ := enc0 h
    have key : ∀ l : List StepD, l.all rightS = true → (∀ s ∈ l, StepB s) → (encI (l.map fldS)).length ≤ 80 * l.length := by
      intro l
      induction l with
      | nil => intro _ _; simp [encI]
      | cons x l ih =>
        intro hr hb
        rw [List.all_cons, Bool.and_eq_true] at hr
        have h1 := encF_len hr.1 (hb x (by simp))
        have h2 := ih hr.2 (fun s hs => hb s (by simp [hs]))
        have e : encI ((x :: l).map fldS) = encF (fldS x) ++ encI (l.map fldS) := by simp [encI]
        rw [e, List.length_append, List.length_cons]
        omega
    have := key l hr hb
    omega
  · simp
theorem okF_of {t : Int} {d : List Int} (h1 : 1 ≤ t) (h2 : t ≤ 255) (h3 : d.length ≤ 2000) : okF (t, d) = true := by
  unfold okF; rw [decide_eq_true h1, decide_eq_true h2, decide_eq_true h3]; rfl
theorem chgF_ok {c : ChangeD} (h : rightC c = true) (hb : ChangeB c) : (chgF c).all okF = true ∧ (chgF c).length ≤ 6 := by
  have h3 := encT_320 hb.timer.steps
  have b1 := bI_len c.timer.ver; have b2 := bI_len c.timer.tick; have b3 := bI_len c.timer.every
  unfold chgF
  rcases rightC_parts h with ⟨hk, hn, _, hv⟩ | ⟨hk, hn, _, _⟩ | ⟨hk, _, _, ht⟩
  · have := nameI_parts hn
    rw [if_neg (by omega), if_pos hk]
    simp only [List.all_append, List.all_cons, List.all_nil, Bool.and_true, Bool.and_eq_true]
    exact ⟨⟨okF_of (by decide) (by decide) (by simp), okF_of (by decide) (by decide) (by omega), okF_of (by decide) (by decide) (by omega)⟩, by simp⟩
  · have := nameI_parts hn
    rw [if_neg (by omega), if_neg (by omega)]
    simp only [List.all_append, List.all_cons, List.all_nil, Bool.and_true, Bool.and_eq_true]
    exact ⟨⟨okF_of (by decide) (by decide) (by simp), okF_of (by decide) (by decide) (by omega)⟩, by simp⟩
  · obtain ⟨_, _, hn, _⟩ := rightT_parts ht
    rw [if_pos hk]
    simp only [List.all_append, List.all_cons, List.all_nil, Bool.and_true, Bool.and_eq_true]
    exact ⟨⟨okF_of (by decide) (by decide) (by simp), okF_of (by decide) (by decide) (by omega), okF_of (by decide) (by decide) (by omega), okF_of (by decide) (by decide) (by omega), okF_of (by decide) (by decide) (by omega), okF_of (by decide) (by decide) (by omega)⟩, by simp⟩
theorem chgF_byte {c : ChangeD} (h : rightC c = true) (hb : ChangeB c) : ∀ f ∈ chgF c, Byte f.2 := by
  have hk : 0 ≤ c.kind ∧ c.kind < 256 := by rcases rightC_parts h with ⟨hk, _⟩ | ⟨hk, _⟩ | ⟨hk, _⟩ <;> omega
  have h1 : Byte [c.kind] := fun n hn => by rw [List.mem_singleton] at hn; subst hn; exact hk
  unfold chgF
  intro f hf
  rw [List.mem_append] at hf
  rcases hf with hf | hf
  · rw [List.mem_singleton] at hf; subst hf; exact h1
  · split at hf
    · simp only [List.mem_cons, List.not_mem_nil, or_false] at hf
      rcases hf with rfl | rfl | rfl | rfl | rfl
      · exact hb.timer.name
      · exact bI_byte _
      · exact bI_byte _
      · exact bI_byte _
      · exact encT_byte hb.timer.steps
    · split at hf
      · simp only [List.mem_cons, List.not_mem_nil, or_false] at hf
        rcases hf with rfl | rfl
        · exact hb.key
        · exact hb.value
      · rw [List.mem_singleton] at hf; subst hf; exact hb.key
theorem encC_encR {c : ChangeD} (h : rightC c = true) (hb : ChangeB c) : encR (chgF c) = some (encC c) := by
  obtain ⟨h1, h2⟩ := chgF_ok h hb
  unfold encC
  rw [if_pos h]
  exact encR_all (by omega) h1
theorem encC_byte {c : ChangeD} (hb : ChangeB c) : Byte (encC c) := by
  unfold encC
  split
  · rename_i h
    exact byt_enc (chgF_ok h hb).1 (chgF_byte h hb)
  · exact Byte.nil
theorem encC_len {c : ChangeD} (hb : ChangeB c) : (encC c).length ≤ 500 := by
  have h3 := encT_320 hb.timer.steps
  have b1 := bI_len c.timer.ver; have b2 := bI_len c.timer.tick; have b3 := bI_len c.timer.every
  unfold encC
  split
  · rename_i h
    unfold chgF
    rcases rightC_parts h with ⟨hk, hn, _, hv⟩ | ⟨hk, hn, _, _⟩ | ⟨hk, _, _, ht⟩
    · have := nameI_parts hn
      rw [if_neg (by omega), if_pos hk]
      simp [encI, encF]; omega
    · have := nameI_parts hn
      rw [if_neg (by omega), if_neg (by omega)]
      simp [encI, encF]; omega
    · obtain ⟨_, _, hn, _⟩ := rightT_parts ht
      rw [if_pos hk]
      simp [encI, encF]; omega
  · simp
theorem rightC_kind {c : ChangeD} (h : rightC c = true) : 0 ≤ c.kind ∧ c.kind < 256 := by rcases rightC_parts h with ⟨hk, _⟩ | ⟨hk, _⟩ | ⟨hk, _⟩ <;> omega
theorem rightC_3 {c : ChangeD} (h : rightC c = true) (hk : c.kind = 3) : rightT c.timer = true := by
  rcases rightC_parts h with ⟨hk', _⟩ | ⟨hk', _⟩ | ⟨_, _, _, ht⟩
  · omega
  · omega
  · exact ht
theorem rightC_1 {c : ChangeD} (h : rightC c = true) (hk : c.kind = 1) : nameI c.key = true ∧ c.value.length ≤ 60 := by
  rcases rightC_parts h with ⟨_, hn, _, hv⟩ | ⟨hk', _⟩ | ⟨hk', _⟩
  · exact ⟨hn, hv⟩
  · omega
  · omega
theorem rightC_2 {c : ChangeD} (h : rightC c = true) (h3 : ¬ c.kind = 3) (h1 : ¬ c.kind = 1) : nameI c.key = true := by
  rcases rightC_parts h with ⟨hk', _⟩ | ⟨_, hn, _⟩ | ⟨hk', _⟩
  · omega
  · exact hn
  · omega
theorem chgF_3 {c : ChangeD} (h : c.kind = 3) : ((((([((1, [c.kind]) : Fld)] ++ [((4, c.timer.name) : Fld)]) ++ [((5, bI c.timer.ver) : Fld)]) ++ [((6, bI c.timer.tick) : Fld)]) ++ [((7, bI c.timer.every) : Fld)]) ++ [((8, encT c.timer.steps) : Fld)]) = chgF c := by unfold chgF; rw [if_pos h]; rfl
theorem chgF_1 {c : ChangeD} (h : c.kind = 1) : (([((1, [c.kind]) : Fld)] ++ [((2, c.key) : Fld)]) ++ [((3, c.value) : Fld)]) = chgF c := by unfold chgF; rw [if_neg (by omega), if_pos h]; rfl
theorem chgF_2 {c : ChangeD} (h3 : ¬ c.kind = 3) (h1 : ¬ c.kind = 1) : ([((1, [c.kind]) : Fld)] ++ [((2, c.key) : Fld)]) = chgF c := by unfold chgF; rw [if_neg h3, if_neg h1]
theorem encC_no {c : ChangeD} (h : rightC c = false) : encC c = [] := by unfold encC; rw [h]; rfl
theorem encCE_no {c : ChangeD} (h : rightC c = false) : encCE c = 121 := by unfold encCE; rw [h]; rfl
theorem encCE_yes {c : ChangeD} (h : rightC c = true) : encCE c = 0 := by unfold encCE; rw [h]; rfl
/-! ### messages -/
def nodeI (n : Int) : Bool := decide (0 ≤ n) && decide (n < 8)
def nodesFrom : Int → List Int → Bool
  | _, [] => true
  | last, n :: r => (decide (last < n) && nodeI n) && nodesFrom n r
def rightM (m : MessageD) : Bool :=
  (decide (1 ≤ m.kind) && (decide (m.kind ≤ 7) && (nodeI m.src && (nodeI m.dst && (decide (1 ≤ m.tx) && decide (m.tx ≤ 1099511627776)))))) &&
  (if m.kind = 1 then (decide (m.dst ∈ m.nodes) && nodesFrom (-1) m.nodes) && (decide (m.changes.length ≤ 32) && m.changes.all rightC) else decide (m.nodes.length = 0) && decide (m.changes.length = 0))
def msgF (m : MessageD) : List Fld := [(1, [m.kind, m.src, m.dst]), (2, bI m.tx)] ++ (if m.kind = 1 then [(3, m.nodes)] ++ m.changes.map (fun c => (4, encC c)) else [])
def le4 (s : Int) : List Int := [s % 256, s / 256 % 256, s / 65536 % 256, s / 16777216 % 256]
def encM (m : MessageD) : List Int := if rightM m then encI (msgF m) ++ le4 (Crc.moreI 0 (encI (msgF m))) else []
theorem nodes_len : ∀ {l : List Int} {last : Int}, nodesFrom last l = true → -1 ≤ last → last ≤ 7 → (l.length : Int) ≤ 7 - last
  | [], last, _, h0, h1 => by simp; omega
  | x :: r, last, h, h0, h1 => by
    simp only [nodesFrom, nodeI, Bool.and_eq_true, decide_eq_true_eq] at h
    have := nodes_len h.2 (by omega) (by omega)
    rw [List.length_cons]; omega
structure RM (m : MessageD) : Prop where
  kind : 1 ≤ m.kind ∧ m.kind ≤ 7
  src : 0 ≤ m.src ∧ m.src < 8
  dst : 0 ≤ m.dst ∧ m.dst < 8
  tx : 1 ≤ m.tx ∧ m.tx ≤ 1099511627776
  prep : m.kind = 1 → m.dst ∈ m.nodes ∧ nodesFrom (-1) m.nodes = true ∧ m.changes.length ≤ 32 ∧ m.changes.all rightC = true
  bare : ¬ m.kind = 1 → m.nodes = [] ∧ m.changes = []
theorem rightM_parts {m : MessageD} (h : rightM m = true) : RM m := by
  unfold rightM nodeI at h
  rw [Bool.and_eq_true] at h
  obtain ⟨h1, h2⟩ := h
  simp only [Bool.and_eq_true, decide_eq_true_eq] at h1
  refine ⟨⟨h1.1, h1.2.1⟩, h1.2.2.1, h1.2.2.2.1, h1.2.2.2.2, fun hk => ?_, fun hk => ?_⟩
  · rw [if_pos hk] at h2
    simp only [Bool.and_eq_true, decide_eq_true_eq] at h2
    exact ⟨h2.1.1, h2.1.2, h2.2.1, h2.2.2⟩
  · rw [if_neg hk] at h2
    simpa using h2
theorem msgF_ok {m : MessageD} (h : rightM m = true) (hb : MessageB m) : (msgF m).all okF = true ∧ (msgF m).length ≤ 35 := by
  have R := rightM_parts h
  have b1 := bI_len m.tx
  unfold msgF
  by_cases hk : m.kind = 1
  · obtain ⟨_, hn, hl, hc⟩ := R.prep hk
    have hnl := nodes_len hn (by omega) (by omega)
    rw [if_pos hk]
    refine ⟨?_, by simp; omega⟩
    simp only [List.all_append, List.all_cons, List.all_nil, Bool.and_true, Bool.and_eq_true]
    refine ⟨⟨okF_of (by decide) (by decide) (by simp), okF_of (by decide) (by decide) (by omega)⟩, okF_of (by decide) (by decide) (by omega), ?_⟩
    rw [List.all_map, List.all_eq_true]
    intro c hcm
    exact okF_of (by decide) (by decide) (by have := encC_len (hb.changes c hcm); omega)
  · rw [if_neg hk]
    refine ⟨?_, by simp⟩
    simp only [List.all_append, List.all_cons, List.all_nil, Bool.and_true, Bool.and_eq_true]
    exact ⟨okF_of (by decide) (by decide) (by simp), okF_of (by decide) (by decide) (by omega)⟩
theorem le4_byte (s : Int) : Byte (le4 s) := by
  intro n hn
  unfold le4 at hn
  simp only [List.mem_cons, List.not_mem_nil, or_false] at hn
  rcases hn with rfl | rfl | rfl | rfl <;> omega
theorem encI_len {xs : List Fld} : (encI xs).length = (xs.map fun f => 3 + f.2.length).sum := by
  unfold encI
  rw [List.length_flatMap]
  congr 1
  refine List.map_congr_left fun f _ => ?_
  unfold encF; simp; omega
theorem shrU (q : Int) : q.fdiv (2 ^ (min (Int.toNat 8) 32)) = q / 256 ∧ q.fdiv (2 ^ (min (Int.toNat 16) 32)) = q / 65536 ∧ q.fdiv (2 ^ (min (Int.toNat 24) 32)) = q / 16777216 := by
  refine ⟨?_, ?_, ?_⟩ <;> exact Int.fdiv_eq_ediv_of_nonneg _ (by decide)
/-! ### how long a message is -/
/-! ### alike just if the bytes are -/
theorem bI_inj {a b : Int} (ha : U64 a) (hb : U64 b) (h : bI a = bI b) : a = b := by
  unfold U64 at *
  have h1 := num_bytes (n := a.toNat) (by omega)
  have h2 := num_bytes (n := b.toNat) (by omega)
  have e : bytesI a.toNat = bytesI b.toNat := h
  rw [e] at h1
  omega
theorem encI_inj {xs ys : List Fld} (hx : xs.all okF = true) (hy : ys.all okF = true) (h : encI xs = encI ys) : xs = ys := by
  rw [← items_enc hx, ← items_enc hy, h]
theorem encT_inj {a b : List StepD} (ha : encE a = 0) (hb : encE b = 0) (ba : ∀ s ∈ a, StepB s) (bb : ∀ s ∈ b, StepB s) (h : encT a = encT b) : a = b := by
  have h1 := adec_enc ha ba
  have h2 := adec_enc hb bb
  rw [h, h2] at h1
  exact (Option.some.inj h1).symm
theorem encC_inj {a b : ChangeD} (ra : rightC a = true) (rb : rightC b = true) (ba : ChangeB a) (bb : ChangeB b) (h : encC a = encC b) : a = b := by
  unfold encC at h
  rw [if_pos ra, if_pos rb] at h
  have e := encI_inj (chgF_ok ra ba).1 (chgF_ok rb bb).1 h
  have hk : a.kind = b.kind := by
    have := congrArg (fun l : List Fld => (gf l 0).2) e
    simpa [chgF, gf] using this
  obtain ⟨ak, aK, aV, aT⟩ := a
  obtain ⟨bk, bK, bV, bT⟩ := b
  dsimp only at hk
  subst hk
  unfold chgF at e
  rcases rightC_parts ra with ⟨hk, hn, ht, hv⟩ | ⟨hk, hn, ht, hv⟩ | ⟨hk, hkey, hv, ht⟩
  · rcases rightC_parts rb with ⟨_, _, ht', _⟩ | ⟨hk', _⟩ | ⟨hk', _⟩
    · dsimp only at *
      subst hk
      simp at e
      rw [e.1, e.2, bareT_parts ht, bareT_parts ht']
    · dsimp only at *; omega
    · dsimp only at *; omega
  · rcases rightC_parts rb with ⟨hk', _⟩ | ⟨_, _, ht', hv'⟩ | ⟨hk', _⟩
    · dsimp only at *; omega
    · dsimp only at *
      rw [if_neg (by omega), if_neg (by omega), if_neg (by omega), if_neg (by omega)] at e
      simp at e
      rw [e, hv, hv', bareT_parts ht, bareT_parts ht']
    · dsimp only at *; omega
  · rcases rightC_parts rb with ⟨hk', _⟩ | ⟨hk', _⟩ | ⟨_, hkey', hv', ht'⟩
    · dsimp only at *; omega
    · dsimp only at *; omega
    · dsimp only at *
      subst hk
      rw [if_pos rfl, if_pos rfl] at e
      simp at e
      obtain ⟨e1, e2, e3, e4, e5⟩ := e
      have pa := rightT_parts ht
      have pb := rightT_parts ht'
      obtain ⟨an, av, at_, ae, as_⟩ := aT
      obtain ⟨bn, bv, bt_, be, bs_⟩ := bT
      have tb := ba.timer; have tb' := bb.timer
      dsimp only at *
      have f2 := bI_inj ⟨by omega, by omega⟩ ⟨by omega, by omega⟩ e2
      have f3 := bI_inj tb.tick tb'.tick e3
      have f4 := bI_inj tb.every tb'.every e4
      have f5 := encT_inj pa.1 pb.1 tb.steps tb'.steps e5
      dsimp only at f3 f4 f5
      subst e1 f2 f3 f4 f5 hkey hv
      rw [hkey', hv']
theorem map_encC_inj : ∀ {a b : List ChangeD}, a.all rightC = true → b.all rightC = true → (∀ c ∈ a, ChangeB c) → (∀ c ∈ b, ChangeB c) → a.map (fun c => ((4, encC c) : Fld)) = b.map (fun c => (4, encC c)) → a = b
  | [], [], _, _, _, _, _ => rfl
  | [], y :: b, _, _, _, _, h => by simp at h
  | x :: a, [], _, _, _, _, h => by simp at h
  | x :: a, y :: b, ha, hb, ba, bb, h => by
    simp only [List.map_cons, List.cons.injEq, Prod.mk.injEq, true_and] at h
    rw [List.all_cons, Bool.and_eq_true] at ha hb
    rw [encC_inj ha.1 hb.1 (ba x (by simp)) (bb y (by simp)) h.1, map_encC_inj ha.2 hb.2 (fun c hc => ba c (by simp [hc])) (fun c hc => bb c (by simp [hc])) h.2]
theorem encM_inj {a b : MessageD} (ra : rightM a = true) (rb : rightM b = true) (ba : MessageB a) (bb : MessageB b) (h : encM a = encM b) : a = b := by
  unfold encM at h
  rw [if_pos ra, if_pos rb] at h
  have hl := congrArg List.length h
  simp only [List.length_append, le4, List.length_cons, List.length_nil] at hl
  have e := encI_inj (msgF_ok ra ba).1 (msgF_ok rb bb).1 (List.append_inj_left h (by omega))
  have Ra := rightM_parts ra; have Rb := rightM_parts rb
  obtain ⟨ak, as_, ad, at_, an, ac⟩ := a
  obtain ⟨bk, bs_, bd, bt_, bn, bc⟩ := b
  unfold msgF at e
  simp only [List.cons_append, List.nil_append, List.cons.injEq, Prod.mk.injEq, true_and, and_true] at e
  obtain ⟨⟨e1, e2, e3⟩, e4, e5⟩ := e
  subst e1 e2 e3
  have t1 := Ra.tx; have t2 := Rb.tx
  dsimp only at t1 t2
  have f4 := bI_inj (a := at_) (b := bt_) ⟨by omega, by omega⟩ ⟨by omega, by omega⟩ e4
  subst f4
  by_cases hk : ak = 1
  · subst hk
    rw [if_pos rfl, if_pos rfl] at e5
    simp only [List.cons.injEq, Prod.mk.injEq, true_and] at e5
    obtain ⟨e6, e7⟩ := e5
    subst e6
    have := map_encC_inj (Ra.prep rfl).2.2.2 (Rb.prep rfl).2.2.2 ba.changes bb.changes e7
    dsimp only at this
    rw [this]
  · obtain ⟨n1, c1⟩ := Ra.bare hk
    obtain ⟨n2, c2⟩ := Rb.bare hk
    dsimp only at n1 c1 n2 c2
    rw [n1, c1, n2, c2]
end Go.Proofs.YtiiklnghnifmjaaGreatDoor.Act
