/- Tries: nodes in memory, and what they hold. -/
import Derived.Test.YtlcnoibjhmflnaaSn
import Derived.Test.YtlcnoibjhmflnaaMap
set_option linter.unusedVariables false
set_option linter.unusedSimpArgs false
namespace Go.Proofs.Ytlcnoibjhmflnaa.Sx
/-! ### Texts in order -/
abbrev Str := List Int
def lxl : Str → Str → Bool
  | [], [] => false
  | [], _ :: _ => true
  | _ :: _, [] => false
  | x :: xs, y :: ys => decide (x < y) || (decide (x = y) && lxl xs ys)
theorem lxl_irr : ∀ a, lxl a a = false
  | [] => rfl
  | x :: xs => by simp [lxl, lxl_irr xs]
theorem lxl_trans : ∀ {a b c}, lxl a b = true → lxl b c = true → lxl a c = true
  | [], [], _, h, _ => by simp [lxl] at h
  | [], _ :: _, [], _, h => by simp [lxl] at h
  | [], _ :: _, _ :: _, _, _ => rfl
  | _ :: _, [], _, h, _ => by simp [lxl] at h
  | _ :: _, _ :: _, [], _, h => by simp [lxl] at h
  | x :: xs, y :: ys, z :: zs, h, k => by
    simp only [lxl, Bool.or_eq_true, Bool.and_eq_true, decide_eq_true_eq] at h k ⊢
    rcases h with h | ⟨rfl, h⟩
    · rcases k with k | ⟨rfl, k⟩
      · exact .inl (by omega)
      · exact .inl h
    · rcases k with k | ⟨rfl, k⟩
      · exact .inl k
      · exact .inr ⟨rfl, lxl_trans h k⟩
theorem lxl_tot : ∀ {a b}, lxl a b = false → lxl b a = false → a = b
  | [], [], _, _ => rfl
  | [], _ :: _, h, _ => by simp [lxl] at h
  | _ :: _, [], _, h => by simp [lxl] at h
  | x :: xs, y :: ys, h, k => by
    simp only [lxl, Bool.or_eq_false_iff, Bool.and_eq_false_iff, decide_eq_false_iff_not] at h k
    have e : x = y := by omega
    subst e
    rw [lxl_tot (a := xs) (b := ys)]
    · rcases h.2 with h | h; exact (h rfl).elim; exact h
    · rcases k.2 with h | h; exact (h rfl).elim; exact h
theorem lxl_asym {a b} (h : lxl a b = true) : lxl b a = false := by
  cases k : lxl b a
  · rfl
  · have := lxl_trans h k; rw [lxl_irr] at this; cases this
theorem lxl_ne {a b} (h : lxl a b = true) : a ≠ b := fun e => by subst e; rw [lxl_irr] at h; cases h
theorem lxl_app : ∀ (p : Str) {a b}, lxl (p ++ a) (p ++ b) = lxl a b
  | [], _, _ => rfl
  | x :: p, a, b => by simp [lxl, lxl_app p]
theorem lxl_pre {p k : Str} (h : p <+: k) (hn : p ≠ k) : lxl p k = true := by
  obtain ⟨t, rfl⟩ := h
  have : lxl (p ++ []) (p ++ t) = true := by
    rw [lxl_app]
    cases t with
    | nil => simp at hn
    | cons => rfl
  simpa using this
theorem lxl_kid {p k k' : Str} {c c' : Int} (h : p ++ [c] <+: k) (h' : p ++ [c'] <+: k') (hc : c < c') : lxl k k' = true := by
  obtain ⟨t, rfl⟩ := h
  obtain ⟨t', rfl⟩ := h'
  rw [List.append_assoc, List.append_assoc, lxl_app]
  simp [lxl, hc]
/-! ### Entries -/
abbrev Ent := Str × Str
def Sorted (l : List Ent) : Prop := l.Pairwise (fun a b => lxl a.1 b.1 = true)
theorem sorted_ext : ∀ {l l' : List Ent}, Sorted l → Sorted l' → (∀ e, e ∈ l ↔ e ∈ l') → l = l'
  | [], [], _, _, _ => rfl
  | [], e :: l', _, _, h => absurd ((h e).2 (by simp)) (by simp)
  | e :: l, [], _, _, h => absurd ((h e).1 (by simp)) (by simp)
  | e :: l, e' :: l', hs, hs', h => by
    unfold Sorted at hs hs'
    rw [List.pairwise_cons] at hs hs'
    have e1 : e = e' := by
      rcases List.mem_cons.1 ((h e).1 (by simp)) with h1 | h1
      · exact h1
      · rcases List.mem_cons.1 ((h e').2 (by simp)) with h2 | h2
        · exact h2.symm
        · have a := hs'.1 e h1; have b := hs.1 e' h2; have := lxl_trans a b; rw [lxl_irr] at this; cases this
    subst e1
    rw [sorted_ext hs.2 hs'.2]
    intro x
    have hx := h x
    constructor
    · intro hm
      rcases List.mem_cons.1 (hx.1 (List.mem_cons_of_mem _ hm)) with rfl | h1
      · have := hs.1 x hm; rw [lxl_irr] at this; cases this
      · exact h1
    · intro hm
      rcases List.mem_cons.1 (hx.2 (List.mem_cons_of_mem _ hm)) with rfl | h1
      · have := hs'.1 x hm; rw [lxl_irr] at this; cases this
      · exact h1
theorem Sorted.keys {l : List Ent} (h : Sorted l) : Keys l := by
  unfold Keys
  rw [List.nodup_iff_pairwise_ne, List.pairwise_map]
  exact h.imp fun h => lxl_ne h
theorem Sorted.filter {l : List Ent} (h : Sorted l) (f : Ent → Bool) : Sorted (l.filter f) := List.Pairwise.filter f h
def putL (l : List Ent) (k v : Str) : List Ent := (l.filter fun e => lxl e.1 k) ++ (k, v) :: (l.filter fun e => lxl k e.1)
def dropL (l : List Ent) (k : Str) : List Ent := l.filter fun e => !decide (e.1 = k)
theorem putL_sorted {l : List Ent} (h : Sorted l) (k v : Str) : Sorted (putL l k v) := by
  unfold putL Sorted
  rw [List.pairwise_append, List.pairwise_cons]
  refine ⟨h.filter _, ⟨fun e he => ?_, h.filter _⟩, fun a ha b hb => ?_⟩
  · exact (List.mem_filter.1 he).2
  · have h1 := (List.mem_filter.1 ha).2
    rcases List.mem_cons.1 hb with rfl | hb
    · exact h1
    · have h2 := (List.mem_filter.1 hb).2
      exact lxl_trans h1 h2
theorem mem_putL {l : List Ent} {k v : Str} (e : Ent) : e ∈ putL l k v ↔ e = (k, v) ∨ (e ∈ l ∧ e.1 ≠ k) := by
  unfold putL
  rw [List.mem_append, List.mem_cons, List.mem_filter, List.mem_filter]
  constructor
  · rintro (⟨h1, h2⟩ | h | ⟨h1, h2⟩)
    · exact .inr ⟨h1, lxl_ne h2⟩
    · exact .inl h
    · exact .inr ⟨h1, fun e => lxl_ne h2 e.symm⟩
  · rintro (h | ⟨h1, h2⟩)
    · exact .inr (.inl h)
    · cases h3 : lxl e.1 k
      · cases h4 : lxl k e.1
        · exact (h2 (lxl_tot h3 h4)).elim
        · exact .inr (.inr ⟨h1, rfl⟩)
      · exact .inl ⟨h1, rfl⟩
theorem dropL_sorted {l : List Ent} (h : Sorted l) (k : Str) : Sorted (dropL l k) := h.filter _
theorem mem_dropL {l : List Ent} {k : Str} (e : Ent) : e ∈ dropL l k ↔ e ∈ l ∧ e.1 ≠ k := by simp [dropL]
/-! ### Nodes -/
structure TRec where
  path : Str
  nb : Nat
  mb : Nat
  lab : Str
  val : Option (Nat × Str)
  kids : List (Int × Nat)
structure WF (S : List TRec) (base : Str) (root : Nat) : Prop where
  root : ∃ r ∈ S, r.nb = root ∧ r.path = base
  nbs : (S.map (·.nb)).Nodup
  paths : (S.map (·.path)).Nodup
  keys : ∀ p ∈ S, Keys p.kids
  kid : ∀ p ∈ S, ∀ c b, al p.kids c = some b → ∃ r ∈ S, r.nb = b ∧ r.path = p.path ++ r.lab ∧ r.lab.head? = some c
  up : ∀ r ∈ S, r.path = base ∨ ∃ p ∈ S, ∃ c, al p.kids c = some r.nb
  byte : ∀ r ∈ S, Byte r.path ∧ r.path.length ≤ 1000000 ∧ Byte r.lab ∧ r.lab.length ≤ 1000000
  vbyte : ∀ r ∈ S, ∀ b v, r.val = some (b, v) → Byte v ∧ v.length ≤ 1000000
theorem nodup_inj {α β : Type} {f : α → β} : ∀ {l : List α}, (l.map f).Nodup → ∀ {x y}, x ∈ l → y ∈ l → f x = f y → x = y
  | [], _, _, _, h, _, _ => by cases h
  | z :: l, h, x, y, hx, hy, e => by
    rw [List.map_cons, List.nodup_cons] at h
    rcases List.mem_cons.1 hx with hx | hx <;> rcases List.mem_cons.1 hy with hy | hy
    · rw [hx, hy]
    · exact (h.1 (by rw [← hx, e]; exact List.mem_map_of_mem (f := f) hy)).elim
    · exact (h.1 (by rw [← hy, ← e]; exact List.mem_map_of_mem (f := f) hx)).elim
    · exact nodup_inj h.2 hx hy e
section
variable {S S' : List TRec} {base : Str} {root : Nat}
theorem WF.perm (h : WF S base root) (hp : S.Perm S') : WF S' base root where
  root := let ⟨r, h1, h2⟩ := h.root; ⟨r, hp.mem_iff.1 h1, h2⟩
  nbs := (hp.map _).nodup_iff.1 h.nbs
  paths := (hp.map _).nodup_iff.1 h.paths
  keys p hm := h.keys p (hp.mem_iff.2 hm)
  kid p hm c b hc := let ⟨r, h1, h2⟩ := h.kid p (hp.mem_iff.2 hm) c b hc; ⟨r, hp.mem_iff.1 h1, h2⟩
  up r hm := (h.up r (hp.mem_iff.2 hm)).imp id fun ⟨p, h1, h2⟩ => ⟨p, hp.mem_iff.1 h1, h2⟩
  byte r hm := h.byte r (hp.mem_iff.2 hm)
  vbyte r hm := h.vbyte r (hp.mem_iff.2 hm)
theorem WF.nb_inj (h : WF S base root) {r r' : TRec} (hr : r ∈ S) (hr' : r' ∈ S) (e : r.nb = r'.nb) : r = r' := nodup_inj h.nbs hr hr' e
theorem WF.path_inj (h : WF S base root) {r r' : TRec} (hr : r ∈ S) (hr' : r' ∈ S) (e : r.path = r'.path) : r = r' := nodup_inj h.paths hr hr' e
theorem WF.up' (h : WF S base root) {r : TRec} (hr : r ∈ S) (hb : r.path ≠ base) : ∃ p ∈ S, ∃ c, al p.kids c = some r.nb ∧ r.path = p.path ++ r.lab ∧ r.lab.head? = some c := by
  rcases h.up r hr with h1 | ⟨p, hp, c, hc⟩
  · exact (hb h1).elim
  · obtain ⟨r', h1, h2, h3⟩ := h.kid p hp c _ hc
    have e := h.nb_inj h1 hr h2
    subst e
    exact ⟨p, hp, c, hc, h3⟩
theorem head_ne {l : Str} {c : Int} (h : l.head? = some c) : l ≠ [] := fun e => by subst e; cases h
theorem WF.kid' (h : WF S base root) {p q : TRec} (hp : p ∈ S) (hq : q ∈ S) {c : Int} (hc : al p.kids c = some q.nb) : q.path = p.path ++ q.lab ∧ q.lab.head? = some c := by
  obtain ⟨r, h1, h2, h3⟩ := h.kid p hp c _ hc
  have e := h.nb_inj h1 hq h2
  subst e
  exact h3
theorem WF.base_pre (h : WF S base root) : ∀ (n : Nat) {r : TRec}, r.path.length ≤ n → r ∈ S → base <+: r.path
  | 0, r, hn, hr => by
    by_cases hb : r.path = base
    · rw [hb]; exact List.prefix_refl _
    · obtain ⟨p, hp, c, hc, h1, h2⟩ := h.up' hr hb
      have := List.length_pos_iff.2 (head_ne h2)
      rw [h1, List.length_append] at hn; omega
  | n + 1, r, hn, hr => by
    by_cases hb : r.path = base
    · rw [hb]; exact List.prefix_refl _
    · obtain ⟨p, hp, c, hc, h1, h2⟩ := h.up' hr hb
      have := List.length_pos_iff.2 (head_ne h2)
      rw [h1, List.length_append] at hn
      rw [h1]
      exact (WF.base_pre h n (by omega) hp).trans (List.prefix_append _ _)
theorem head_snoc {p l : Str} {c : Int} (h : l.head? = some c) : p ++ [c] <+: p ++ l := by
  cases l with
  | nil => cases h
  | cons x l => simp at h; subst h; exact ⟨l, by simp⟩
theorem snoc_head {p l : Str} {c : Int} (h : p ++ [c] <+: p ++ l) : l.head? = some c := by
  rw [List.prefix_append_right_inj] at h
  obtain ⟨t, rfl⟩ := h
  rfl
/-- Way down. -/
theorem WF.down (h : WF S base root) : ∀ (n : Nat) {r p : TRec} {c : Int}, r.path.length ≤ n → r ∈ S → p ∈ S → p.path ++ [c] <+: r.path → ∃ q ∈ S, al p.kids c = some q.nb ∧ q.path = p.path ++ q.lab ∧ q.lab.head? = some c ∧ q.path <+: r.path
  | 0, r, p, c, hn, _, _, hc => by have := hc.length_le; simp at this; omega
  | n + 1, r, p, c, hn, hr, hp, hc => by
    have hlen := hc.length_le
    rw [List.length_append, List.length_singleton] at hlen
    have hb : r.path ≠ base := fun e => by
      have := (h.base_pre _ (Nat.le_refl _) hp).length_le
      rw [← e] at this; omega
    obtain ⟨p', hp', c', hc', h1, h2⟩ := h.up' hr hb
    have hl := List.length_pos_iff.2 (head_ne h2)
    have hlr : r.path.length = p'.path.length + r.lab.length := by rw [h1, List.length_append]
    have hpp : p'.path <+: r.path := ⟨r.lab, h1.symm⟩
    have hpr : p.path <+: r.path := (List.prefix_append _ _).trans hc
    rcases Nat.lt_trichotomy p'.path.length p.path.length with hlt | heq | hgt
    · -- above p
      have h3 : p'.path <+: p.path := List.prefix_of_prefix_length_le hpp hpr (by omega)
      obtain ⟨t, ht⟩ := h3
      have ht0 : t ≠ [] := fun e => by subst e; rw [List.append_nil] at ht; rw [ht] at hlt; omega
      have hc2 : p'.path ++ [c'] <+: p.path := by
        have a1 : p'.path ++ [c'] <+: r.path := h1 ▸ head_snoc h2
        exact List.prefix_of_prefix_length_le a1 hpr (by rw [List.length_append, List.length_singleton]; omega)
      have hpn : p.path.length ≤ n := by omega
      obtain ⟨q, hq, a1, a2, a3, a4⟩ := WF.down h n hpn hp hp' hc2
      rw [hc'] at a1
      have e : r = q := h.nb_inj hr hq (by injection a1)
      subst e
      have := a4.length_le; omega
    · have e : p' = p := h.path_inj hp' hp ((List.prefix_of_prefix_length_le hpp hpr (by omega)).eq_of_length heq)
      subst e
      have : c' = c := by
        have a1 : p'.path ++ [c'] <+: r.path := h1 ▸ head_snoc h2
        have a2 := (List.prefix_of_prefix_length_le a1 hc (by simp)).eq_of_length (by simp)
        simpa using a2
      subst this
      exact ⟨r, hr, hc', h1, h2, List.prefix_refl _⟩
    · have hc2 : p.path ++ [c] <+: p'.path := List.prefix_of_prefix_length_le hc hpp (by rw [List.length_append, List.length_singleton]; omega)
      obtain ⟨q, hq, a1, a2, a3, a4⟩ := WF.down h n (by omega) hp' hp hc2
      exact ⟨q, hq, a1, a2, a3, a4.trans hpp⟩
theorem WF.miss (h : WF S base root) {r p : TRec} {c : Int} (hr : r ∈ S) (hp : p ∈ S) (hc : al p.kids c = none) : ¬ p.path ++ [c] <+: r.path := fun hx => by
  obtain ⟨q, _, a, _⟩ := h.down _ (Nat.le_refl _) hr hp hx
  rw [hc] at a; cases a
theorem WF.below (h : WF S base root) {r p q : TRec} {c : Int} (hr : r ∈ S) (hp : p ∈ S) (hq : q ∈ S) (hc : al p.kids c = some q.nb) (hx : p.path ++ [c] <+: r.path) : q.path <+: r.path := by
  obtain ⟨q', h1, a, _, _, h2⟩ := h.down _ (Nat.le_refl _) hr hp hx
  rw [hc] at a
  rw [h.nb_inj hq h1 (by injection a)]; exact h2
end
section
variable {S S' : List TRec} {base : Str} {root : Nat} {p q o : TRec} {c : Int}
theorem keys_nil : Keys ([] : List (Int × Nat)) := List.nodup_nil
/-- A value put or taken. -/
theorem WF.setVal (h : WF (p :: S) base root) (v : Option (Nat × Str)) (hv : ∀ b s, v = some (b, s) → Byte s ∧ s.length ≤ 1000000) : WF ({ p with val := v } :: S) base root := by
  have up : ∀ r, r ∈ ({ p with val := v } : TRec) :: S → ∃ r' ∈ p :: S, r'.nb = r.nb ∧ r'.path = r.path ∧ r'.lab = r.lab ∧ r'.kids = r.kids := fun r hr => by
    rcases List.mem_cons.1 hr with rfl | hr
    · exact ⟨p, by simp, rfl, rfl, rfl, rfl⟩
    · exact ⟨r, by simp [hr], rfl, rfl, rfl, rfl⟩
  have dn : ∀ r, r ∈ p :: S → ∃ r' ∈ ({ p with val := v } : TRec) :: S, r'.nb = r.nb ∧ r'.path = r.path ∧ r'.lab = r.lab ∧ r'.kids = r.kids := fun r hr => by
    rcases List.mem_cons.1 hr with rfl | hr
    · exact ⟨{ r with val := v }, by simp, rfl, rfl, rfl, rfl⟩
    · exact ⟨r, by simp [hr], rfl, rfl, rfl, rfl⟩
  refine ⟨?_, h.nbs, h.paths, ?_, ?_, ?_, ?_, ?_⟩
  · obtain ⟨r, h1, h2, h3⟩ := h.root
    obtain ⟨r', a, b, c, _⟩ := dn r h1
    exact ⟨r', a, b.trans h2, c.trans h3⟩
  · intro r hr
    obtain ⟨r', a, _, _, _, b⟩ := up r hr
    rw [← b]; exact h.keys r' a
  · intro r hr c b hc
    obtain ⟨r', a, _, a2, _, a3⟩ := up r hr
    rw [← a3] at hc
    obtain ⟨s, b1, b2, b3, b4⟩ := h.kid r' a c b hc
    obtain ⟨s', c1, c2, c3, c4, _⟩ := dn s b1
    exact ⟨s', c1, c2.trans b2, by rw [c3, c4, b3, a2], by rw [c4]; exact b4⟩
  · intro r hr
    obtain ⟨r', a, a1, a2, _, _⟩ := up r hr
    rcases h.up r' a with h1 | ⟨s, h1, c, h2⟩
    · exact .inl (a2 ▸ h1)
    · obtain ⟨s', c1, _, _, _, c5⟩ := dn s h1
      exact .inr ⟨s', c1, c, by rw [c5, h2, a1]⟩
  · intro r hr
    obtain ⟨r', a, _, a2, a3, _⟩ := up r hr
    rw [← a2, ← a3]; exact h.byte r' a
  · intro r hr b s hs
    rcases List.mem_cons.1 hr with rfl | hr
    · exact hv b s hs
    · exact h.vbyte r (by simp [hr]) b s hs
/-- A new leaf. -/
theorem WF.newKid (h : WF (p :: S) base root) (hc : al p.kids c = none) {rest : Str} (hr : rest.head? = some c) {nb mb : Nat} (hn : nb ∉ (p :: S).map (·.nb)) (hb : Byte (p.path ++ rest)) (hl : (p.path ++ rest).length ≤ 1000000) :
    WF ({ p with kids := mput p.kids c nb } :: ⟨p.path ++ rest, nb, mb, rest, none, []⟩ :: S) base root := by
  have hp : p ∈ p :: S := by simp
  have hpath : p.path ++ rest ∉ (p :: S).map (·.path) := fun hm => by
    obtain ⟨r, h1, h2⟩ := List.mem_map.1 hm
    exact h.miss h1 hp hc (h2 ▸ head_snoc hr)
  refine ⟨?_, ?_, ?_, ?_, ?_, ?_, ?_, ?_⟩
  · obtain ⟨r, h1, h2, h3⟩ := h.root
    rcases List.mem_cons.1 h1 with rfl | h1
    · exact ⟨_, List.mem_cons_self .., h2, h3⟩
    · exact ⟨r, by simp [h1], h2, h3⟩
  · have := h.nbs
    simp only [List.map_cons, List.nodup_cons, List.mem_cons, not_or] at this hn ⊢
    exact ⟨⟨fun e => hn.1 e.symm, this.1⟩, hn.2, this.2⟩
  · have := h.paths
    simp only [List.map_cons, List.nodup_cons, List.mem_cons, not_or] at this hpath ⊢
    exact ⟨⟨fun e => hpath.1 e.symm, this.1⟩, hpath.2, this.2⟩
  · intro r hr'
    rcases List.mem_cons.1 hr' with rfl | hr'
    · exact (h.keys p hp).put c nb
    · rcases List.mem_cons.1 hr' with rfl | hr'
      · exact keys_nil
      · exact h.keys r (by simp [hr'])
  · have old : ∀ p' ∈ p :: S, ∀ c' b', al p'.kids c' = some b' → ∃ r ∈ ({ p with kids := mput p.kids c nb } : TRec) :: ⟨p.path ++ rest, nb, mb, rest, none, []⟩ :: S, r.nb = b' ∧ r.path = p'.path ++ r.lab ∧ r.lab.head? = some c' := fun p' hp' c' b' hc' => by
      obtain ⟨r, h1, h2, h3⟩ := h.kid p' hp' c' b' hc'
      rcases List.mem_cons.1 h1 with rfl | h1
      · exact ⟨_, List.mem_cons_self .., h2, h3⟩
      · exact ⟨r, by simp [h1], h2, h3⟩
    intro r hr' c' b' hc'
    rcases List.mem_cons.1 hr' with rfl | hr'
    · dsimp only at hc' ⊢
      rw [al_put] at hc'
      split at hc'
      · rename_i e; subst e; cases hc'
        exact ⟨_, List.mem_cons_of_mem _ (List.mem_cons_self ..), rfl, rfl, hr⟩
      · exact old p hp c' b' hc'
    · rcases List.mem_cons.1 hr' with rfl | hr'
      · cases hc'
      · exact old r (by simp [hr']) c' b' hc'
  · have key : ∀ b', (∃ p' ∈ p :: S, ∃ c', al p'.kids c' = some b') → ∃ p' ∈ ({ p with kids := mput p.kids c nb } : TRec) :: ⟨p.path ++ rest, nb, mb, rest, none, []⟩ :: S, ∃ c', al p'.kids c' = some b' := by
      rintro b' ⟨p', hp', c', hc'⟩
      rcases List.mem_cons.1 hp' with rfl | hp'
      · refine ⟨_, List.mem_cons_self .., c', ?_⟩
        dsimp only
        rw [al_put, if_neg (fun e => by rw [e] at hc; rw [hc] at hc'; cases hc')]; exact hc'
      · exact ⟨p', by simp [hp'], c', hc'⟩
    intro r hr'
    rcases List.mem_cons.1 hr' with rfl | hr'
    · exact (h.up p hp).imp id (key _)
    · rcases List.mem_cons.1 hr' with rfl | hr'
      · exact .inr ⟨_, List.mem_cons_self .., c, by dsimp only; rw [al_put, if_pos rfl]⟩
      · exact (h.up r (by simp [hr'])).imp id (key _)
  · intro r hr'
    rcases List.mem_cons.1 hr' with rfl | hr'
    · exact h.byte p hp
    · rcases List.mem_cons.1 hr' with rfl | hr'
      · exact ⟨hb, hl, fun n hn => hb n (List.mem_append_right _ hn), by rw [List.length_append] at hl; dsimp only; omega⟩
      · exact h.byte r (by simp [hr'])
  · intro r hr' b s hs
    rcases List.mem_cons.1 hr' with rfl | hr'
    · exact h.vbyte p hp b s hs
    · rcases List.mem_cons.1 hr' with rfl | hr'
      · cases hs
      · exact h.vbyte r (by simp [hr']) b s hs
theorem head_take {l : Str} {c : Int} {k : Nat} (h : l.head? = some c) (hk : 0 < k) : (l.take k).head? = some c := by
  cases l with
  | nil => cases h
  | cons x l => cases k with
    | zero => omega
    | succ k => exact h
theorem head_drop {l : Str} {k : Nat} {x : Int} (h : l[k]? = some x) : (l.drop k).head? = some x := by rw [List.head?_drop]; exact h
/-- A node cut in two. -/
theorem WF.cut (h : WF (p :: q :: S) base root) (hc : al p.kids c = some q.nb) {k : Nat} (hk : 0 < k) {x : Int} (hx : q.lab[k]? = some x) {nb mb : Nat} (hn : nb ∉ (p :: q :: S).map (·.nb)) :
    WF ({ p with kids := mput p.kids c nb } :: ⟨p.path ++ q.lab.take k, nb, mb, q.lab.take k, none, [(x, q.nb)]⟩ :: { q with lab := q.lab.drop k } :: S) base root := by
  have hp : p ∈ p :: q :: S := by simp
  have hq : q ∈ p :: q :: S := by simp
  obtain ⟨hqp, hqh⟩ := h.kid' hp hq hc
  have hkl : k < q.lab.length := (List.getElem?_eq_some_iff.1 hx).1
  have hlt : (q.lab.take k).length = k := by rw [List.length_take]; omega
  have hpath : p.path ++ q.lab.take k ∉ (p :: q :: S).map (·.path) := fun hm => by
    obtain ⟨r, h1, h2⟩ := List.mem_map.1 hm
    have h3 := h.below h1 hp hq hc (by rw [h2]; exact head_snoc (head_take hqh hk))
    have := h3.length_le
    rw [h2, hqp, List.length_append, List.length_append] at this; omega
  have hqb : q.path ≠ base := fun e => by
    have := (h.base_pre _ (Nat.le_refl _) hp).length_le
    rw [← e, hqp, List.length_append] at this; omega
  have dn : ∀ r, r ∈ p :: q :: S → ∃ r' ∈ ({ p with kids := mput p.kids c nb } : TRec) :: ⟨p.path ++ q.lab.take k, nb, mb, q.lab.take k, none, [(x, q.nb)]⟩ :: { q with lab := q.lab.drop k } :: S, r'.nb = r.nb ∧ r'.path = r.path ∧ (r.nb ≠ q.nb → r'.lab = r.lab) := fun r hr => by
    simp only [List.mem_cons] at hr
    rcases hr with rfl | rfl | hr
    · exact ⟨_, List.mem_cons_self .., rfl, rfl, fun _ => rfl⟩
    · exact ⟨{ r with lab := r.lab.drop k }, by simp, rfl, rfl, fun h => (h rfl).elim⟩
    · exact ⟨r, by simp [hr], rfl, rfl, fun _ => rfl⟩
  have oldk : ∀ p' ∈ p :: q :: S, ∀ c' b', al p'.kids c' = some b' → b' ≠ q.nb → ∃ r ∈ ({ p with kids := mput p.kids c nb } : TRec) :: ⟨p.path ++ q.lab.take k, nb, mb, q.lab.take k, none, [(x, q.nb)]⟩ :: { q with lab := q.lab.drop k } :: S, r.nb = b' ∧ r.path = p'.path ++ r.lab ∧ r.lab.head? = some c' := fun p' hp' c' b' hc' hne => by
    obtain ⟨r, h1, h2, h3, h4⟩ := h.kid p' hp' c' b' hc'
    obtain ⟨r', a1, a2, a3, a4⟩ := dn r h1
    have a5 := a4 (by rw [h2]; exact hne)
    exact ⟨r', a1, a2.trans h2, by rw [a3, a5]; exact h3, by rw [a5]; exact h4⟩
  have only : ∀ p' ∈ p :: q :: S, ∀ c', al p'.kids c' = some q.nb → p' = p ∧ c' = c := fun p' hp' c' hc' => by
    obtain ⟨a1, a2⟩ := h.kid' hp' hq hc'
    have hl : p'.path.length = p.path.length ∨ p'.path.length ≠ p.path.length := by omega
    have e : p' = p := by
      rcases Nat.lt_trichotomy p'.path.length p.path.length with hlt | heq | hgt
      · have hc2 : p'.path ++ [c'] <+: p.path := List.prefix_of_prefix_length_le (l₃ := q.path) (by rw [a1]; exact head_snoc a2) ⟨q.lab, hqp.symm⟩ (by rw [List.length_append, List.length_singleton]; omega)
        have := (h.below hp hp' hq hc' hc2).length_le
        rw [hqp, List.length_append] at this; omega
      · exact h.path_inj hp' hp ((List.prefix_of_prefix_length_le (l₃ := q.path) ⟨q.lab, a1.symm⟩ ⟨q.lab, hqp.symm⟩ (by omega)).eq_of_length heq)
      · have hc2 : p.path ++ [c] <+: p'.path := List.prefix_of_prefix_length_le (l₃ := q.path) (by rw [hqp]; exact head_snoc hqh) ⟨q.lab, a1.symm⟩ (by rw [List.length_append, List.length_singleton]; omega)
        have := (h.below hp' hp hq hc hc2).length_le
        rw [a1, List.length_append] at this
        have := List.length_pos_iff.2 (head_ne a2); omega
    subst e
    rw [hqh] at a2
    exact ⟨rfl, by injection a2 with a2; exact a2.symm⟩
  have hpq : p ≠ q := fun e => by
    have e2 : p.path = p.path ++ q.lab := by rw [← hqp, e]
    have := congrArg List.length e2
    rw [List.length_append] at this; omega
  refine ⟨?_, ?_, ?_, ?_, ?_, ?_, ?_, ?_⟩
  · obtain ⟨r, h1, h2, h3⟩ := h.root
    obtain ⟨r', a1, a2, a3, _⟩ := dn r h1
    exact ⟨r', a1, a2.trans h2, a3.trans h3⟩
  · have := h.nbs
    simp only [List.map_cons, List.nodup_cons, List.mem_cons, not_or] at this hn ⊢
    exact ⟨⟨fun e => hn.1 e.symm, this.1⟩, ⟨hn.2.1, hn.2.2⟩, this.2⟩
  · have := h.paths
    simp only [List.map_cons, List.nodup_cons, List.mem_cons, not_or] at this hpath ⊢
    exact ⟨⟨fun e => hpath.1 e.symm, this.1⟩, ⟨hpath.2.1, hpath.2.2⟩, this.2⟩
  · intro r hr
    simp only [List.mem_cons] at hr
    rcases hr with rfl | rfl | rfl | hr
    · exact (h.keys p hp).put c nb
    · exact List.nodup_cons.2 ⟨by simp, List.nodup_nil⟩
    · exact h.keys q hq
    · exact h.keys r (by simp [hr])
  · intro r hr c' b' hc'
    simp only [List.mem_cons] at hr
    rcases hr with rfl | rfl | rfl | hr
    · dsimp only at hc' ⊢
      rw [al_put] at hc'
      split at hc'
      · rename_i e; subst e; cases hc'
        exact ⟨_, List.mem_cons_of_mem _ (List.mem_cons_self ..), rfl, rfl, head_take hqh hk⟩
      · rename_i e
        exact oldk p hp c' b' hc' (fun e2 => by subst e2; exact e (only p hp c' hc').2.symm)
    · dsimp only at hc' ⊢
      unfold al at hc'
      split at hc'
      · rename_i e; dsimp only at e; subst e; cases hc'
        exact ⟨{ q with lab := q.lab.drop k }, by simp, rfl, by dsimp only; rw [List.append_assoc, List.take_append_drop]; exact hqp, head_drop hx⟩
      · cases hc'
    · exact oldk q hq c' b' hc' (fun e2 => by subst e2; exact hpq (only q hq c' hc').1.symm)
    · refine oldk r (by simp [hr]) c' b' hc' (fun e2 => ?_)
      subst e2
      have e := (only r (by simp [hr]) c' hc').1
      subst e
      have := h.nbs
      simp only [List.map_cons, List.nodup_cons, List.mem_cons, not_or] at this
      exact this.1.2 (List.mem_map_of_mem (f := (·.nb)) hr)
  · have key : ∀ b', b' ≠ q.nb → (∃ p' ∈ p :: q :: S, ∃ c', al p'.kids c' = some b') → ∃ p' ∈ ({ p with kids := mput p.kids c nb } : TRec) :: ⟨p.path ++ q.lab.take k, nb, mb, q.lab.take k, none, [(x, q.nb)]⟩ :: { q with lab := q.lab.drop k } :: S, ∃ c', al p'.kids c' = some b' := by
      rintro b' hne ⟨p', hp', c', hc'⟩
      simp only [List.mem_cons] at hp'
      rcases hp' with rfl | rfl | hp'
      · refine ⟨_, List.mem_cons_self .., c', ?_⟩
        dsimp only
        rw [al_put, if_neg (fun e => by rw [e] at hc; rw [hc] at hc'; exact hne (by injection hc' with e; exact e.symm))]; exact hc'
      · exact ⟨{ p' with lab := p'.lab.drop k }, by simp, c', hc'⟩
      · exact ⟨p', by simp [hp'], c', hc'⟩
    intro r hr
    simp only [List.mem_cons] at hr
    rcases hr with rfl | rfl | rfl | hr
    · exact (h.up p hp).imp id (key _ (fun e => hpq (h.nb_inj hp hq e)))
    · exact .inr ⟨_, List.mem_cons_self .., c, by dsimp only; rw [al_put, if_pos rfl]⟩
    · exact .inr ⟨_, List.mem_cons_of_mem _ (List.mem_cons_self ..), x, by simp [al]⟩
    · refine (h.up r (by simp [hr])).imp id (key _ (fun e => ?_))
      have := h.nbs
      simp only [List.map_cons, List.nodup_cons, List.mem_cons, not_or] at this
      exact this.2.1 (e ▸ List.mem_map_of_mem (f := (·.nb)) hr)
  · intro r hr
    simp only [List.mem_cons] at hr
    obtain ⟨b1, b2, b3, b4⟩ := h.byte q hq
    rcases hr with rfl | rfl | rfl | hr
    · exact h.byte p hp
    · have ht : Byte (q.lab.take k) := fun n hn => b3 n (List.mem_of_mem_take hn)
      refine ⟨fun n hn => (List.mem_append.1 hn).elim ((h.byte p hp).1 n) (ht n), ?_, ht, by dsimp only; omega⟩
      dsimp only
      rw [hqp, List.length_append] at b2
      rw [List.length_append]; omega
    · exact ⟨b1, b2, fun n hn => b3 n (List.mem_of_mem_drop hn), by dsimp only; rw [List.length_drop]; omega⟩
    · exact h.byte r (by simp [hr])
  · intro r hr b s hs
    simp only [List.mem_cons] at hr
    rcases hr with rfl | rfl | rfl | hr
    · exact h.vbyte p hp b s hs
    · cases hs
    · exact h.vbyte q hq b s hs
    · exact h.vbyte r (by simp [hr]) b s hs
end
section
variable {S S' : List TRec} {base : Str} {root : Nat} {p q o : TRec} {c : Int}
theorem WF.only (h : WF S base root) {p p' q : TRec} {c c' : Int} (hp : p ∈ S) (hp' : p' ∈ S) (hq : q ∈ S) (hc : al p.kids c = some q.nb) (hc' : al p'.kids c' = some q.nb) : p' = p ∧ c' = c := by
  obtain ⟨hqp, hqh⟩ := h.kid' hp hq hc
  obtain ⟨a1, a2⟩ := h.kid' hp' hq hc'
  have l1 := List.length_pos_iff.2 (head_ne hqh)
  have l2 := List.length_pos_iff.2 (head_ne a2)
  have e : p' = p := by
    rcases Nat.lt_trichotomy p'.path.length p.path.length with hlt | heq | hgt
    · have hc2 : p'.path ++ [c'] <+: p.path := List.prefix_of_prefix_length_le (l₃ := q.path) (by rw [a1]; exact head_snoc a2) ⟨q.lab, hqp.symm⟩ (by rw [List.length_append, List.length_singleton]; omega)
      have := (h.below hp hp' hq hc' hc2).length_le
      rw [hqp, List.length_append] at this; omega
    · exact h.path_inj hp' hp ((List.prefix_of_prefix_length_le (l₃ := q.path) ⟨q.lab, a1.symm⟩ ⟨q.lab, hqp.symm⟩ (by omega)).eq_of_length heq)
    · have hc2 : p.path ++ [c] <+: p'.path := List.prefix_of_prefix_length_le (l₃ := q.path) (by rw [hqp]; exact head_snoc hqh) ⟨q.lab, a1.symm⟩ (by rw [List.length_append, List.length_singleton]; omega)
      have := (h.below hp' hp hq hc hc2).length_le
      rw [a1, List.length_append] at this; omega
  subst e
  rw [hqh] at a2
  exact ⟨rfl, by injection a2 with a2; exact a2.symm⟩
theorem WF.kid_ne (h : WF S base root) {p q : TRec} {c : Int} (hp : p ∈ S) (hq : q ∈ S) (hc : al p.kids c = some q.nb) : p ≠ q ∧ q.path ≠ base := by
  obtain ⟨hqp, hqh⟩ := h.kid' hp hq hc
  have l1 := List.length_pos_iff.2 (head_ne hqh)
  refine ⟨fun e => ?_, fun e => ?_⟩
  · have e2 : p.path = p.path ++ q.lab := by rw [← hqp, e]
    have := congrArg List.length e2
    rw [List.length_append] at this; omega
  · have := (h.base_pre _ (Nat.le_refl _) hp).length_le
    rw [← e, hqp, List.length_append] at this; omega
/-- A leaf taken away. -/
theorem WF.del0 (h : WF (p :: q :: S) base root) (hc : al p.kids c = some q.nb) (hk : q.kids = []) : WF ({ p with kids := mdel p.kids c } :: S) base root := by
  have hp : p ∈ p :: q :: S := by simp
  have hq : q ∈ p :: q :: S := by simp
  obtain ⟨hpq, hqb⟩ := h.kid_ne hp hq hc
  have hn := h.nbs
  have ha := h.paths
  simp only [List.map_cons, List.nodup_cons, List.mem_cons, not_or] at hn ha
  have dn : ∀ r, r ∈ p :: q :: S → r.nb ≠ q.nb → ∃ r' ∈ ({ p with kids := mdel p.kids c } : TRec) :: S, r'.nb = r.nb ∧ r'.path = r.path ∧ r'.lab = r.lab := fun r hr hne => by
    simp only [List.mem_cons] at hr
    rcases hr with rfl | rfl | hr
    · exact ⟨_, List.mem_cons_self .., rfl, rfl, rfl⟩
    · exact (hne rfl).elim
    · exact ⟨r, by simp [hr], rfl, rfl, rfl⟩
  have oldk : ∀ p' ∈ p :: q :: S, ∀ c' b', al p'.kids c' = some b' → b' ≠ q.nb → ∃ r ∈ ({ p with kids := mdel p.kids c } : TRec) :: S, r.nb = b' ∧ r.path = p'.path ++ r.lab ∧ r.lab.head? = some c' := fun p' hp' c' b' hc' hne => by
    obtain ⟨r, h1, h2, h3, h4⟩ := h.kid p' hp' c' b' hc'
    obtain ⟨r', a1, a2, a3, a4⟩ := dn r h1 (by rw [h2]; exact hne)
    exact ⟨r', a1, a2.trans h2, by rw [a3, a4]; exact h3, by rw [a4]; exact h4⟩
  have key : ∀ b', b' ≠ q.nb → (∃ p' ∈ p :: q :: S, ∃ c', al p'.kids c' = some b') → ∃ p' ∈ ({ p with kids := mdel p.kids c } : TRec) :: S, ∃ c', al p'.kids c' = some b' := by
    rintro b' hne ⟨p', hp', c', hc'⟩
    simp only [List.mem_cons] at hp'
    rcases hp' with rfl | rfl | hp'
    · refine ⟨_, List.mem_cons_self .., c', ?_⟩
      dsimp only
      rw [al_del (h.keys _ hp), if_neg (fun e => by rw [e] at hc; rw [hc] at hc'; exact hne (by injection hc' with e; exact e.symm))]; exact hc'
    · rw [hk] at hc'; cases hc'
    · exact ⟨p', by simp [hp'], c', hc'⟩
  refine ⟨?_, ?_, ?_, ?_, ?_, ?_, ?_, ?_⟩
  · obtain ⟨r, h1, h2, h3⟩ := h.root
    obtain ⟨r', a1, a2, a3, _⟩ := dn r h1 (fun e => hqb (by rw [← h.nb_inj h1 hq e]; exact h3))
    exact ⟨r', a1, a2.trans h2, a3.trans h3⟩
  · simp only [List.map_cons, List.nodup_cons]
    exact ⟨hn.1.2, hn.2.2⟩
  · simp only [List.map_cons, List.nodup_cons]
    exact ⟨ha.1.2, ha.2.2⟩
  · intro r hr
    simp only [List.mem_cons] at hr
    rcases hr with rfl | hr
    · exact (h.keys p hp).del c
    · exact h.keys r (by simp [hr])
  · intro r hr c' b' hc'
    simp only [List.mem_cons] at hr
    rcases hr with rfl | hr
    · dsimp only at hc' ⊢
      rw [al_del (h.keys p hp)] at hc'
      split at hc'
      · cases hc'
      · rename_i e
        exact oldk p hp c' b' hc' (fun e2 => by subst e2; exact e (h.only hp hp hq hc hc').2.symm)
    · refine oldk r (by simp [hr]) c' b' hc' (fun e2 => ?_)
      subst e2
      have e := (h.only hp (by simp [hr]) hq hc hc').1
      subst e
      exact hn.1.2 (List.mem_map_of_mem (f := (·.nb)) hr)
  · intro r hr
    simp only [List.mem_cons] at hr
    rcases hr with rfl | hr
    · exact (h.up p hp).imp id (key _ (fun e => hpq (h.nb_inj hp hq e)))
    · refine (h.up r (by simp [hr])).imp id (key _ (fun e => ?_))
      exact hn.2.1 (e ▸ List.mem_map_of_mem (f := (·.nb)) hr)
  · intro r hr
    simp only [List.mem_cons] at hr
    rcases hr with rfl | hr
    · exact h.byte p hp
    · exact h.byte r (by simp [hr])
  · intro r hr b s hs
    simp only [List.mem_cons] at hr
    rcases hr with rfl | hr
    · exact h.vbyte p hp b s hs
    · exact h.vbyte r (by simp [hr]) b s hs
/-- A node with one kid taken away: the kid stands in its place. -/
theorem WF.del1 (h : WF (p :: q :: o :: S) base root) (hc : al p.kids c = some q.nb) {c2 : Int} (hk : q.kids = [(c2, o.nb)]) : WF ({ p with kids := mput (mdel p.kids c) c o.nb } :: { o with lab := q.lab ++ o.lab } :: S) base root := by
  have hp : p ∈ p :: q :: o :: S := by simp
  have hq : q ∈ p :: q :: o :: S := by simp
  have ho : o ∈ p :: q :: o :: S := by simp
  have hc2 : al q.kids c2 = some o.nb := by rw [hk]; simp [al]
  obtain ⟨hpq, hqb⟩ := h.kid_ne hp hq hc
  obtain ⟨hqo, hob⟩ := h.kid_ne hq ho hc2
  obtain ⟨e1, e2⟩ := h.kid' hp hq hc
  obtain ⟨f1, f2⟩ := h.kid' hq ho hc2
  have hn := h.nbs
  have ha := h.paths
  simp only [List.map_cons, List.nodup_cons, List.mem_cons, not_or] at hn ha
  have kp : ∀ c', al (mput (mdel p.kids c) c o.nb) c' = if c = c' then some o.nb else al p.kids c' := fun c' => by
    rw [al_put]; split
    · rfl
    · rename_i e; rw [al_del (h.keys p hp), if_neg e]
  have dn : ∀ r, r ∈ p :: q :: o :: S → r.nb ≠ q.nb → ∃ r' ∈ ({ p with kids := mput (mdel p.kids c) c o.nb } : TRec) :: { o with lab := q.lab ++ o.lab } :: S, r'.nb = r.nb ∧ r'.path = r.path ∧ (r.nb ≠ o.nb → r'.lab = r.lab) := fun r hr hne => by
    simp only [List.mem_cons] at hr
    rcases hr with rfl | rfl | rfl | hr
    · exact ⟨_, List.mem_cons_self .., rfl, rfl, fun _ => rfl⟩
    · exact (hne rfl).elim
    · exact ⟨{ r with lab := q.lab ++ r.lab }, by simp, rfl, rfl, fun h => (h rfl).elim⟩
    · exact ⟨r, by simp [hr], rfl, rfl, fun _ => rfl⟩
  have oldk : ∀ p' ∈ p :: q :: o :: S, p' ≠ q → ∀ c' b', al p'.kids c' = some b' → b' ≠ q.nb → ∃ r ∈ ({ p with kids := mput (mdel p.kids c) c o.nb } : TRec) :: { o with lab := q.lab ++ o.lab } :: S, r.nb = b' ∧ r.path = p'.path ++ r.lab ∧ r.lab.head? = some c' := fun p' hp' hpq' c' b' hc' hne => by
    obtain ⟨r, h1, h2, h3, h4⟩ := h.kid p' hp' c' b' hc'
    obtain ⟨r', a1, a2, a3, a4⟩ := dn r h1 (by rw [h2]; exact hne)
    have a5 := a4 (fun e => hpq' ((h.only hq hp' ho hc2 (by rw [hc', ← h2, e])).1))
    exact ⟨r', a1, a2.trans h2, by rw [a3, a5]; exact h3, by rw [a5]; exact h4⟩
  have key : ∀ b', b' ≠ q.nb → b' ≠ o.nb → (∃ p' ∈ p :: q :: o :: S, ∃ c', al p'.kids c' = some b') → ∃ p' ∈ ({ p with kids := mput (mdel p.kids c) c o.nb } : TRec) :: { o with lab := q.lab ++ o.lab } :: S, ∃ c', al p'.kids c' = some b' := by
    rintro b' hne hne2 ⟨p', hp', c', hc'⟩
    simp only [List.mem_cons] at hp'
    rcases hp' with rfl | rfl | rfl | hp'
    · refine ⟨_, List.mem_cons_self .., c', ?_⟩
      dsimp only
      rw [kp, if_neg (fun e => by rw [e] at hc; rw [hc] at hc'; exact hne (by injection hc' with e; exact e.symm))]; exact hc'
    · rw [hk] at hc'
      unfold al at hc'
      split at hc'
      · exact (hne2 (by injection hc' with e; exact e.symm)).elim
      · cases hc'
    · exact ⟨{ p' with lab := q.lab ++ p'.lab }, by simp, c', hc'⟩
    · exact ⟨p', by simp [hp'], c', hc'⟩
  refine ⟨?_, ?_, ?_, ?_, ?_, ?_, ?_, ?_⟩
  · obtain ⟨r, h1, h2, h3⟩ := h.root
    obtain ⟨r', a1, a2, a3, _⟩ := dn r h1 (fun e => hqb (by rw [← h.nb_inj h1 hq e]; exact h3))
    exact ⟨r', a1, a2.trans h2, a3.trans h3⟩
  · simp only [List.map_cons, List.nodup_cons, List.mem_cons, not_or]
    exact ⟨⟨hn.1.2.1, hn.1.2.2⟩, hn.2.2⟩
  · simp only [List.map_cons, List.nodup_cons, List.mem_cons, not_or]
    exact ⟨⟨ha.1.2.1, ha.1.2.2⟩, ha.2.2⟩
  · intro r hr
    simp only [List.mem_cons] at hr
    rcases hr with rfl | rfl | hr
    · exact ((h.keys p hp).del c).put c _
    · exact h.keys o ho
    · exact h.keys r (by simp [hr])
  · intro r hr c' b' hc'
    simp only [List.mem_cons] at hr
    rcases hr with rfl | rfl | hr
    · dsimp only at hc' ⊢
      rw [kp] at hc'
      split at hc'
      · rename_i e; subst e; cases hc'
        refine ⟨{ o with lab := q.lab ++ o.lab }, by simp, rfl, by dsimp only; rw [f1, e1, List.append_assoc], ?_⟩
        dsimp only
        rw [List.head?_append, e2]; rfl
      · rename_i e
        exact oldk p hp hpq c' b' hc' (fun e2 => by subst e2; exact e (h.only hp hp hq hc hc').2.symm)
    · exact oldk o ho (fun e => hqo e.symm) c' b' hc' (fun e2 => by
        subst e2
        have := (h.only hp ho hq hc hc').1
        exact hn.1.2.1 (by rw [this]))
    · refine oldk r (by simp [hr]) (fun e => hn.2.1.2 (e ▸ List.mem_map_of_mem (f := (·.nb)) hr)) c' b' hc' (fun e2 => ?_)
      subst e2
      have e := (h.only hp (by simp [hr]) hq hc hc').1
      subst e
      exact hn.1.2.2 (List.mem_map_of_mem (f := (·.nb)) hr)
  · intro r hr
    simp only [List.mem_cons] at hr
    rcases hr with rfl | rfl | hr
    · exact (h.up p hp).imp id (key _ (fun e => hpq (h.nb_inj hp hq e)) hn.1.2.1)
    · exact .inr ⟨_, List.mem_cons_self .., c, by dsimp only; rw [kp, if_pos rfl]⟩
    · refine (h.up r (by simp [hr])).imp id (key _ (fun e => ?_) (fun e => ?_))
      · exact hn.2.1.2 (e ▸ List.mem_map_of_mem (f := (·.nb)) hr)
      · exact hn.2.2.1 (e ▸ List.mem_map_of_mem (f := (·.nb)) hr)
  · intro r hr
    simp only [List.mem_cons] at hr
    rcases hr with rfl | rfl | hr
    · exact h.byte p hp
    · obtain ⟨b1, b2, b3, b4⟩ := h.byte o ho
      refine ⟨b1, b2, fun n hn => (List.mem_append.1 hn).elim ((h.byte q hq).2.2.1 n) (b3 n), ?_⟩
      rw [f1, e1] at b2
      simp only [List.length_append] at b2 ⊢
      omega
    · exact h.byte r (by simp [hr])
  · intro r hr b s hs
    simp only [List.mem_cons] at hr
    rcases hr with rfl | rfl | hr
    · exact h.vbyte p hp b s hs
    · exact h.vbyte o ho b s hs
    · exact h.vbyte r (by simp [hr]) b s hs
end
/-! ### Entries of nodes -/
def EntOf (S : List TRec) (l : List Ent) : Prop := Sorted l ∧ ∀ k v, (k, v) ∈ l ↔ ∃ r ∈ S, r.path = k ∧ ∃ b, r.val = some (b, v)
def Full (r : TRec) : Prop := r.val.isSome = true ∨ 2 ≤ r.kids.length
def MinBut (S : List TRec) (base x : Str) : Prop := ∀ r ∈ S, r.path ≠ base → r.path ≠ x → Full r
theorem al_len {α : Type} {m : List (Int × α)} (h : 0 < m.length) : ∃ c x, al m c = some x := by
  cases m with
  | nil => simp at h
  | cons p m => exact ⟨p.1, p.2, by simp [al]⟩
theorem al_len2 {α : Type} {m : List (Int × α)} (hk : Keys m) (h : 2 ≤ m.length) : ∃ c x c' x', c < c' ∧ al m c = some x ∧ al m c' = some x' := by
  match m, h with
  | p :: q :: m, _ =>
    unfold Keys at hk
    simp only [List.map_cons, List.nodup_cons, List.mem_cons, not_or] at hk
    have hne := hk.1.1
    have h1 : al (p :: q :: m) p.1 = some p.2 := by simp [al]
    have h2 : al (p :: q :: m) q.1 = some q.2 := by simp [al, hne]
    rcases Int.lt_or_gt_of_ne hne with h | h
    · exact ⟨_, _, _, _, h, h1, h2⟩
    · exact ⟨_, _, _, _, h, h2, h1⟩
def lcp : Str → Str → Str
  | x :: xs, y :: ys => if x = y then x :: lcp xs ys else []
  | _, _ => []
theorem lcp_left : ∀ a b, lcp a b <+: a
  | [], _ => by simp [lcp]
  | _ :: _, [] => by simp [lcp]
  | x :: xs, y :: ys => by
    unfold lcp
    split
    · rw [List.prefix_cons_inj]; exact lcp_left xs ys
    · exact List.nil_prefix
theorem lcp_right : ∀ a b, lcp a b <+: b
  | [], _ => by simp [lcp]
  | _ :: _, [] => by simp [lcp]
  | x :: xs, y :: ys => by
    unfold lcp
    split
    · rename_i e; subst e; rw [List.prefix_cons_inj]; exact lcp_right xs ys
    · exact List.nil_prefix
theorem lcp_most : ∀ {p a b : Str}, p <+: a → p <+: b → p <+: lcp a b
  | [], _, _, _, _ => List.nil_prefix
  | x :: p, a, b, ha, hb => by
    obtain ⟨s, rfl⟩ := ha
    obtain ⟨t, rfl⟩ := hb
    show x :: p <+: lcp (x :: (p ++ s)) (x :: (p ++ t))
    unfold lcp
    rw [if_pos rfl, List.prefix_cons_inj]
    exact lcp_most (List.prefix_append _ _) (List.prefix_append _ _)
theorem pre_eq {p q : Str} (h : p <+: q) (hl : q.length ≤ p.length) : p = q := h.eq_of_length (by have := h.length_le; omega)
theorem pre_snoc {p k : Str} (h : p <+: k) (hn : p ≠ k) : ∃ c, p ++ [c] <+: k := by
  obtain ⟨t, rfl⟩ := h
  cases t with
  | nil => simp at hn
  | cons c t => exact ⟨c, t, by simp⟩
theorem snoc_inj {p k : Str} {c c' : Int} (h : p ++ [c] <+: k) (h' : p ++ [c'] <+: k) : c = c' := by
  have := (List.prefix_of_prefix_length_le h h' (by simp)).eq_of_length (by simp)
  simpa using this
theorem lcp_eq {p a b : Str} {c c' : Int} (ha : p ++ [c] <+: a) (hb : p ++ [c'] <+: b) (hc : c ≠ c') : lcp a b = p := by
  have h1 : p <+: lcp a b := lcp_most ((List.prefix_append _ _).trans ha) ((List.prefix_append _ _).trans hb)
  refine Decidable.byContradiction fun hn => ?_
  obtain ⟨d, hd⟩ := pre_snoc h1 (fun e => hn e.symm)
  exact hc ((snoc_inj ha (hd.trans (lcp_left _ _))).trans (snoc_inj hb (hd.trans (lcp_right _ _))).symm)
theorem mid_pre : ∀ {p a b c : Str}, p <+: a → p <+: c → lxl a b = true → (lxl b c = true ∨ b = c) → p <+: b
  | [], _, _, _, _, _, _, _ => List.nil_prefix
  | x :: p, a, b, c, ha, hc, h1, h2 => by
    rcases h2 with h2 | rfl
    · obtain ⟨s, rfl⟩ := ha
      obtain ⟨t, rfl⟩ := hc
      cases b with
      | nil => simp [lxl] at h1
      | cons y b =>
        simp only [List.cons_append, lxl, Bool.or_eq_true, Bool.and_eq_true, decide_eq_true_eq] at h1 h2
        have e : x = y := by omega
        subst e
        rw [List.prefix_cons_inj]
        refine mid_pre (List.prefix_append p s) (List.prefix_append p t) ?_ (.inl ?_)
        · rcases h1 with h1 | h1; omega; exact h1.2
        · rcases h2 with h1 | h1; omega; exact h1.2
    · exact hc
section
variable {S S' : List TRec} {base : Str} {root : Nat} {l : List Ent}
theorem WF.leaf (h : WF S base root) (hm : MinBut S base base) : ∀ (n : Nat) {r : TRec}, 1000000 - r.path.length < n → r ∈ S → r.path ≠ base → ∃ r' ∈ S, r.path <+: r'.path ∧ r'.val.isSome = true
  | 0, r, hn, _, _ => by omega
  | n + 1, r, hn, hr, hb => by
    rcases hm r hr hb hb with h1 | h1
    · exact ⟨r, hr, List.prefix_refl _, h1⟩
    · obtain ⟨c, b, hc⟩ := al_len (m := r.kids) (by omega)
      obtain ⟨q, hq, rfl, e1, e2⟩ := h.kid r hr c b hc
      have h0 := List.length_pos_iff.2 (head_ne e2)
      have hl := (h.byte q hq).2.1
      have e3 := congrArg List.length e1
      rw [List.length_append] at e3
      obtain ⟨r', a1, a2, a3⟩ := WF.leaf h hm n (r := q) (by omega) hq (h.kid_ne hr hq hc).2
      exact ⟨r', a1, List.IsPrefix.trans ⟨q.lab, e1.symm⟩ a2, a3⟩
theorem WF.lcp_mem (h : WF S [] root) {r r' : TRec} (hr : r ∈ S) (hr' : r' ∈ S) : ∃ s ∈ S, s.path = lcp r.path r'.path := by
  have key : ∀ (n : Nat) (p : TRec), p ∈ S → p.path <+: lcp r.path r'.path → (lcp r.path r'.path).length - p.path.length ≤ n → ∃ s ∈ S, s.path = lcp r.path r'.path := by
    intro n
    induction n with
    | zero => intro p hp h1 h2; exact ⟨p, hp, pre_eq h1 (by omega)⟩
    | succ n ih =>
      intro p hp h1 h2
      by_cases hn : p.path = lcp r.path r'.path
      · exact ⟨p, hp, hn⟩
      · obtain ⟨c, hc⟩ := pre_snoc h1 hn
        obtain ⟨q, hq, e0, e1, e2, e3⟩ := h.down _ (Nat.le_refl _) hr hp (hc.trans (lcp_left _ _))
        have e4 := h.below hr' hp hq e0 (hc.trans (lcp_right _ _))
        have h0 := List.length_pos_iff.2 (head_ne e2)
        have e5 := congrArg List.length e1
        rw [List.length_append] at e5
        exact ih q hq (lcp_most e3 e4) (by omega)
  obtain ⟨p, hp, _, hb⟩ := h.root
  exact key _ p hp (hb ▸ List.nil_prefix) (Nat.le_refl _)
def gk (l : List Ent) (i : Nat) : Str := (l.getD i ([], [])).1
def allN (l : List Ent) : Nat → List Ent
  | 0 => [([], [])]
  | i + 1 => if 0 < i then putL (putL (allN l i) (gk l i) []) (lcp (gk l (i - 1)) (gk l i)) [] else putL (allN l i) (gk l i) []
def nodesL (l : List Ent) : Nat := (allN l l.length).length
theorem allN_sorted (l : List Ent) : ∀ n, Sorted (allN l n)
  | 0 => by simp [allN, Sorted]
  | n + 1 => by
    unfold allN
    split
    · exact putL_sorted (putL_sorted (allN_sorted l n) _ _) _ _
    · exact putL_sorted (allN_sorted l n) _ _
theorem mem_allN (l : List Ent) : ∀ n (e : Ent), e ∈ allN l n ↔ e.2 = [] ∧ (e.1 = [] ∨ ∃ i, i < n ∧ (e.1 = gk l i ∨ (0 < i ∧ e.1 = lcp (gk l (i - 1)) (gk l i))))
  | 0, e => by
    unfold allN
    rw [List.mem_singleton]
    constructor
    · rintro rfl; exact ⟨rfl, .inl rfl⟩
    · rintro ⟨h1, h2 | ⟨i, h, _⟩⟩
      · exact Prod.ext h2 h1
      · omega
  | n + 1, e => by
    have ih := mem_allN l n e
    have hput : ∀ k, (e ∈ putL (allN l n) k [] ↔ e.2 = [] ∧ (e.1 = k ∨ e.1 = [] ∨ ∃ i, i < n ∧ (e.1 = gk l i ∨ (0 < i ∧ e.1 = lcp (gk l (i - 1)) (gk l i))))) := fun k => by
      rw [mem_putL, ih]
      constructor
      · rintro (rfl | ⟨⟨h1, h2⟩, _⟩)
        · exact ⟨rfl, .inl rfl⟩
        · exact ⟨h1, .inr h2⟩
      · rintro ⟨h1, h2⟩
        by_cases hk : e.1 = k
        · exact .inl (Prod.ext hk h1)
        · exact .inr ⟨⟨h1, h2.resolve_left hk⟩, hk⟩
    unfold allN
    split
    · rename_i hi
      rw [mem_putL, hput]
      constructor
      · rintro (rfl | ⟨⟨h1, h2⟩, _⟩)
        · exact ⟨rfl, .inr ⟨n, by omega, .inr ⟨hi, rfl⟩⟩⟩
        · refine ⟨h1, ?_⟩
          rcases h2 with h2 | h2 | ⟨i, h3, h4⟩
          · exact .inr ⟨n, by omega, .inl h2⟩
          · exact .inl h2
          · exact .inr ⟨i, by omega, h4⟩
      · rintro ⟨h1, h2⟩
        by_cases hk : e.1 = lcp (gk l (n - 1)) (gk l n)
        · exact .inl (Prod.ext hk h1)
        · refine .inr ⟨⟨h1, ?_⟩, hk⟩
          rcases h2 with h2 | ⟨i, h3, h4⟩
          · exact .inr (.inl h2)
          · by_cases hin : i = n
            · subst hin
              rcases h4 with h4 | h4
              · exact .inl h4
              · exact (hk h4.2).elim
            · exact .inr (.inr ⟨i, by omega, h4⟩)
    · rename_i hi
      rw [hput]
      refine and_congr Iff.rfl ⟨?_, ?_⟩
      · rintro (h2 | h2 | ⟨i, h3, h4⟩)
        · exact .inr ⟨n, by omega, .inl h2⟩
        · exact .inl h2
        · exact .inr ⟨i, by omega, h4⟩
      · rintro (h2 | ⟨i, h3, h4⟩)
        · exact .inr (.inl h2)
        · by_cases hin : i = n
          · subst hin
            rcases h4 with h4 | h4
            · exact .inl h4
            · omega
          · exact .inr (.inr ⟨i, by omega, h4⟩)
theorem gk_mem {l : List Ent} {i : Nat} (h : i < l.length) : ∃ v, (gk l i, v) ∈ l := by
  unfold gk
  rw [List.getD_eq_getElem?_getD, List.getElem?_eq_getElem h]
  exact ⟨l[i].2, List.getElem_mem h⟩
theorem mem_gk {l : List Ent} {k v : Str} (h : (k, v) ∈ l) : ∃ i, i < l.length ∧ gk l i = k := by
  obtain ⟨i, hi, e⟩ := List.getElem_of_mem h
  exact ⟨i, hi, by unfold gk; rw [List.getD_eq_getElem?_getD, List.getElem?_eq_getElem hi]; simp [e]⟩
theorem gk_lt {l : List Ent} (hs : Sorted l) {i j : Nat} (hij : i < j) (hj : j < l.length) : lxl (gk l i) (gk l j) = true := by
  unfold gk
  rw [List.getD_eq_getElem?_getD, List.getD_eq_getElem?_getD, List.getElem?_eq_getElem hj, List.getElem?_eq_getElem (by omega : i < l.length)]
  exact List.pairwise_iff_getElem.1 hs i j (by omega) hj hij
theorem WF.count (h : WF S [] root) (hm : MinBut S [] []) (he : EntOf S l) : S.length = nodesL l := by
  have hk : Keys (allN l l.length) := (allN_sorted l _).keys
  have hp : (S.map (·.path)).Perm ((allN l l.length).map (·.1)) := by
    refine (List.perm_ext_iff_of_nodup h.paths hk).2 fun k => ?_
    have hmem : k ∈ (allN l l.length).map (·.1) ↔ (k = [] ∨ ∃ i, i < l.length ∧ (k = gk l i ∨ (0 < i ∧ k = lcp (gk l (i - 1)) (gk l i)))) := by
      constructor
      · intro hx
        obtain ⟨e, h1, rfl⟩ := List.mem_map.1 hx
        exact ((mem_allN l _ e).1 h1).2
      · intro hx
        exact List.mem_map.2 ⟨(k, []), (mem_allN l _ _).2 ⟨rfl, hx⟩, rfl⟩
    rw [hmem]
    have key_mem : ∀ i, i < l.length → ∃ r ∈ S, r.path = gk l i := fun i hi => by
      obtain ⟨v, hv⟩ := gk_mem hi
      obtain ⟨r, h1, h2, _⟩ := (he.2 _ _).1 hv
      exact ⟨r, h1, h2⟩
    constructor
    · intro hx
      obtain ⟨r, hr, rfl⟩ := List.mem_map.1 hx
      by_cases hb : r.path = []
      · exact .inl hb
      · rcases hm r hr hb hb with h1 | h1
        · obtain ⟨⟨b, v⟩, hv⟩ := Option.isSome_iff_exists.1 h1
          obtain ⟨i, hi, e⟩ := mem_gk ((he.2 r.path v).2 ⟨r, hr, rfl, b, hv⟩)
          exact .inr ⟨i, hi, .inl e.symm⟩
        · obtain ⟨c, x, c', x', hcc, a1, a2⟩ := al_len2 (h.keys r hr) h1
          have sub : ∀ {c x}, al r.kids c = some x → ∃ i, i < l.length ∧ r.path ++ [c] <+: gk l i := fun {c x} hc => by
            obtain ⟨q, hq, rfl, e1, e2⟩ := h.kid r hr c x hc
            obtain ⟨s, hs, e3, e4⟩ := h.leaf hm _ (Nat.lt_succ_self _) hq (h.kid_ne hr hq hc).2
            obtain ⟨⟨b, v⟩, hv⟩ := Option.isSome_iff_exists.1 e4
            obtain ⟨i, hi, e⟩ := mem_gk ((he.2 s.path v).2 ⟨s, hs, rfl, b, hv⟩)
            exact ⟨i, hi, by rw [e]; exact (e1 ▸ head_snoc e2).trans e3⟩
          obtain ⟨i, hi, b1⟩ := sub a1
          obtain ⟨j, hj, b2⟩ := sub a2
          have hij : i < j := by
            rcases Nat.lt_trichotomy i j with h | h | h
            · exact h
            · subst h; have := snoc_inj b1 b2; omega
            · have := lxl_trans (gk_lt he.1 h hi) (lxl_kid b1 b2 hcc); rw [lxl_irr] at this; cases this
          -- the last one behind i that goes on with c
          have step : ∀ d i, i + d = j → r.path ++ [c] <+: gk l i → ∃ m, 0 < m ∧ m ≤ j ∧ r.path ++ [c] <+: gk l (m - 1) ∧ ¬ r.path ++ [c] <+: gk l m := by
            intro d
            induction d with
            | zero => intro i e hb1; have e : i = j := by omega
                      subst e; have := snoc_inj hb1 b2; omega
            | succ d ih =>
              intro i e hb1
              by_cases hc1 : r.path ++ [c] <+: gk l (i + 1)
              · exact ih (i + 1) (by omega) hc1
              · exact ⟨i + 1, by omega, by omega, hb1, hc1⟩
          obtain ⟨m, m0, m1, m2, m3⟩ := step (j - i) i (by omega) b1
          have hlt : lxl (gk l (m - 1)) (gk l m) = true := gk_lt he.1 (by omega) (by omega)
          have hpm : r.path <+: gk l m := mid_pre ((List.prefix_append _ _).trans m2) ((List.prefix_append _ _).trans b2) hlt (by
            by_cases e : m = j
            · exact .inr (by rw [e])
            · exact .inl (gk_lt he.1 (by omega) hj))
          have hne : r.path ≠ gk l m := fun e => by
            have h5 : lxl r.path (gk l (m - 1)) = true := lxl_pre ((List.prefix_append _ _).trans m2) (fun e2 => by
              have := m2.length_le; rw [← e2, List.length_append, List.length_singleton] at this; omega)
            rw [← e] at hlt
            have := lxl_trans h5 hlt; rw [lxl_irr] at this; cases this
          obtain ⟨d, hd⟩ := pre_snoc hpm hne
          exact .inr ⟨m, by omega, .inr ⟨m0, (lcp_eq m2 hd (fun e => m3 (e ▸ hd))).symm⟩⟩
    · rintro (rfl | ⟨i, hi, rfl | ⟨h0, rfl⟩⟩)
      · obtain ⟨r, h1, _, h2⟩ := h.root
        exact List.mem_map.2 ⟨r, h1, h2⟩
      · obtain ⟨r, h1, h2⟩ := key_mem i hi
        exact List.mem_map.2 ⟨r, h1, h2⟩
      · obtain ⟨r, h1, h2⟩ := key_mem i hi
        obtain ⟨r', h1', h2'⟩ := key_mem (i - 1) (by omega)
        obtain ⟨s, h3, h4⟩ := h.lcp_mem h1' h1
        exact List.mem_map.2 ⟨s, h3, by rw [h4, h2, h2']⟩
  have := hp.length_eq
  rw [List.length_map, List.length_map] at this
  exact this
theorem length_putL (l : List Ent) (k v : Str) (hs : Sorted l) : (putL l k v).length ≤ l.length + 1 := by
  have h1 := (putL_sorted hs k v).keys
  unfold putL
  rw [List.length_append, List.length_cons]
  have : ∀ l : List Ent, (l.filter fun e => lxl e.1 k).length + (l.filter fun e => lxl k e.1).length ≤ l.length := by
    intro l
    induction l with
    | nil => simp
    | cons e l ih =>
      rw [List.filter_cons, List.filter_cons]
      cases h : lxl e.1 k
      · cases h2 : lxl k e.1 <;> simp <;> omega
      · rw [lxl_asym h]; simp; omega
  have h2 := this l
  have h3 : (List.filter (fun e => lxl e.1 k) l).length + ((List.filter (fun e => lxl k e.1) l).length + 1) = (List.filter (fun e => lxl e.1 k) l).length + (List.filter (fun e => lxl k e.1) l).length + 1 := by omega
  exact h3 ▸ Nat.succ_le_succ h2
theorem nodesL_le (l : List Ent) : nodesL l ≤ 2 * l.length + 1 := by
  have : ∀ n, (allN l n).length ≤ 2 * n + 1 := by
    intro n
    induction n with
    | zero => simp [allN]
    | succ n ih =>
      unfold allN
      have h1 := length_putL (allN l n) (gk l n) [] (allN_sorted l n)
      have h2 := length_putL (putL (allN l n) (gk l n) []) (lcp (gk l (n - 1)) (gk l n)) [] (putL_sorted (allN_sorted l n) _ _)
      split <;> omega
  exact this _
end
/-! ### What lies below a node -/
def underL (l : List Ent) (p : Str) : List Ent := l.filter fun e => decide (p <+: e.1)
def valL (p : TRec) : List Ent := match p.val with | some (_, v) => [(p.path, v)] | none => []
/-- A node's kid at a byte. -/
def kidAt (S : List TRec) (p : TRec) (c : Int) : Str := match al p.kids c with | some b => (((S.find? fun r => r.nb == b).map (·.path)).getD []) | none => []
theorem find_nb {S : List TRec} (hn : (S.map (·.nb)).Nodup) {q : TRec} (hq : q ∈ S) : S.find? (fun r => r.nb == q.nb) = some q := by
  cases h : S.find? (fun r => r.nb == q.nb) with
  | none => exact absurd (List.find?_eq_none.1 h q hq) (by simp)
  | some r =>
    have h1 := List.find?_some h
    have h2 := List.mem_of_find?_eq_some h
    rw [nodup_inj hn h2 hq (by simpa using h1)]
section
variable {S S' : List TRec} {base : Str} {root : Nat} {l : List Ent} {p q : TRec} {c : Int}
theorem WF.kidAt_eq (h : WF S base root) (hq : q ∈ S) (hc : al p.kids c = some q.nb) : kidAt S p c = q.path := by
  unfold kidAt
  rw [hc]
  dsimp only
  rw [find_nb h.nbs hq]; rfl
theorem mem_underL {e : Ent} {p : Str} : e ∈ underL l p ↔ e ∈ l ∧ p <+: e.1 := by simp [underL]
theorem EntOf.mem (he : EntOf S l) {r : TRec} (hr : r ∈ S) {b : Nat} {v : Str} (hv : r.val = some (b, v)) : (r.path, v) ∈ l := (he.2 _ _).2 ⟨r, hr, rfl, b, hv⟩
/-- What a node's iterator tells: its value, and what its kids' tell, by rising bytes. -/
theorem each_eq (h : WF S base root) (he : EntOf S l) (hp : p ∈ S) {ks : List Int} (hs : ks.Pairwise (· < ·)) (hk : ∀ c, c ∈ ks ↔ (al p.kids c).isSome = true) :
    underL l p.path = valL p ++ ks.flatMap (fun c => underL l (kidAt S p c)) := by
  have kid_of : ∀ c, c ∈ ks → ∃ q ∈ S, al p.kids c = some q.nb ∧ q.path = p.path ++ q.lab ∧ q.lab.head? = some c ∧ kidAt S p c = q.path := fun c hc => by
    obtain ⟨b, hb⟩ := Option.isSome_iff_exists.1 ((hk c).1 hc)
    obtain ⟨q, hq, rfl, e1, e2⟩ := h.kid p hp c b hb
    exact ⟨q, hq, hb, e1, e2, h.kidAt_eq hq hb⟩
  have sub_of : ∀ c, c ∈ ks → ∀ e, e ∈ underL l (kidAt S p c) → e ∈ l ∧ p.path ++ [c] <+: e.1 := fun c hc e hm => by
    obtain ⟨q, hq, e0, e1, e2, e3⟩ := kid_of c hc
    rw [e3, mem_underL] at hm
    exact ⟨hm.1, (e1 ▸ head_snoc e2).trans hm.2⟩
  refine sorted_ext (he.1.filter _) ?_ fun e => ?_
  · unfold Sorted
    rw [List.pairwise_append]
    refine ⟨?_, ?_, fun a ha b hb => ?_⟩
    · unfold valL; split
      · exact List.pairwise_singleton _ _
      · exact List.Pairwise.nil
    · rw [List.pairwise_flatMap]
      refine ⟨fun c _ => he.1.filter _, ?_⟩
      refine hs.imp_of_mem ?_
      intro c c' hc hc' hlt a ha b hb
      exact lxl_kid (sub_of c hc a ha).2 (sub_of c' hc' b hb).2 hlt
    · obtain ⟨c, hc, hb⟩ := List.mem_flatMap.1 hb
      unfold valL at ha
      split at ha
      · rw [List.mem_singleton] at ha
        subst ha
        have h1 := (sub_of c hc b hb).2
        exact lxl_pre ((List.prefix_append _ _).trans h1) (fun e => by have := h1.length_le; rw [← e, List.length_append, List.length_singleton] at this; dsimp only at this; omega)
      · cases ha
  · rw [mem_underL, List.mem_append, List.mem_flatMap]
    constructor
    · rintro ⟨h1, h2⟩
      obtain ⟨k, v⟩ := e
      dsimp only at h2
      obtain ⟨r, hr, rfl, b, hv⟩ := (he.2 k v).1 h1
      by_cases hn : p.path = r.path
      · have e := h.path_inj hp hr hn
        subst e
        refine .inl ?_
        unfold valL; rw [hv]; simp
      · obtain ⟨c, hc⟩ := pre_snoc h2 hn
        obtain ⟨q, hq, e0, e1, e2, e3⟩ := h.down _ (Nat.le_refl _) hr hp hc
        exact .inr ⟨c, (hk c).2 (by rw [e0]; rfl), by rw [h.kidAt_eq hq e0, mem_underL]; exact ⟨h1, e3⟩⟩
    · rintro (h1 | ⟨c, hc, h1⟩)
      · unfold valL at h1
        split at h1
        · rename_i b v hv
          rw [List.mem_singleton] at h1
          subst h1
          exact ⟨he.mem hp hv, List.prefix_refl _⟩
        · cases h1
      · obtain ⟨h2, h3⟩ := sub_of c hc e h1
        exact ⟨h2, (List.prefix_append _ _).trans h3⟩
/-! ### A copy -/
def sh (r : TRec) : Str × Str × Option (Nat × Str) × Nat := (r.path, r.lab, r.val, r.kids.length)
def underS (S : List TRec) (p : Str) : List TRec := S.filter fun r => decide (p <+: r.path)
theorem mem_underS {r : TRec} {p : Str} : r ∈ underS S p ↔ r ∈ S ∧ p <+: r.path := by simp [underS]
theorem nodup_of_map {α β : Type} {f : α → β} {l : List α} (h : (l.map f).Nodup) : l.Nodup := by
  induction l with
  | nil => exact List.nodup_nil
  | cons x l ih =>
    rw [List.map_cons, List.nodup_cons] at h
    exact List.nodup_cons.2 ⟨fun hm => h.1 (List.mem_map_of_mem hm), ih h.2⟩
theorem nodup_flatMap {α β : Type} {f : α → List β} : ∀ {l : List α}, (∀ a ∈ l, (f a).Nodup) → l.Pairwise (fun a b => ∀ x ∈ f a, ∀ y ∈ f b, x ≠ y) → (l.flatMap f).Nodup
  | [], _, _ => by simp
  | a :: l, h1, h2 => by
    rw [List.pairwise_cons] at h2
    rw [List.flatMap_cons, List.nodup_append]
    refine ⟨h1 a (by simp), nodup_flatMap (fun b hb => h1 b (by simp [hb])) h2.2, fun x hx y hy => ?_⟩
    obtain ⟨b, hb, hy⟩ := List.mem_flatMap.1 hy
    exact h2.1 b hb x hx y hy
theorem under_split (h : WF S base root) (hp : p ∈ S) : (underS S p.path).Perm (p :: p.kids.flatMap (fun kb => underS S (kidAt S p kb.1))) := by
  have hS : S.Nodup := nodup_of_map h.nbs
  have kid_of : ∀ kb ∈ p.kids, ∃ q ∈ S, al p.kids kb.1 = some q.nb ∧ q.path = p.path ++ q.lab ∧ q.lab.head? = some kb.1 ∧ kidAt S p kb.1 = q.path := fun kb hkb => by
    have hb := al_of_mem (h.keys p hp) (k := kb.1) (x := kb.2) hkb
    obtain ⟨q, hq, e0, e1, e2⟩ := h.kid p hp kb.1 kb.2 hb
    rw [← e0] at hb
    exact ⟨q, hq, hb, e1, e2, h.kidAt_eq hq hb⟩
  have sub_of : ∀ kb ∈ p.kids, ∀ r ∈ underS S (kidAt S p kb.1), r ∈ S ∧ p.path ++ [kb.1] <+: r.path := fun kb hkb r hm => by
    obtain ⟨q, hq, e0, e1, e2, e3⟩ := kid_of kb hkb
    rw [e3, mem_underS] at hm
    exact ⟨hm.1, (e1 ▸ head_snoc e2).trans hm.2⟩
  refine (List.perm_ext_iff_of_nodup (hS.filter _) ?_).2 fun r => ?_
  · rw [List.nodup_cons]
    refine ⟨fun hm => ?_, nodup_flatMap (fun kb _ => hS.filter _) ?_⟩
    · obtain ⟨kb, hkb, hm⟩ := List.mem_flatMap.1 hm
      have := (sub_of kb hkb p hm).2.length_le
      rw [List.length_append, List.length_singleton] at this; omega
    · have hk := h.keys p hp
      unfold Keys at hk
      rw [List.nodup_iff_pairwise_ne, List.pairwise_map] at hk
      refine hk.imp_of_mem ?_
      intro a b ha hb hne x hx y hy e
      subst e
      exact hne (snoc_inj (sub_of a ha x hx).2 (sub_of b hb x hy).2)
  · rw [show List.filter (fun r => decide (p.path <+: r.path)) S = underS S p.path from rfl, mem_underS, List.mem_cons, List.mem_flatMap]
    constructor
    · rintro ⟨hr, h2⟩
      by_cases hn : p.path = r.path
      · exact .inl (h.path_inj hr hp hn.symm)
      · obtain ⟨c, hc⟩ := pre_snoc h2 hn
        obtain ⟨q, hq, e0, e1, e2, e3⟩ := h.down _ (Nat.le_refl _) hr hp hc
        exact .inr ⟨(c, q.nb), al_mem e0, by dsimp only; rw [h.kidAt_eq hq e0, mem_underS]; exact ⟨hr, e3⟩⟩
    · rintro (rfl | ⟨kb, hkb, h1⟩)
      · exact ⟨hp, List.prefix_refl _⟩
      · obtain ⟨h2, h3⟩ := sub_of kb hkb r h1
        exact ⟨h2, (List.prefix_append _ _).trans h3⟩
/-- A tree hung below a node. -/
theorem WF.hang {o t : TRec} {T : List TRec} (h : WF (o :: S) base root) (hT : WF T t.path t.nb) (ht : t ∈ T) (hc : al o.kids c = none) (he : t.path = o.path ++ t.lab) (hh : t.lab.head? = some c) (hd : ∀ r ∈ o :: S, ∀ s ∈ T, r.nb ≠ s.nb) :
    WF ({ o with kids := mput o.kids c t.nb } :: (S ++ T)) base root := by
  have ho : o ∈ o :: S := by simp
  have hps : ∀ r ∈ o :: S, ∀ s ∈ T, r.path ≠ s.path := fun r hr s hs e => by
    refine h.miss hr ho hc ?_
    rw [e]
    exact (he ▸ head_snoc hh).trans (hT.base_pre _ (Nat.le_refl _) hs)
  have dn : ∀ r ∈ o :: S, ∃ r' ∈ ({ o with kids := mput o.kids c t.nb } : TRec) :: (S ++ T), r'.nb = r.nb ∧ r'.path = r.path ∧ r'.lab = r.lab := fun r hr => by
    rcases List.mem_cons.1 hr with rfl | hr
    · exact ⟨_, List.mem_cons_self .., rfl, rfl, rfl⟩
    · exact ⟨r, by simp [hr], rfl, rfl, rfl⟩
  have three : ∀ r, r ∈ ({ o with kids := mput o.kids c t.nb } : TRec) :: (S ++ T) → r = { o with kids := mput o.kids c t.nb } ∨ r ∈ S ∨ r ∈ T := fun r hr => by
    rcases List.mem_cons.1 hr with h1 | h1
    · exact .inl h1
    · exact .inr (List.mem_append.1 h1)
  have oldk : ∀ p' ∈ o :: S, ∀ c' b', al p'.kids c' = some b' → ∃ r ∈ ({ o with kids := mput o.kids c t.nb } : TRec) :: (S ++ T), r.nb = b' ∧ r.path = p'.path ++ r.lab ∧ r.lab.head? = some c' := fun p' hp' c' b' hc' => by
    obtain ⟨r, h1, h2, h3, h4⟩ := h.kid p' hp' c' b' hc'
    obtain ⟨r', a1, a2, a3, a4⟩ := dn r h1
    exact ⟨r', a1, a2.trans h2, by rw [a3, a4]; exact h3, by rw [a4]; exact h4⟩
  have key : ∀ b', (∃ p' ∈ o :: S, ∃ c', al p'.kids c' = some b') → ∃ p' ∈ ({ o with kids := mput o.kids c t.nb } : TRec) :: (S ++ T), ∃ c', al p'.kids c' = some b' := by
    rintro b' ⟨p', hp', c', hc'⟩
    rcases List.mem_cons.1 hp' with rfl | hp'
    · refine ⟨_, List.mem_cons_self .., c', ?_⟩
      dsimp only
      rw [al_put, if_neg (fun e => by rw [e] at hc; rw [hc] at hc'; cases hc')]; exact hc'
    · exact ⟨p', by simp [hp'], c', hc'⟩
  refine ⟨?_, ?_, ?_, ?_, ?_, ?_, ?_, ?_⟩
  · obtain ⟨r, h1, h2, h3⟩ := h.root
    obtain ⟨r', a1, a2, a3, _⟩ := dn r h1
    exact ⟨r', a1, a2.trans h2, a3.trans h3⟩
  · have := h.nbs
    simp only [List.map_cons, List.map_append, List.nodup_cons, List.mem_append, List.nodup_append] at this ⊢
    refine ⟨fun hm => ?_, this.2, hT.nbs, fun x hx y hy => ?_⟩
    · rcases hm with hm | hm
      · exact this.1 hm
      · obtain ⟨s, hs, e⟩ := List.mem_map.1 hm; exact hd o ho s hs e.symm
    · obtain ⟨r, hr, rfl⟩ := List.mem_map.1 hx
      obtain ⟨s, hs, rfl⟩ := List.mem_map.1 hy
      exact hd r (by simp [hr]) s hs
  · have := h.paths
    simp only [List.map_cons, List.map_append, List.nodup_cons, List.mem_append, List.nodup_append] at this ⊢
    refine ⟨fun hm => ?_, this.2, hT.paths, fun x hx y hy => ?_⟩
    · rcases hm with hm | hm
      · exact this.1 hm
      · obtain ⟨s, hs, e⟩ := List.mem_map.1 hm; exact hps o ho s hs e.symm
    · obtain ⟨r, hr, rfl⟩ := List.mem_map.1 hx
      obtain ⟨s, hs, rfl⟩ := List.mem_map.1 hy
      exact hps r (by simp [hr]) s hs
  · intro r hr
    rcases three r hr with rfl | hr | hr
    · exact (h.keys o ho).put c _
    · exact h.keys r (by simp [hr])
    · exact hT.keys r hr
  · intro r hr c' b' hc'
    rcases three r hr with rfl | hr | hr
    · dsimp only at hc' ⊢
      rw [al_put] at hc'
      split at hc'
      · rename_i e; subst e; cases hc'
        exact ⟨t, by simp [ht], rfl, he, hh⟩
      · exact oldk o ho c' b' hc'
    · exact oldk r (by simp [hr]) c' b' hc'
    · obtain ⟨s, h1, h2⟩ := hT.kid r hr c' b' hc'
      exact ⟨s, by simp [h1], h2⟩
  · intro r hr
    rcases three r hr with rfl | hr | hr
    · exact (h.up o ho).imp id (key _)
    · exact (h.up r (by simp [hr])).imp id (key _)
    · rcases hT.up r hr with h1 | ⟨s, h1, h2⟩
      · refine .inr ⟨_, List.mem_cons_self .., c, ?_⟩
        dsimp only
        rw [al_put, if_pos rfl, hT.path_inj hr ht h1]
      · exact .inr ⟨s, by simp [h1], h2⟩
  · intro r hr
    rcases three r hr with rfl | hr | hr
    · exact h.byte o ho
    · exact h.byte r (by simp [hr])
    · exact hT.byte r hr
  · intro r hr b s hs
    rcases three r hr with rfl | hr | hr
    · exact h.vbyte o ho b s hs
    · exact h.vbyte r (by simp [hr]) b s hs
    · exact hT.vbyte r hr b s hs
/-- What two trees of one shape have in common. -/
theorem sh_mem {S T : List TRec} (hp : (T.map sh).Perm (S.map sh)) {r : TRec} (hr : r ∈ T) : ∃ s ∈ S, s.path = r.path ∧ s.lab = r.lab ∧ s.val = r.val ∧ s.kids.length = r.kids.length := by
  obtain ⟨s, h1, h2⟩ := List.mem_map.1 (hp.mem_iff.1 (List.mem_map_of_mem (f := sh) hr))
  simp only [sh, Prod.mk.injEq] at h2
  exact ⟨s, h1, h2⟩
theorem sh_ent {S T : List TRec} (hp : (T.map sh).Perm (S.map sh)) (he : EntOf S l) : EntOf T l := ⟨he.1, fun k v => by
  rw [he.2]
  constructor
  · rintro ⟨r, h1, h2, b, h3⟩
    obtain ⟨s, a1, a2, _, a3, _⟩ := sh_mem hp.symm h1
    exact ⟨s, a1, a2.trans h2, b, a3.trans h3⟩
  · rintro ⟨r, h1, h2, b, h3⟩
    obtain ⟨s, a1, a2, _, a3, _⟩ := sh_mem hp h1
    exact ⟨s, a1, a2.trans h2, b, a3.trans h3⟩⟩
theorem sh_min {S T : List TRec} (hp : (T.map sh).Perm (S.map sh)) {x : Str} (hm : MinBut S base x) : MinBut T base x := fun r hr h1 h2 => by
  obtain ⟨s, a1, a2, _, a3, a4⟩ := sh_mem hp hr
  have := hm s a1 (a2 ▸ h1) (a2 ▸ h2)
  unfold Full at this ⊢
  rw [a3, a4] at this; exact this
theorem underS_nil (S : List TRec) : underS S [] = S := by unfold underS; rw [List.filter_eq_self]; intro r _; simp
end
/-! ### Put, step by step -/
section
variable {S S' : List TRec} {base : Str} {root : Nat} {l : List Ent} {p q o : TRec} {c : Int} {rest key : Str}
/-- A node on the way that has its right to stand, or will have it. -/
def Ex (p : TRec) (base rest : Str) : Prop := p.path = base ∨ Full p ∨ ∃ c b, p.kids = [(c, b)] ∧ rest.head? ≠ some c
theorem Full.kids (h : Full p) {m : List (Int × Nat)} (hm : p.kids.length ≤ m.length) : Full { p with kids := m } := by
  unfold Full at h ⊢
  rcases h with h | h
  · exact .inl h
  · exact .inr (by dsimp only; omega)
theorem mput_len (m : List (Int × Nat)) (c : Int) (x : Nat) : m.length ≤ (mput m c x).length := by rw [mput_length]; split <;> omega
theorem WF.minNew (hm : MinBut (p :: S) base p.path) (hx : Ex p base rest) (hc : al p.kids c = none) {nb mb : Nat} (hp : ∀ r ∈ S, r.path ≠ p.path) :
    MinBut ({ p with kids := mput p.kids c nb } :: ⟨p.path ++ rest, nb, mb, rest, none, []⟩ :: S) base (p.path ++ rest) := by
  intro r hr h1 h2
  simp only [List.mem_cons] at hr
  rcases hr with rfl | rfl | hr
  · rcases hx with hx | hx | ⟨c', b, hk, _⟩
    · exact (h1 hx).elim
    · exact hx.kids (mput_len _ _ _)
    · refine .inr ?_
      dsimp only
      rw [mput_length, hc, hk]; simp
  · exact (h2 rfl).elim
  · exact hm r (by simp [hr]) h1 (hp r hr)
theorem WF.minDown (hm : MinBut S base p.path) (hx : Ex p base rest) (hc : al p.kids c = some q.nb) (hr : rest.head? = some c) (h : WF S base root) (hp : p ∈ S) (x : Str) : MinBut S base x := by
  intro r hr' h1 _
  by_cases e : r.path = p.path
  · have := h.path_inj hr' hp e
    subst this
    rcases hx with hx | hx | ⟨c', b, hk, hne⟩
    · exact (h1 hx).elim
    · exact hx
    · rw [hk] at hc
      unfold al at hc
      split at hc
      · rename_i e2; dsimp only at e2; subst e2; exact (hne hr).elim
      · cases hc
  · exact hm r hr' h1 e
theorem WF.minCut (hm : MinBut (p :: q :: S) base []) (hm' : MinBut (p :: q :: S) base p.path) (hx : Ex p base rest) (hc : al p.kids c = some q.nb) (hr : rest.head? = some c) (h : WF (p :: q :: S) base root) {k : Nat} {x : Int} {nb mb : Nat} :
    MinBut ({ p with kids := mput p.kids c nb } :: ⟨p.path ++ q.lab.take k, nb, mb, q.lab.take k, none, [(x, q.nb)]⟩ :: { q with lab := q.lab.drop k } :: S) base (p.path ++ q.lab.take k) := by
  have hall := WF.minDown hm' hx hc hr h (by simp) (p.path ++ q.lab.take k)
  intro r hr h1 h2
  simp only [List.mem_cons] at hr
  rcases hr with rfl | rfl | rfl | hr
  · by_cases e : p.path = p.path ++ q.lab.take k
    · exact (h2 e).elim
    · exact (hall p (by simp) h1 e).kids (mput_len _ _ _)
  · exact (h2 rfl).elim
  · exact hall q (by simp) h1 h2
  · exact hall r (by simp [hr]) h1 h2
theorem EntOf.congr (h : EntOf S l) (hS : ∀ k b v, (∃ r ∈ S, r.path = k ∧ r.val = some (b, v)) ↔ (∃ r ∈ S', r.path = k ∧ r.val = some (b, v))) : EntOf S' l := ⟨h.1, fun k v => by
  rw [h.2]
  constructor
  · rintro ⟨r, h1, h2, b, h3⟩
    obtain ⟨r', a1, a2, a3⟩ := (hS k b v).1 ⟨r, h1, h2, h3⟩
    exact ⟨r', a1, a2, b, a3⟩
  · rintro ⟨r, h1, h2, b, h3⟩
    obtain ⟨r', a1, a2, a3⟩ := (hS k b v).2 ⟨r, h1, h2, h3⟩
    exact ⟨r', a1, a2, b, a3⟩⟩
theorem EntOf.perm (h : EntOf S l) (hp : S.Perm S') : EntOf S' l := h.congr fun k b v => ⟨fun ⟨r, h1, h2⟩ => ⟨r, hp.mem_iff.1 h1, h2⟩, fun ⟨r, h1, h2⟩ => ⟨r, hp.mem_iff.2 h1, h2⟩⟩
theorem MinBut.perm {x : Str} (h : MinBut S base x) (hp : S.Perm S') : MinBut S' base x := fun r hr => h r (hp.mem_iff.2 hr)
theorem EntOf.new (h : EntOf (p :: S) l) {m : List (Int × Nat)} {nb mb : Nat} {pa : Str} : EntOf ({ p with kids := m } :: ⟨pa, nb, mb, rest, none, []⟩ :: S) l := h.congr fun k b v => by
  constructor
  · rintro ⟨r, h1, h2, h3⟩
    rcases List.mem_cons.1 h1 with rfl | h1
    · exact ⟨_, List.mem_cons_self .., h2, h3⟩
    · exact ⟨r, by simp [h1], h2, h3⟩
  · rintro ⟨r, h1, h2, h3⟩
    simp only [List.mem_cons] at h1
    rcases h1 with rfl | rfl | h1
    · exact ⟨p, by simp, h2, h3⟩
    · cases h3
    · exact ⟨r, by simp [h1], h2, h3⟩
theorem EntOf.cut (h : EntOf (p :: q :: S) l) {m : List (Int × Nat)} {nb mb : Nat} {pa la lb : Str} {ks : List (Int × Nat)} : EntOf ({ p with kids := m } :: ⟨pa, nb, mb, la, none, ks⟩ :: { q with lab := lb } :: S) l := h.congr fun k b v => by
  constructor
  · rintro ⟨r, h1, h2, h3⟩
    simp only [List.mem_cons] at h1
    rcases h1 with rfl | rfl | h1
    · exact ⟨_, List.mem_cons_self .., h2, h3⟩
    · exact ⟨{ r with lab := lb }, by simp, h2, h3⟩
    · exact ⟨r, by simp [h1], h2, h3⟩
  · rintro ⟨r, h1, h2, h3⟩
    simp only [List.mem_cons] at h1
    rcases h1 with rfl | rfl | rfl | h1
    · exact ⟨p, by simp, h2, h3⟩
    · cases h3
    · exact ⟨q, by simp, h2, h3⟩
    · exact ⟨r, by simp [h1], h2, h3⟩
theorem EntOf.set (h : EntOf (p :: S) l) (hw : WF (p :: S) base root) (b0 : Nat) (v0 : Str) : EntOf ({ p with val := some (b0, v0) } :: S) (putL l p.path v0) := ⟨putL_sorted h.1 _ _, fun k v => by
  rw [mem_putL, h.2]
  have hn := hw.paths
  rw [List.map_cons, List.nodup_cons] at hn
  constructor
  · rintro (e | ⟨⟨r, h1, h2, b, h3⟩, hne⟩)
    · injection e with e1 e2; subst e1 e2
      exact ⟨_, List.mem_cons_self .., rfl, b0, rfl⟩
    · rcases List.mem_cons.1 h1 with rfl | h1
      · exact (hne h2.symm).elim
      · exact ⟨r, by simp [h1], h2, b, h3⟩
  · rintro ⟨r, h1, h2, b, h3⟩
    rcases List.mem_cons.1 h1 with rfl | h1
    · dsimp only at h2 h3
      injection h3 with h3; injection h3 with h3 h4
      exact .inl (by rw [h2, h4])
    · refine .inr ⟨⟨r, by simp [h1], h2, b, h3⟩, fun e => ?_⟩
      dsimp only at e
      exact hn.1 (List.mem_map.2 ⟨r, h1, h2.trans e⟩)⟩
theorem EntOf.clear (h : EntOf (p :: S) l) (hw : WF (p :: S) base root) : EntOf ({ p with val := none } :: S) (dropL l p.path) := ⟨dropL_sorted h.1 _, fun k v => by
  rw [mem_dropL, h.2]
  have hn := hw.paths
  rw [List.map_cons, List.nodup_cons] at hn
  constructor
  · rintro ⟨⟨r, h1, h2, b, h3⟩, hne⟩
    rcases List.mem_cons.1 h1 with rfl | h1
    · exact (hne h2.symm).elim
    · exact ⟨r, by simp [h1], h2, b, h3⟩
  · rintro ⟨r, h1, h2, b, h3⟩
    rcases List.mem_cons.1 h1 with rfl | h1
    · cases h3
    · refine ⟨⟨r, by simp [h1], h2, b, h3⟩, fun e => ?_⟩
      dsimp only at e
      exact hn.1 (List.mem_map.2 ⟨r, h1, h2.trans e⟩)⟩
theorem EntOf.del0 (h : EntOf (p :: q :: S) l) (hq : q.val = none) {m : List (Int × Nat)} : EntOf ({ p with kids := m } :: S) l := h.congr fun k b v => by
  constructor
  · rintro ⟨r, h1, h2, h3⟩
    simp only [List.mem_cons] at h1
    rcases h1 with rfl | rfl | h1
    · exact ⟨_, List.mem_cons_self .., h2, h3⟩
    · rw [hq] at h3; cases h3
    · exact ⟨r, by simp [h1], h2, h3⟩
  · rintro ⟨r, h1, h2, h3⟩
    simp only [List.mem_cons] at h1
    rcases h1 with rfl | h1
    · exact ⟨p, by simp, h2, h3⟩
    · exact ⟨r, by simp [h1], h2, h3⟩
theorem EntOf.del1 (h : EntOf (p :: q :: o :: S) l) (hq : q.val = none) {m : List (Int × Nat)} {la : Str} : EntOf ({ p with kids := m } :: { o with lab := la } :: S) l := h.congr fun k b v => by
  constructor
  · rintro ⟨r, h1, h2, h3⟩
    simp only [List.mem_cons] at h1
    rcases h1 with rfl | rfl | rfl | h1
    · exact ⟨_, List.mem_cons_self .., h2, h3⟩
    · rw [hq] at h3; cases h3
    · exact ⟨{ r with lab := la }, by simp, h2, h3⟩
    · exact ⟨r, by simp [h1], h2, h3⟩
  · rintro ⟨r, h1, h2, h3⟩
    simp only [List.mem_cons] at h1
    rcases h1 with rfl | rfl | h1
    · exact ⟨p, by simp, h2, h3⟩
    · exact ⟨o, by simp, h2, h3⟩
    · exact ⟨r, by simp [h1], h2, h3⟩
theorem min_del0 (h : WF (p :: q :: S) base root) (hm : MinBut (p :: q :: S) base q.path) {m : List (Int × Nat)} : MinBut ({ p with kids := m } :: S) base p.path := by
  intro r hr h1 h2
  simp only [List.mem_cons] at hr
  rcases hr with rfl | hr
  · exact (h2 rfl).elim
  · refine hm r (by simp [hr]) h1 fun e => ?_
    have hn := h.paths
    simp only [List.map_cons, List.nodup_cons] at hn
    exact hn.2.1 (List.mem_map.2 ⟨r, hr, e⟩)
theorem min_del1 (h : WF (p :: q :: o :: S) base root) (hm : MinBut (p :: q :: o :: S) base q.path) {m : List (Int × Nat)} {la : Str} : MinBut ({ p with kids := m } :: { o with lab := la } :: S) base p.path := by
  have hn := h.paths
  simp only [List.map_cons, List.nodup_cons, List.mem_cons, not_or] at hn
  intro r hr h1 h2
  simp only [List.mem_cons] at hr
  rcases hr with rfl | rfl | hr
  · exact (h2 rfl).elim
  · exact hm o (by simp) h1 (fun e => hn.2.1.1 e.symm)
  · exact hm r (by simp [hr]) h1 fun e => hn.2.1.2 (List.mem_map.2 ⟨r, hr, e⟩)
/-! ### A key's value -/
theorem EntOf.get (h : EntOf S l) (hw : WF S base root) (hp : p ∈ S) : al l p.path = p.val.map (·.2) := by
  cases hv : p.val with
  | none =>
    refine al_none.2 fun hm => ?_
    obtain ⟨⟨k, v⟩, h1, h2⟩ := List.mem_map.1 hm
    obtain ⟨r, a1, a2, b, a3⟩ := (h.2 k v).1 h1
    have := hw.path_inj a1 hp (a2.trans h2)
    subst this
    rw [hv] at a3; cases a3
  | some bv => exact al_of_mem h.1.keys (h.mem hp (v := bv.2) (b := bv.1) (by rw [hv]))
theorem EntOf.miss (h : EntOf S l) (hn : ∀ r ∈ S, r.path ≠ key) : al l key = none := al_none.2 fun hm => by
  obtain ⟨⟨k, v⟩, h1, h2⟩ := List.mem_map.1 hm
  obtain ⟨r, a1, a2, b, a3⟩ := (h.2 k v).1 h1
  exact hn r a1 (a2.trans h2)
theorem EntOf.miss1 (h : EntOf S l) (hw : WF S base root) (hp : p ∈ S) (hr : rest.head? = some c) (hc : al p.kids c = none) : al l (p.path ++ rest) = none :=
  h.miss fun r hr' e => hw.miss hr' hp hc (e ▸ head_snoc hr)
theorem EntOf.miss2 (h : EntOf S l) (hw : WF S base root) (hp : p ∈ S) (hq : q ∈ S) (hr : rest.head? = some c) (hc : al p.kids c = some q.nb) (hl : ¬ q.lab <+: rest) : al l (p.path ++ rest) = none :=
  h.miss fun r hr' e => hl (by
    have h1 := hw.below hr' hp hq hc (e ▸ head_snoc hr)
    rw [e, (hw.kid' hp hq hc).1, List.prefix_append_right_inj] at h1; exact h1)
/-! ### What begins with a text -/
theorem under_none (h : EntOf S l) (hw : WF S base root) (hp : p ∈ S) (hr : rest.head? = some c) (hc : al p.kids c = none) : underL l (p.path ++ rest) = [] := by
  rw [List.eq_nil_iff_forall_not_mem]
  rintro ⟨k, v⟩ he
  obtain ⟨h1, h2⟩ := mem_underL.1 he
  obtain ⟨r, a1, rfl, _⟩ := (h.2 k v).1 h1
  exact hw.miss a1 hp hc ((head_snoc hr).trans h2)
theorem under_kid (h : EntOf S l) (hw : WF S base root) (hp : p ∈ S) (hq : q ∈ S) (hr : rest.head? = some c) (hc : al p.kids c = some q.nb) {e : Ent} (he : e ∈ underL l (p.path ++ rest)) : q.path <+: e.1 := by
  obtain ⟨k, v⟩ := e
  obtain ⟨h1, h2⟩ := mem_underL.1 he
  obtain ⟨r, a1, rfl, _⟩ := (h.2 k v).1 h1
  exact hw.below a1 hp hq hc ((head_snoc hr).trans h2)
theorem lcp_min {a b k : Str} (ha : a <+: k) (hb : b <+: k) : (lcp a b).length = min a.length b.length := by
  rcases Nat.le_total a.length b.length with h | h
  · have h1 := List.prefix_of_prefix_length_le ha hb h
    have := (lcp_most (List.prefix_refl a) h1).length_le
    have := (lcp_left a b).length_le
    omega
  · have h1 := List.prefix_of_prefix_length_le hb ha h
    have := (lcp_most h1 (List.prefix_refl b)).length_le
    have := (lcp_right a b).length_le
    omega
theorem under_odd (h : EntOf S l) (hw : WF S base root) (hp : p ∈ S) (hq : q ∈ S) (hr : rest.head? = some c) (hc : al p.kids c = some q.nb) (hl : (lcp rest q.lab).length < min rest.length q.lab.length) : underL l (p.path ++ rest) = [] := by
  rw [List.eq_nil_iff_forall_not_mem]
  intro e he
  have h1 := under_kid h hw hp hq hr hc he
  have h2 := (mem_underL.1 he).2
  rw [(hw.kid' hp hq hc).1] at h1
  obtain ⟨s, hs⟩ := h1
  obtain ⟨t, ht⟩ := h2
  have e1 : q.lab ++ s = rest ++ t := by
    have : p.path ++ (q.lab ++ s) = p.path ++ (rest ++ t) := by rw [← List.append_assoc, hs, ← List.append_assoc, ht]
    exact List.append_cancel_left this
  have := lcp_min (k := rest ++ t) (List.prefix_append rest t) (e1 ▸ List.prefix_append q.lab s)
  omega
theorem lcp_full {a b : Str} (h : ¬ (lcp a b).length < min a.length b.length) : (a.length ≤ b.length → a <+: b) ∧ (b.length ≤ a.length → b <+: a) := by
  have h1 := lcp_left a b
  have h2 := lcp_right a b
  have h3 := h1.length_le
  have h4 := h2.length_le
  refine ⟨fun hl => ?_, fun hl => ?_⟩
  · rw [h1.eq_of_length (by omega)] at h2; exact h2
  · rw [h2.eq_of_length (by omega)] at h1; exact h1
theorem under_short (h : EntOf S l) (hw : WF S base root) (hp : p ∈ S) (hq : q ∈ S) (hr : rest.head? = some c) (hc : al p.kids c = some q.nb) (hl : rest <+: q.lab) : underL l (p.path ++ rest) = underL l q.path := by
  refine sorted_ext (h.1.filter _) (h.1.filter _) fun e => ⟨fun he => ?_, fun he => ?_⟩
  · exact mem_underL.2 ⟨(mem_underL.1 he).1, under_kid h hw hp hq hr hc he⟩
  · refine mem_underL.2 ⟨(mem_underL.1 he).1, List.IsPrefix.trans ?_ (mem_underL.1 he).2⟩
    rw [(hw.kid' hp hq hc).1, List.prefix_append_right_inj]; exact hl
/-! ### The longest one -/
def LngOf (l : List Ent) (key : Str) (n : Nat) (best : Option Ent) : Prop := (∀ e, best = some e → e ∈ l ∧ e.1 <+: key) ∧ ∀ e ∈ l, e.1 <+: key → e.1.length < n → ∃ e', best = some e' ∧ e.1.length ≤ e'.1.length
theorem LngOf.uniq (hs : Sorted l) {n : Nat} {x y : Option Ent} (hn : key.length < n) (h : LngOf l key n x) (h' : LngOf l key n y) : x = y := by
  have key' : ∀ {x y}, LngOf l key n x → LngOf l key n y → ∀ e, x = some e → ∃ e', y = some e' ∧ e.1.length ≤ e'.1.length := fun {x y} h h' e he => by
    obtain ⟨a1, a2⟩ := h.1 e he
    exact h'.2 e a1 a2 (by have := a2.length_le; omega)
  cases x with
  | none => cases y with
    | none => rfl
    | some e => obtain ⟨_, h1, _⟩ := key' h' h e rfl; cases h1
  | some e => cases y with
    | none => obtain ⟨_, h1, _⟩ := key' h h' e rfl; cases h1
    | some e' =>
      obtain ⟨_, h1, h2⟩ := key' h h' e rfl
      obtain ⟨_, h3, h4⟩ := key' h' h e' rfl
      cases h1; cases h3
      obtain ⟨a1, a2⟩ := h.1 e rfl
      obtain ⟨b1, b2⟩ := h'.1 e' rfl
      have : e.1 = e'.1 := (List.prefix_of_prefix_length_le a2 b2 h2).eq_of_length (by omega)
      have c1 := al_of_mem hs.keys (k := e.1) (x := e.2) a1
      have c2 := al_of_mem hs.keys (k := e'.1) (x := e'.2) b1
      rw [this, c2] at c1
      have : e = e' := Prod.ext this (by injection c1 with c1; exact c1.symm)
      rw [this]
theorem LngOf.start : LngOf l key 0 none := ⟨fun e h => (by cases h), fun e _ _ h => by omega⟩
/-- At a node: its value is longer than all before. -/
theorem LngOf.val (h : EntOf S l) (hp : p ∈ S) {best : Option Ent} (hb : LngOf l key p.path.length best) (hk : p.path <+: key) {b : Nat} {v : Str} (hv : p.val = some (b, v)) : LngOf l key (p.path.length + 1) (some (p.path, v)) :=
  ⟨fun e he => by cases he; exact ⟨h.mem hp hv, hk⟩, fun e _ _ h3 => ⟨_, rfl, by dsimp only; omega⟩⟩
theorem LngOf.noval (h : EntOf S l) (hw : WF S base root) (hp : p ∈ S) {best : Option Ent} (hb : LngOf l key p.path.length best) (hk : p.path <+: key) (hv : p.val = none) : LngOf l key (p.path.length + 1) best :=
  ⟨hb.1, fun e h1 h2 h3 => by
    by_cases h4 : e.1.length < p.path.length
    · exact hb.2 e h1 h2 h4
    · obtain ⟨k, v⟩ := e
      dsimp only at h2 h3 h4
      have e1 : k = p.path := (List.prefix_of_prefix_length_le h2 hk (by omega)).eq_of_length (by omega)
      obtain ⟨r, a1, a2, b, a3⟩ := (h.2 k v).1 h1
      have := hw.path_inj a1 hp (a2.trans e1)
      subst this
      rw [hv] at a3; cases a3⟩
theorem LngOf.wider {n m : Nat} {best : Option Ent} (hb : LngOf l key n best) (h : ∀ e ∈ l, e.1 <+: key → e.1.length < m → e.1.length < n) : LngOf l key m best := ⟨hb.1, fun e h1 h2 h3 => hb.2 e h1 h2 (h e h1 h2 h3)⟩
theorem lng_kid (h : EntOf S l) (hw : WF S base root) (hp : p ∈ S) (hq : q ∈ S) (hr : rest.head? = some c) (hc : al p.kids c = some q.nb) (hk : key = p.path ++ rest) : ∀ e ∈ l, e.1 <+: key → e.1.length < p.path.length + 1 ∨ q.path <+: e.1 := by
  rintro ⟨k, v⟩ h1 h2
  by_cases h3 : k.length < p.path.length + 1
  · exact .inl h3
  · obtain ⟨r, a1, rfl, _⟩ := (h.2 k v).1 h1
    refine .inr (hw.below a1 hp hq hc (List.prefix_of_prefix_length_le (l₃ := key) (hk ▸ head_snoc hr) h2 (by rw [List.length_append, List.length_singleton]; omega)))
theorem lng_none (h : EntOf S l) (hw : WF S base root) (hp : p ∈ S) (hr : rest.head? = some c) (hc : al p.kids c = none) (hk : key = p.path ++ rest) : ∀ e ∈ l, e.1 <+: key → e.1.length < p.path.length + 1 := by
  rintro ⟨k, v⟩ h1 h2
  refine Decidable.byContradiction fun h3 => ?_
  obtain ⟨r, a1, rfl, _⟩ := (h.2 k v).1 h1
  exact hw.miss a1 hp hc (List.prefix_of_prefix_length_le (l₃ := key) (hk ▸ head_snoc hr) h2 (by rw [List.length_append, List.length_singleton]; dsimp only at h3; omega))
end
end Go.Proofs.Ytlcnoibjhmflnaa.Sx
