/- Tries' nodes in the heap: an arena of them under one label. -/
import Derived.Test.YtlcnoibjhmflnaaTriD
import Derived.Test.YtlcnoibjhmflnaaBun
import Derived.Test.YtlcnoibjhmflnaaObj
set_option linter.unusedVariables false
set_option linter.unusedSimpArgs false
namespace Go.Proofs.Ytlcnoibjhmflnaa.Sx
open Go.RowKit
/-! ### Labels bound and loosed, generally -/
def emps (L : List (Nat × Asn)) : List (Nat × Asn) := L.map fun p => (p.1, Asn.emp)
section
variable {B : Nat → Prop} {w0 w w' : World} {H L N : List (Nat × Asn)} {X X' : Asn}
theorem get_emps : ∀ (L : List (Nat × Asn)) (i : Nat), get (emps L) i = (get L i).map fun _ => Asn.emp
  | [], i => rfl
  | (l, X) :: L, i => by
    show get ((l, Asn.emp) :: emps L) i = _
    rw [get_cons, get_cons, get_emps L i]
    split <;> rfl
theorem Hp.loose (h : Hp B w0 w H) (l : Nat) (hl : get H l = some X) (L : List (Nat × Asn)) (hL : Hp (fun _ => True) w w L) (ho : ∀ k, OwnL L k → X.own k) (hr : ∀ k, RdL L k → X.rd k ∨ ∃ j A, get H j = some A ∧ A.rd k) : Hp B w0 w (L ++ (l, .emp) :: H) := by
  have hget : ∀ i A, get (L ++ (l, .emp) :: H) i = some A → get L i = some A ∨ (A = .emp) ∨ (i ≠ l ∧ get H i = some A) := by
    intro i A hA
    rw [get_append] at hA
    cases hq : get L i with
    | some Y => rw [hq] at hA; exact .inl (by simpa using hA)
    | none =>
      rw [hq, Option.none_or] at hA
      rcases get_one hA with ⟨_, rfl⟩ | h1
      · exact .inr (.inl rfl)
      · exact .inr (.inr h1)
  refine ⟨h.mods, ?_, ?_, ?_, ?_, ?_⟩
  · intro i A hA
    rcases hget i A hA with h1 | rfl | ⟨_, h1⟩
    · exact hL.holds i A h1
    · trivial
    · exact h.holds i A h1
  · intro i A hA k hk
    rcases hget i A hA with h1 | rfl | ⟨_, h1⟩
    · exact h.mine l _ hl k (ho k ⟨i, A, h1, hk⟩)
    · exact hk.elim
    · exact h.mine i A h1 k hk
  · intro i A hA k hk
    rcases hget i A hA with h1 | rfl | ⟨_, h1⟩
    · exact hL.inb i A h1 k hk
    · exact hk.elim (·.elim) (·.elim)
    · exact h.inb i A h1 k hk
  · intro i A hA k hk
    rcases hget i A hA with h1 | rfl | ⟨_, h1⟩
    · exact hL.self i A h1 k hk
    · exact hk.elim
    · exact h.self i A h1 k hk
  · intro i j A A' hij hA hA' k hk
    rcases hget i A hA with h1 | rfl | ⟨hil, h1⟩
    · rcases hget j A' hA' with h2 | rfl | ⟨hjl, h2⟩
      · exact hL.sep i j A A' hij h1 h2 k hk
      · rintro (h3 | h3) <;> exact h3.elim
      · exact h.sep l j _ A' (fun e => hjl e.symm) hl h2 k (ho k ⟨i, A, h1, hk⟩)
    · exact hk.elim
    · rcases hget j A' hA' with h2 | rfl | ⟨hjl, h2⟩
      · rintro (h3 | h3)
        · exact h.sep i l A _ hil h1 hl k hk (.inl (ho k ⟨j, A', h2, h3⟩))
        · rcases hr k ⟨j, A', h2, h3⟩ with h4 | ⟨q, A2, h4, h5⟩
          · exact h.sep i l A _ hil h1 hl k hk (.inr h4)
          · by_cases e : i = q
            · subst e; rw [h1] at h4; cases h4; exact h.self i _ h1 k hk h5
            · exact h.sep i q A _ e h1 h4 k hk (.inr h5)
      · rintro (h3 | h3) <;> exact h3.elim
      · exact h.sep i j A A' hij h1 h2 k hk
theorem Hp.bind (h : Hp B w0 w H) (l : Nat) (L : List (Nat × Asn)) (hs : ∀ i A, get L i = some A → get H i = some A) (hh : X'.holds w) (ho : ∀ k, X'.own k → OwnL L k) (hr : ∀ k, X'.rd k → RdL L k ∨ ∃ j A, get H j = some A ∧ A.rd k) (hself : ∀ k, X'.own k → ¬ X'.rd k) (hll : (get L l).isSome = true) :
    Hp B w0 w ((l, X') :: (emps L ++ H)) := by
  have hget : ∀ i A, get ((l, X') :: (emps L ++ H)) i = some A → (i = l ∧ A = X') ∨ A = .emp ∨ (i ≠ l ∧ get L i = none ∧ get H i = some A) := by
    intro i A hA
    rcases get_one hA with h1 | ⟨hne, h1⟩
    · exact .inl h1
    · rw [get_append, get_emps] at h1
      cases hq : get L i with
      | some Y => rw [hq] at h1; simp at h1; exact .inr (.inl h1.symm)
      | none => rw [hq] at h1; exact .inr (.inr ⟨hne, rfl, by simpa using h1⟩)
  refine ⟨h.mods, ?_, ?_, ?_, ?_, ?_⟩
  · intro i A hA
    rcases hget i A hA with ⟨_, rfl⟩ | rfl | ⟨_, _, h1⟩
    · exact hh
    · trivial
    · exact h.holds i A h1
  · intro i A hA k hk
    rcases hget i A hA with ⟨_, rfl⟩ | rfl | ⟨_, _, h1⟩
    · obtain ⟨j, Y, hj, hY⟩ := ho k hk; exact h.mine j Y (hs j Y hj) k hY
    · exact hk.elim
    · exact h.mine i A h1 k hk
  · intro i A hA k hk
    rcases hget i A hA with ⟨_, rfl⟩ | rfl | ⟨_, _, h1⟩
    · rcases hk with hk | hk
      · obtain ⟨j, Y, hj, hY⟩ := ho k hk; exact h.inb j Y (hs j Y hj) k (.inl hY)
      · rcases hr k hk with ⟨j, Y, hj, hY⟩ | ⟨j, Y, hj, hY⟩
        · exact h.inb j Y (hs j Y hj) k (.inr hY)
        · exact h.inb j Y hj k (.inr hY)
    · exact hk.elim (·.elim) (·.elim)
    · exact h.inb i A h1 k hk
  · intro i A hA k hk
    rcases hget i A hA with ⟨_, rfl⟩ | rfl | ⟨_, _, h1⟩
    · exact hself k hk
    · exact hk.elim
    · exact h.self i A h1 k hk
  · intro i j A A' hij hA hA' k hk
    rcases hget i A hA with ⟨e1, rfl⟩ | rfl | ⟨hil, hiL, h1⟩
    · rcases hget j A' hA' with ⟨e2, rfl⟩ | rfl | ⟨hjl, hjL, h2⟩
      · exact absurd (e1.trans e2.symm) hij
      · rintro (h3 | h3) <;> exact h3.elim
      · obtain ⟨q, Y, hq, hY⟩ := ho k hk
        exact h.sep q j Y A' (fun e => by subst e; rw [hjL] at hq; cases hq) (hs q Y hq) h2 k hY
    · exact hk.elim
    · rcases hget j A' hA' with ⟨e2, rfl⟩ | rfl | ⟨hjl, hjL, h2⟩
      · rintro (h3 | h3)
        · obtain ⟨q, Y, hq, hY⟩ := ho k h3
          exact h.sep i q A Y (fun e => by subst e; rw [hiL] at hq; cases hq) h1 (hs q Y hq) k hk (.inl hY)
        · rcases hr k h3 with ⟨q, Y, hq, hY⟩ | ⟨q, Y, hq, hY⟩
          · exact h.sep i q A Y (fun e => by subst e; rw [hiL] at hq; cases hq) h1 (hs q Y hq) k hk (.inr hY)
          · by_cases e : i = q
            · subst e; rw [h1] at hq; cases hq; exact h.self i _ h1 k hk hY
            · exact h.sep i q A _ e h1 hq k hk (.inr hY)
      · rintro (h3 | h3) <;> exact h3.elim
      · exact h.sep i j A A' hij h1 h2 k hk
end
/-! ### The arena -/
def ptrA : Nat → Option Addr
  | 0 => none
  | b + 1 => some ⟨b, 0, none⟩
def ptrV (n : Nat) : Value := .pointer (ptrA n)
def valA : Option (Nat × List Int) → Option Addr
  | none => none
  | some (b, _) => some ⟨b, 0, none⟩
def KB : KeyR Int := KeyR.int .u8
def NV : VRep Nat := VRep.flat ptrV
abbrev noB : Nat → Prop := fun _ => False
def vro (TS : TypeId) : Option (Nat × List Int) → Asn
  | none => .emp
  | some (b, v) => .ro (.blk b (.cells #[.string (strOfNums v)] TS (0, 0)))
def Asn.arena (T TS : TypeId) (S : List TRec) : Asn where
  own k := ∃ r ∈ S, k + 1 = r.nb ∨ k = r.mb
  rd k := ∃ r ∈ S, ∃ v, r.val = some (k, v)
  holds w := (S.map (fun r : TRec => r.nb - 1) ++ S.map (fun r : TRec => r.mb)).Nodup ∧ ∀ r ∈ S, (∃ b, r.nb = b + 1 ∧ w.heap[b]? = some (.cells #[.string (strOfNums r.lab), .pointer (valA r.val), .map (some r.mb)] T (0, 0))) ∧ MapAt KB NV w (fun k => noB k ∧ k ≠ r.mb) r.mb r.kids ∧ (vro TS r.val).holds w
  stable := by
    intro w w' h ⟨h1, h2⟩
    refine ⟨h1, fun r hr => ?_⟩
    obtain ⟨⟨b, hb, a1⟩, ⟨es, clock, a2, a3, a4⟩, a5⟩ := h2 r hr
    refine ⟨⟨b, hb, (h b (.inl ⟨r, hr, .inl hb.symm⟩)).trans a1⟩, ⟨es, clock, (h r.mb (.inl ⟨r, hr, .inr rfl⟩)).trans a2, a3.move (fun k hk _ => hk.1.elim) (fun k hk _ => hk), a4⟩, ?_⟩
    cases hv : r.val with
    | none => trivial
    | some bv =>
      obtain ⟨b', v⟩ := bv
      rw [hv] at a5
      exact (h b' (.inr ⟨r, hr, v, hv⟩)).trans a5
section
variable {B : Nat → Prop} {w0 w w' : World} {H L N : List (Nat × Asn)} {T TS : TypeId} {S S' : List TRec} {r : TRec}
theorem vro_rd {v : Option (Nat × List Int)} {k : Nat} : (vro TS v).rd k ↔ ∃ s, v = some (k, s) := by
  cases v with
  | none => constructor <;> rintro ⟨⟩; contradiction
  | some bv =>
    obtain ⟨b, s⟩ := bv
    constructor
    · rintro (h | h)
      · exact ⟨s, by rw [show k = b from h]⟩
      · exact h.elim
    · rintro ⟨s', h⟩; cases h; exact .inl rfl
theorem vro_own {v : Option (Nat × List Int)} {k : Nat} : ¬ (vro TS v).own k := by
  cases v with
  | none => exact fun h => h.elim
  | some bv => exact fun h => h.elim
theorem Hp.arPerm (h : Hp B w0 w H) (l : Nat) (hl : get H l = some (.arena T TS S)) (hp : S.Perm S') : Hp B w0 w ((l, .arena T TS S') :: H) := by
  have hh := h.holds l _ hl
  refine h.one (Mods.refl (fun _ => False) w) l _ (fun k hk => hk.elim) ⟨?_, fun r hr => hh.2 r (hp.mem_iff.2 hr)⟩ (fun k ⟨r, hr, hk⟩ => .inl ⟨_, hl, r, hp.mem_iff.2 hr, hk⟩) (fun k ⟨r, hr, hk⟩ => .inr (.inl ⟨l, _, hl, r, hp.mem_iff.2 hr, hk⟩))
    (fun k hk => h.inb l _ hl k (hk.imp (fun ⟨r, hr, h⟩ => ⟨r, hp.mem_iff.2 hr, h⟩) (fun ⟨r, hr, h⟩ => ⟨r, hp.mem_iff.2 hr, h⟩))) (fun k ⟨r, hr, hk⟩ ⟨r', hr', hk'⟩ => h.self l _ hl k ⟨r, hp.mem_iff.2 hr, hk⟩ ⟨r', hp.mem_iff.2 hr', hk'⟩)
  exact ((hp.map _).append (hp.map _)).nodup_iff.1 hh.1
/-- A node taken out of the arena. -/
theorem Hp.arOpen (h : Hp B w0 w H) (l l1 l2 l4 : Nat) (hd : l ≠ l1 ∧ l ≠ l2 ∧ l ≠ l4 ∧ l1 ≠ l2 ∧ l1 ≠ l4 ∧ l2 ≠ l4) (hl : get H l = some (.arena T TS (r :: S))) :
    ∃ b, r.nb = b + 1 ∧ Hp B w0 w ([(l1, .blk b (.cells #[.string (strOfNums r.lab), .pointer (valA r.val), .map (some r.mb)] T (0, 0))), (l2, .map KB NV r.mb r.kids noB), (l, .arena T TS S), (l4, vro TS r.val)] ++ (l, .emp) :: H) := by
  obtain ⟨hn, hh⟩ := h.holds l _ hl
  obtain ⟨⟨b, hb, a1⟩, a2, a3⟩ := hh r (by simp)
  have hself := h.self l _ hl
  have hinb := h.inb l _ hl
  simp only [List.map_cons, List.cons_append, List.nodup_cons, List.mem_append, List.mem_cons, List.nodup_append, List.mem_map, not_or, not_exists, not_and] at hn
  obtain ⟨⟨n1, n2, n3⟩, n4, ⟨n5, n6⟩, n7⟩ := hn
  have hb1 : r.nb - 1 = b := by omega
  rw [hb1] at n1 n2 n3
  have nbS : ∀ s ∈ S, s.nb ≠ b + 1 := fun s hs e => n1 s hs (by omega)
  have four : ∀ {i A}, get [(l1, Asn.blk b (.cells #[.string (strOfNums r.lab), .pointer (valA r.val), .map (some r.mb)] T (0, 0))), (l2, .map KB NV r.mb r.kids noB), (l, .arena T TS S), (l4, vro TS r.val)] i = some A → (i = l1 ∧ A = .blk b (.cells #[.string (strOfNums r.lab), .pointer (valA r.val), .map (some r.mb)] T (0, 0))) ∨ (i = l2 ∧ A = .map KB NV r.mb r.kids noB) ∨ (i = l ∧ A = .arena T TS S) ∨ (i = l4 ∧ A = vro TS r.val) := fun {i A} hA => by
    rcases get_one hA with h1 | ⟨_, hA⟩
    · exact .inl h1
    rcases get_one hA with h1 | ⟨_, hA⟩
    · exact .inr (.inl h1)
    rcases get_one hA with h1 | ⟨_, hA⟩
    · exact .inr (.inr (.inl h1))
    rcases get_one hA with h1 | ⟨_, hA⟩
    · exact .inr (.inr (.inr h1))
    · simp [get] at hA
  have rown : ∀ k, (k = b ∨ k = r.mb) → (Asn.arena T TS (r :: S)).own k := fun k hk => ⟨r, by simp, hk.imp (fun e => by omega) id⟩
  have sown : ∀ k, (Asn.arena T TS S).own k → (Asn.arena T TS (r :: S)).own k := fun k ⟨s, hs, hk⟩ => ⟨s, by simp [hs], hk⟩
  have srd : ∀ k, (Asn.arena T TS S).rd k → (Asn.arena T TS (r :: S)).rd k := fun k ⟨s, hs, hk⟩ => ⟨s, by simp [hs], hk⟩
  have vrd : ∀ k, (vro TS r.val).rd k → (Asn.arena T TS (r :: S)).rd k := fun k hk => ⟨r, by simp, vro_rd.1 hk⟩
  have e1 : ∀ k, (Asn.arena T TS S).own k → k ≠ b := fun k ⟨s, hs, hk⟩ e => by
    rcases hk with hk | hk
    · exact nbS s hs (by omega)
    · exact n3 s hs (by omega)
  have e2 : ∀ k, (Asn.arena T TS S).own k → k ≠ r.mb := fun k ⟨s, hs, hk⟩ e => by
    rcases hk with hk | hk
    · exact (n7 (s.nb - 1) ⟨s, hs, rfl⟩ r.mb (.inl rfl)) (by omega)
    · exact n5 s hs (by omega)
  refine ⟨b, hb, h.loose l hl _ ?_ ?_ ?_⟩
  · refine ⟨Mods.refl _ _, fun i A hA => ?_, fun _ _ _ _ _ => .inl trivial, fun i A hA k hk => ?_, fun i A hA k hk hk2 => ?_, fun i j A A' hij hA hA' k hk => ?_⟩
    · rcases four hA with ⟨_, rfl⟩ | ⟨_, rfl⟩ | ⟨_, rfl⟩ | ⟨_, rfl⟩
      · exact a1
      · exact a2
      · refine ⟨?_, fun s hs => hh s (by simp [hs])⟩
        rw [List.nodup_append]
        exact ⟨n4, n6, fun x hx y hy => n7 x (List.mem_map.1 hx) y (.inr (List.mem_map.1 hy))⟩
      · exact a3
    · rcases four hA with ⟨_, rfl⟩ | ⟨_, rfl⟩ | ⟨_, rfl⟩ | ⟨_, rfl⟩
      · rcases hk with hk | hk
        · exact hinb k (.inl (rown k (.inl hk)))
        · exact hk.elim
      · rcases hk with hk | hk
        · exact hinb k (.inl (rown k (.inr hk)))
        · exact hk.1.elim
      · exact hinb k (hk.imp (sown k) (srd k))
      · exact hk.elim (fun h => (vro_own h).elim) (fun h => hinb k (.inr (vrd k h)))
    · rcases four hA with ⟨_, rfl⟩ | ⟨_, rfl⟩ | ⟨_, rfl⟩ | ⟨_, rfl⟩
      · exact hk2.elim
      · exact hk2.1.elim
      · exact hself k (sown k hk) (srd k hk2)
      · exact vro_own hk
    · rcases four hA with ⟨_, rfl⟩ | ⟨_, rfl⟩ | ⟨e3, rfl⟩ | ⟨_, rfl⟩
      · replace hk : k = b := hk
        rcases four hA' with ⟨e4, rfl⟩ | ⟨_, rfl⟩ | ⟨_, rfl⟩ | ⟨_, rfl⟩
        · omega
        · rintro (h3 | h3)
          · exact n2 (by rw [← show k = r.mb from h3, hk])
          · exact h3.1.elim
        · rintro (h3 | h3)
          · exact e1 k h3 hk
          · exact hself k (rown k (.inl hk)) (srd k h3)
        · rintro (h3 | h3)
          · exact vro_own h3
          · exact hself k (rown k (.inl hk)) (vrd k h3)
      · replace hk : k = r.mb := hk
        rcases four hA' with ⟨_, rfl⟩ | ⟨e4, rfl⟩ | ⟨_, rfl⟩ | ⟨_, rfl⟩
        · rintro (h3 | h3)
          · exact n2 (by rw [← show k = b from h3, hk])
          · exact h3.elim
        · omega
        · rintro (h3 | h3)
          · exact e2 k h3 hk
          · exact hself k (rown k (.inr hk)) (srd k h3)
        · rintro (h3 | h3)
          · exact vro_own h3
          · exact hself k (rown k (.inr hk)) (vrd k h3)
      · rcases four hA' with ⟨_, rfl⟩ | ⟨_, rfl⟩ | ⟨e4, rfl⟩ | ⟨_, rfl⟩
        · rintro (h3 | h3)
          · exact e1 k hk h3
          · exact h3.elim
        · rintro (h3 | h3)
          · exact e2 k hk h3
          · exact h3.1.elim
        · exact absurd (e3.trans e4.symm) hij
        · rintro (h3 | h3)
          · exact vro_own h3
          · exact hself k (sown k hk) (vrd k h3)
      · exact (vro_own hk).elim
  · rintro k ⟨i, A, hA, hk⟩
    rcases four hA with ⟨_, rfl⟩ | ⟨_, rfl⟩ | ⟨_, rfl⟩ | ⟨_, rfl⟩
    · exact rown k (.inl hk)
    · exact rown k (.inr hk)
    · exact sown k hk
    · exact (vro_own hk).elim
  · rintro k ⟨i, A, hA, hk⟩
    rcases four hA with ⟨_, rfl⟩ | ⟨_, rfl⟩ | ⟨_, rfl⟩ | ⟨_, rfl⟩
    · exact hk.elim
    · exact hk.1.elim
    · exact .inl (srd k hk)
    · exact .inl (vrd k hk)
/-- A node laid into the arena. -/
theorem Hp.arClose (h : Hp B w0 w H) (l l1 l2 l4 : Nat) (hd : l ≠ l1 ∧ l ≠ l2 ∧ l1 ≠ l2) {b : Nat} (hb : r.nb = b + 1) (h1 : get H l1 = some (.blk b (.cells #[.string (strOfNums r.lab), .pointer (valA r.val), .map (some r.mb)] T (0, 0)))) (h2 : get H l2 = some (.map KB NV r.mb r.kids noB)) (hl : get H l = some (.arena T TS S)) (h4 : get H l4 = some (vro TS r.val)) :
    Hp B w0 w ((l, .arena T TS (r :: S)) :: ([(l1, .emp), (l2, .emp), (l, .emp)] ++ H)) := by
  have hA := h.holds l _ hl
  have hown : ∀ k, (Asn.arena T TS (r :: S)).own k → k = b ∨ k = r.mb ∨ (Asn.arena T TS S).own k := fun k ⟨s, hs, hk⟩ => by
    rcases List.mem_cons.1 hs with rfl | hs
    · rcases hk with hk | hk
      · exact .inl (by omega)
      · exact .inr (.inl hk)
    · exact .inr (.inr ⟨s, hs, hk⟩)
  have hrd : ∀ k, (Asn.arena T TS (r :: S)).rd k → (vro TS r.val).rd k ∨ (Asn.arena T TS S).rd k := fun k ⟨s, hs, hk⟩ => by
    rcases List.mem_cons.1 hs with rfl | hs
    · exact .inl (vro_rd.2 hk)
    · exact .inr ⟨s, hs, hk⟩
  have bm : b ≠ r.mb := fun e => h.sep l1 l2 _ _ hd.2.2 h1 h2 b rfl (.inl e)
  have bS : ¬ (Asn.arena T TS S).own b := fun hk => h.sep l1 l _ _ (fun e => hd.1 e.symm) h1 hl b rfl (.inl hk)
  have mS : ¬ (Asn.arena T TS S).own r.mb := fun hk => h.sep l2 l _ _ (fun e => hd.2.1 e.symm) h2 hl r.mb rfl (.inl hk)
  refine h.bind l [(l1, .blk b (.cells #[.string (strOfNums r.lab), .pointer (valA r.val), .map (some r.mb)] T (0, 0))), (l2, .map KB NV r.mb r.kids noB), (l, .arena T TS S)] (sub_cons (sub_cons (sub_cons (sub_nil _) l hl) l2 h2) l1 h1) ⟨?_, ?_⟩ ?_ ?_ ?_ (by rw [get_cons, if_neg (fun e => hd.1 e.symm), get_cons, if_neg (fun e => hd.2.1 e.symm), get_cons, if_pos rfl]; rfl)
  · have hn := hA.1
    simp only [List.map_cons, List.cons_append, List.nodup_cons, List.mem_append, List.mem_cons, List.nodup_append, List.mem_map, not_or, not_exists, not_and] at hn ⊢
    have hb1 : r.nb - 1 = b := by omega
    rw [hb1]
    have hpos : ∀ s ∈ S, ∃ b', s.nb = b' + 1 := fun s hs => let ⟨⟨b', hb', _⟩, _⟩ := hA.2 s hs; ⟨b', hb'⟩
    refine ⟨⟨fun s hs e => ?_, bm, fun s hs e => bS ⟨s, hs, .inr e.symm⟩⟩, hn.1, ⟨fun s hs e => mS ⟨s, hs, .inr e.symm⟩, hn.2.1⟩, fun x hx y hy => ?_⟩
    · obtain ⟨b', hb'⟩ := hpos s hs
      exact bS ⟨s, hs, .inl (by omega)⟩
    · rcases hy with rfl | hy
      · obtain ⟨s, hs, rfl⟩ := hx
        obtain ⟨b', hb'⟩ := hpos s hs
        exact fun e => mS ⟨s, hs, .inl (by omega)⟩
      · exact hn.2.2 x hx y hy
  · intro s hs
    rcases List.mem_cons.1 hs with rfl | hs
    · exact ⟨⟨b, hb, h.at l1 h1⟩, h.map l2 h2, h.holds l4 _ h4⟩
    · exact hA.2 s hs
  · intro k hk
    rcases hown k hk with rfl | rfl | hk
    · exact ⟨l1, _, by rw [get_cons, if_pos rfl], rfl⟩
    · exact ⟨l2, _, by rw [get_cons, if_neg hd.2.2, get_cons, if_pos rfl], rfl⟩
    · exact ⟨l, _, by rw [get_cons, if_neg (fun e => hd.1 e.symm), get_cons, if_neg (fun e => hd.2.1 e.symm), get_cons, if_pos rfl], hk⟩
  · intro k hk
    rcases hrd k hk with hk | hk
    · exact .inr ⟨l4, _, h4, hk⟩
    · exact .inr ⟨l, _, hl, hk⟩
  · intro k hk hk2
    have own : ∃ j A, get H j = some A ∧ A.own k := by
      rcases hown k hk with rfl | rfl | hk
      · exact ⟨l1, _, h1, rfl⟩
      · exact ⟨l2, _, h2, rfl⟩
      · exact ⟨l, _, hl, hk⟩
    have rd : ∃ j A, get H j = some A ∧ A.rd k := by
      rcases hrd k hk2 with hk | hk
      · exact ⟨l4, _, h4, hk⟩
      · exact ⟨l, _, hl, hk⟩
    obtain ⟨i, A, a1, a2⟩ := own
    obtain ⟨j, A', b1, b2⟩ := rd
    by_cases e : i = j
    · subst e; rw [a1] at b1; cases b1; exact h.self i _ a1 k a2 b2
    · exact h.sep i j A A' e a1 b1 k a2 (.inr b2)
/-- Two arenas in one. -/
theorem Hp.arJoin (h : Hp B w0 w H) (l l2 : Nat) (hd : l ≠ l2) (h1 : get H l = some (.arena T TS S)) (h2 : get H l2 = some (.arena T TS S')) : Hp B w0 w ((l, .arena T TS (S ++ S')) :: ([(l, .emp), (l2, .emp)] ++ H)) := by
  have hA := h.holds l _ h1
  have hA' := h.holds l2 _ h2
  have hown : ∀ k, (Asn.arena T TS (S ++ S')).own k → (Asn.arena T TS S).own k ∨ (Asn.arena T TS S').own k := fun k ⟨s, hs, hk⟩ => (List.mem_append.1 hs).imp (fun h => ⟨s, h, hk⟩) (fun h => ⟨s, h, hk⟩)
  have hrd : ∀ k, (Asn.arena T TS (S ++ S')).rd k → (Asn.arena T TS S).rd k ∨ (Asn.arena T TS S').rd k := fun k ⟨s, hs, hk⟩ => (List.mem_append.1 hs).imp (fun h => ⟨s, h, hk⟩) (fun h => ⟨s, h, hk⟩)
  have ne : ∀ k, (Asn.arena T TS S).own k → ¬ (Asn.arena T TS S').own k := fun k a b => h.sep l l2 _ _ hd h1 h2 k a (.inl b)
  have pos : ∀ {S : List TRec}, (Asn.arena T TS S).holds w → ∀ s ∈ S, ∃ b', s.nb = b' + 1 := fun hA s hs => let ⟨⟨b', hb', _⟩, _⟩ := hA.2 s hs; ⟨b', hb'⟩
  refine h.bind l [(l, .arena T TS S), (l2, .arena T TS S')] (sub_cons (sub_cons (sub_nil _) l2 h2) l h1) ⟨?_, ?_⟩ ?_ ?_ ?_ (by simp [get_cons])
  · have hn := hA.1
    have hn' := hA'.1
    simp only [List.map_append, List.nodup_append, List.mem_append, List.mem_map] at hn hn' ⊢
    refine ⟨⟨hn.1, hn'.1, ?_⟩, ⟨hn.2.1, hn'.2.1, ?_⟩, ?_⟩
    · rintro x ⟨s, hs, rfl⟩ y ⟨t, ht, rfl⟩ e
      obtain ⟨c, hc⟩ := pos hA s hs
      obtain ⟨d, hd'⟩ := pos hA' t ht
      exact ne c ⟨s, hs, .inl hc.symm⟩ ⟨t, ht, .inl (by omega)⟩
    · rintro x ⟨s, hs, rfl⟩ y ⟨t, ht, rfl⟩ e
      exact ne s.mb ⟨s, hs, .inr rfl⟩ ⟨t, ht, .inr e⟩
    · rintro x (hx | hx) y (hy | hy)
      · exact hn.2.2 x hx y hy
      · obtain ⟨s, hs, rfl⟩ := hx
        obtain ⟨t, ht, rfl⟩ := hy
        obtain ⟨c, hc⟩ := pos hA s hs
        exact fun e => ne c ⟨s, hs, .inl hc.symm⟩ ⟨t, ht, .inr (by omega)⟩
      · obtain ⟨s, hs, rfl⟩ := hx
        obtain ⟨t, ht, rfl⟩ := hy
        obtain ⟨c, hc⟩ := pos hA' s hs
        exact fun e => ne c ⟨t, ht, .inr (by omega)⟩ ⟨s, hs, .inl hc.symm⟩
      · exact hn'.2.2 x hx y hy
  · intro s hs
    rcases List.mem_append.1 hs with hs | hs
    · exact hA.2 s hs
    · exact hA'.2 s hs
  · intro k hk
    rcases hown k hk with hk | hk
    · exact ⟨l, _, by rw [get_cons, if_pos rfl], hk⟩
    · exact ⟨l2, _, by rw [get_cons, if_neg hd, get_cons, if_pos rfl], hk⟩
  · intro k hk
    rcases hrd k hk with hk | hk
    · exact .inr ⟨l, _, h1, hk⟩
    · exact .inr ⟨l2, _, h2, hk⟩
  · intro k hk hk2
    rcases hown k hk with hk | hk <;> rcases hrd k hk2 with hk2 | hk2
    · exact h.self l _ h1 k hk hk2
    · exact h.sep l l2 _ _ hd h1 h2 k hk (.inr hk2)
    · exact h.sep l2 l _ _ (fun e => hd e.symm) h2 h1 k hk (.inr hk2)
    · exact h.self l2 _ h2 k hk hk2
/-- An empty one. -/
theorem Hp.arNil (h : Hp B w0 w H) (l : Nat) (T TS : TypeId) : Hp B w0 w ((l, .arena T TS []) :: H) :=
  h.one (Mods.refl (fun _ => False) w) l _ (fun k hk => hk.elim) ⟨List.nodup_nil, fun r hr => (by cases hr)⟩ (fun k ⟨r, hr, _⟩ => by cases hr) (fun k ⟨r, hr, _⟩ => by cases hr) (fun k hk => by rcases hk with ⟨r, hr, _⟩ | ⟨r, hr, _⟩ <;> cases hr) (fun k ⟨r, hr, _⟩ => by cases hr)
/-- A node that is only read. -/
theorem Hp.arRo (h : Hp B w0 w H) (l l1 l2 l4 : Nat) (hd : l1 ≠ l ∧ l2 ≠ l ∧ l4 ≠ l ∧ l1 ≠ l2 ∧ l1 ≠ l4 ∧ l2 ≠ l4) (hl : get H l = some (.ro (.arena T TS S))) (hr : r ∈ S) :
    ∃ b, r.nb = b + 1 ∧ Hp B w0 w ((l4, vro TS r.val) :: (l2, .ro (.map KB NV r.mb r.kids noB)) :: (l1, .ro (.blk b (.cells #[.string (strOfNums r.lab), .pointer (valA r.val), .map (some r.mb)] T (0, 0)))) :: H) := by
  obtain ⟨⟨b, hb, a1⟩, a2, a3⟩ := (h.holds l _ hl).2 r hr
  have g1 := h.addro l1 (.ro (.blk b (.cells #[.string (strOfNums r.lab), .pointer (valA r.val), .map (some r.mb)] T (0, 0)))) (fun _ hk => hk) a1 (fun i hi => ⟨l, _, hl, .inl ⟨r, hr, .inl (by rcases hi with hi | hi; (· rw [show i = b from hi, hb]); (· exact hi.elim))⟩⟩)
  have e1 : get ((l1, Asn.ro (.blk b (.cells #[.string (strOfNums r.lab), .pointer (valA r.val), .map (some r.mb)] T (0, 0)))) :: H) l = some (.ro (.arena T TS S)) := by rw [get_cons, if_neg hd.1]; exact hl
  have g2 := g1.addro l2 (.ro (.map KB NV r.mb r.kids noB)) (fun _ hk => hk) a2 (fun i hi => ⟨l, _, e1, .inl ⟨r, hr, .inr (by rcases hi with hi | hi; exact hi; exact hi.1.elim)⟩⟩)
  have e2 : get ((l2, Asn.ro (.map KB NV r.mb r.kids noB)) :: (l1, Asn.ro (.blk b (.cells #[.string (strOfNums r.lab), .pointer (valA r.val), .map (some r.mb)] T (0, 0)))) :: H) l = some (.ro (.arena T TS S)) := by rw [get_cons, if_neg hd.2.1]; exact e1
  exact ⟨b, hb, g2.addro l4 (vro TS r.val) (fun _ hk => vro_own hk) a3 (fun i hi => ⟨l, _, e2, .inr ⟨r, hr, vro_rd.1 hi⟩⟩)⟩
end
section
variable {B : Nat → Prop} {w0 w : World} {H : List (Nat × Asn)} {T TS : TypeId} {S : List TRec} {r p q : TRec} {base : Str} {root : Nat} {c : Int}
theorem Hp.arPos (h : Hp B w0 w H) (l : Nat) (hl : get H l = some (.arena T TS S)) : ∀ r ∈ S, r.nb ≠ 0 := fun r hr e => by
  obtain ⟨⟨b, hb, _⟩, _⟩ := (h.holds l _ hl).2 r hr; omega
theorem Hp.arPosR (h : Hp B w0 w H) (l : Nat) (hl : get H l = some (.ro (.arena T TS S))) : ∀ r ∈ S, r.nb ≠ 0 := fun r hr e => by
  obtain ⟨⟨b, hb, _⟩, _⟩ := (h.holds l _ hl).2 r hr; omega
theorem WF.kidNone (h : WF S base root) (hp : p ∈ S) (hpos : ∀ r ∈ S, r.nb ≠ 0) (hc : (ptrA ((al p.kids c).getD 0)).isNone = true) : al p.kids c = none := by
  cases hk : al p.kids c with
  | none => rfl
  | some b =>
    obtain ⟨q, hq, e, _⟩ := h.kid p hp c b hk
    rw [hk] at hc
    have := hpos q hq
    cases b with
    | zero => exact (this e).elim
    | succ b => cases hc
theorem WF.kidSome (h : WF S base root) (hp : p ∈ S) (hc : (ptrA ((al p.kids c).getD 0)).isNone = false) : ∃ q ∈ S, al p.kids c = some q.nb := by
  cases hk : al p.kids c with
  | none => rw [hk] at hc; cases hc
  | some b =>
    obtain ⟨q, hq, e, _⟩ := h.kid p hp c b hk
    exact ⟨q, hq, by rw [e]⟩
theorem kidV (hc : al p.kids c = some q.nb) {b : Nat} (hb : q.nb = b + 1) : ptrV ((al p.kids c).getD 0) = .pointer (some ⟨b, 0, none⟩) := by rw [hc, Option.getD_some, hb]; rfl
theorem ptrV_of {n b : Nat} (hb : n = b + 1) : ptrV n = .pointer (some ⟨b, 0, none⟩) := by rw [hb]; rfl
theorem valA_none {v : Option (Nat × List Int)} (h : (valA v).isNone = true) : v = none := by
  cases v with
  | none => rfl
  | some bv => cases h
theorem valA_some {v : Option (Nat × List Int)} (h : (valA v).isNone = false) : ∃ b s, v = some (b, s) := by
  cases v with
  | none => cases h
  | some bv => exact ⟨bv.1, bv.2, rfl⟩
theorem head_gi {xs : List Int} (h : 0 < xs.length) : xs.head? = some (gi xs 0) := by
  cases xs with
  | nil => simp at h
  | cons x xs => rfl
theorem perm_of {S : List TRec} {p : TRec} (h : p ∈ S) : ∃ S', S.Perm (p :: S') := by
  obtain ⟨s, t, rfl⟩ := List.append_of_mem h
  exact ⟨s ++ t, List.perm_middle⟩
theorem Hp.arFresh (h : Hp B w0 w H) (l l1 : Nat) (hd : l1 ≠ l) (hl : get H l = some (.arena T TS S)) {b : Nat} {o : Obj} (h1 : get H l1 = some (.blk b o)) : b + 1 ∉ S.map (·.nb) := fun hm => by
  obtain ⟨r, hr, e⟩ := List.mem_map.1 hm
  exact h.sep l1 l _ _ hd h1 hl b rfl (.inl ⟨r, hr, .inl e.symm⟩)
theorem Hp.blkNe (h : Hp B w0 w H) (l1 l2 : Nat) (hd : l1 ≠ l2) {b b' : Nat} {o o' : Obj} (h1 : get H l1 = some (.blk b o)) (h2 : get H l2 = some (.blk b' o')) : b ≠ b' := fun e => h.sep l1 l2 _ _ hd h1 h2 b rfl (.inl e)
/-! ### Texts' beginnings, as the code compares -/
theorem gi_get {xs : List Int} {n : Nat} (h : n < xs.length) : xs[n]? = some (gi xs n) := gi_some (i := (n : Int)) (by omega) (by omega)
theorem lcp_get : ∀ {a b : Str} {n : Nat}, n < (lcp a b).length → a[n]? = b[n]?
  | x :: xs, y :: ys, n, h => by
    unfold lcp at h
    split at h
    · rename_i e; subst e
      cases n with
      | zero => rfl
      | succ n => simp only [List.getElem?_cons_succ]; exact lcp_get (by simpa using h)
    · simp at h
  | [], _, n, h => by simp [lcp] at h
  | _ :: _, [], n, h => by simp [lcp] at h
theorem lcp_step {a b : Str} {n : Nat} (h : n ≤ (lcp a b).length) (ha : n < a.length) (hb : n < b.length) (he : gi a n = gi b n) : n + 1 ≤ (lcp a b).length := by
  rcases Nat.lt_or_ge n (lcp a b).length with h1 | h1
  · exact h1
  · have e : (lcp a b).length = n := by omega
    have h2 : a.take (n + 1) <+: b := by
      have e1 : a.take n = lcp a b := (List.prefix_iff_eq_take.1 (lcp_left a b)).symm ▸ by rw [e]
      have e2 : b.take n = lcp a b := (List.prefix_iff_eq_take.1 (lcp_right a b)).symm ▸ by rw [e]
      rw [List.take_add_one, gi_get ha, he, ← gi_get hb, e1, ← e2, ← List.take_add_one]
      exact List.take_prefix _ _
    have := (lcp_most (List.take_prefix (n + 1) a) h2).length_le
    rw [List.length_take] at this; omega
theorem lcp_stop {a b : Str} {n : Nat} (h : n ≤ (lcp a b).length) (ha : n < a.length) (hb : n < b.length) (he : gi a n ≠ gi b n) : (lcp a b).length = n := by
  rcases Nat.lt_or_ge n (lcp a b).length with h1 | h1
  · have := lcp_get h1
    rw [gi_get ha, gi_get hb] at this
    exact (he (by injection this)).elim
  · omega
theorem lcp_self (a : Str) : lcp a a = a := by
  have h := lcp_most (List.prefix_refl a) (List.prefix_refl a)
  exact (h.eq_of_length (by have h1 := (lcp_left a a).length_le; have h2 := h.length_le; omega)).symm
theorem pre_take {xs b : Str} (h : xs.length ≤ b.length) : decide (b.take xs.length = xs) = decide (xs <+: b) := by
  rw [decide_eq_decide, List.prefix_iff_eq_take]; exact ⟨fun h => h.symm, fun h => h.symm⟩
theorem pre_long {xs b : Str} (h : b.length < xs.length) : decide (xs <+: b) = false := decide_eq_false fun h1 => by have := h1.length_le; omega
end
end Go.Proofs.Ytlcnoibjhmflnaa.Sx
