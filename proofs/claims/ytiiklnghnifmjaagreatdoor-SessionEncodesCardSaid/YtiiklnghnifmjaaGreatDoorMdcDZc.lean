/- What a message's bytes are decoded to, plain. -/
import Derived.Test.YtiiklnghnifmjaaGreatDoorDecDZc
set_option linter.unusedVariables false
set_option linter.unusedSimpArgs false
namespace Go.Proofs.YtiiklnghnifmjaaGreatDoor.Sx
open Go.RowKit
section
variable {B : Nat → Prop} {w0 w w' : World} {H : List (Nat × Asn)}
/-- What a call handed back, and is only read. -/
theorem Hp.rdNew {α : Type} {E : Rep α} {A : Option Addr} {xs : List α} {c : Nat} {ok : Nat → Prop} (h : Hp B w0 w' H) (l : Nat) (ho : ∀ i A', get H i = some A' → ∀ k, A'.own k → k < w.heap.size) (hr : Rd E w' ok A xs c) (hf : ∀ k, ok k → w.heap.size ≤ k ∧ k < w'.heap.size) : Hp B w0 w' ((l, .rd_ E A xs c ok) :: H) ∧ ∀ i A', get ((l, .rd_ E A xs c ok) :: H) i = some A' → ∀ k, A'.own k → k < w.heap.size := by
  refine ⟨h.readable l hr (fun k hk => (hf k hk).2) (fun i A' hA k hk hk2 => by have := ho i A' hA k hk; have := (hf k hk2).1; omega), ?_⟩
  intro i A' hA k hk
  rw [get_cons] at hA
  split at hA
  · cases hA; exact hk.elim
  · exact ho i A' hA k hk
end
end Go.Proofs.YtiiklnghnifmjaaGreatDoor.Sx
namespace Go.Proofs.YtiiklnghnifmjaaGreatDoor.Act
open Go.RowKit Go.Proofs.YtiiklnghnifmjaaGreatDoor.Sx Go.Proofs.YtiiklnghnifmjaaGreatDoor.Cod Go.Proofs.YtiiklnghnifmjaaGreatDoor.Num
/-- No right message has these bytes. -/
def NoM (bs : List Int) : Prop := ∀ m, rightM m = true → MessageB m → encM m ≠ bs
def DecM (bs : List Int) (m : MessageD) (g : Int) : Prop := MessageB m ∧ ((g = 0 ∧ rightM m = true ∧ encM m = bs) ∨ (g = 161 ∧ NoM bs ∧ m = ⟨0, 0, 0, 0, [], []⟩))
def bodyM (bs : List Int) : List Int := bs.take (mx ((bs.length : Int) - 4) 0).toNat
/-- What was read so far is the message's own. -/
def MInv (dl : List Fld) (k : Nat) (ns : List Int) (cs : List ChangeD) : Prop :=
  ∀ m, rightM m = true → MessageB m → dl = msgF m → ns = (if k ≤ 2 then [] else m.nodes) ∧ cs = m.changes.take (k - 3)
theorem MInv.start (dl : List Fld) : MInv dl 0 [] [] := fun m _ _ _ => ⟨rfl, by simp⟩
theorem tagM {m : MessageD} {k : Nat} (hk : k < (msgF m).length) : (k ≤ 1 ∧ ((gf (msgF m) (k : Int)).1 = 1 ∨ (gf (msgF m) (k : Int)).1 = 2)) ∨ (k = 2 ∧ gf (msgF m) (k : Int) = (3, m.nodes)) ∨ (3 ≤ k ∧ k - 3 < m.changes.length ∧ gf (msgF m) (k : Int) = (4, encC (gchg m.changes ((k - 3 : Nat) : Int)))) := by
  have hx : (msgF m)[k]? = some (gf (msgF m) (k : Int)) := gf_some (xs := msgF m) (i := (k : Int)) (by omega) (by omega)
  by_cases h1 : m.kind = 1
  · have e : msgF m = (1, [m.kind, m.src, m.dst]) :: (2, bI m.tx) :: (3, m.nodes) :: m.changes.map (fun c => ((4, encC c) : Fld)) := by unfold msgF; rw [if_pos h1]; rfl
    rw [e] at hx hk ⊢
    rcases k with _ | _ | _ | k
    · exact .inl ⟨by omega, .inl (by rw [← Option.some.inj hx])⟩
    · exact .inl ⟨by omega, .inr (by rw [← Option.some.inj hx])⟩
    · exact .inr (.inl ⟨rfl, (Option.some.inj hx).symm⟩)
    · refine .inr (.inr ⟨by omega, ?_, ?_⟩)
      · simp only [List.length_cons, List.length_map] at hk; omega
      · have hl : k < m.changes.length := by simp only [List.length_cons, List.length_map] at hk; omega
        have hy : (m.changes.map (fun c => ((4, encC c) : Fld)))[k]? = some (gf ((1, [m.kind, m.src, m.dst]) :: (2, bI m.tx) :: (3, m.nodes) :: m.changes.map (fun c => ((4, encC c) : Fld))) ((k + 1 + 1 + 1 : Nat) : Int)) := hx
        rw [List.getElem?_map, gchg_at hl] at hy
        exact (Option.some.inj hy).symm
  · have e : msgF m = [(1, [m.kind, m.src, m.dst]), (2, bI m.tx)] := by unfold msgF; rw [if_neg h1]; rfl
    rw [e] at hx hk ⊢
    rcases k with _ | _ | k
    · exact .inl ⟨by omega, .inl (by rw [← Option.some.inj hx])⟩
    · exact .inl ⟨by omega, .inr (by rw [← Option.some.inj hx])⟩
    · simp only [List.length_cons, List.length_nil] at hk; omega
theorem MInv.skip {dl : List Fld} {k : Nat} {ns : List Int} {cs : List ChangeD} (h : MInv dl k ns cs) (hk : (k : Int) < dl.length) (h3 : ¬ (gf dl (k : Int)).1 = 3) (h4 : ¬ (gf dl (k : Int)).1 = 4) : MInv dl (k + 1) ns cs := by
  intro m hr hb e
  obtain ⟨h1, h2⟩ := h m hr hb e
  subst e
  rcases tagM (m := m) (k := k) (by omega) with ⟨ha, _⟩ | ⟨_, hf⟩ | ⟨_, _, hf⟩
  · refine ⟨by rw [h1, if_pos (by omega), if_pos (by omega)], ?_⟩
    rw [h2, show k - 3 = 0 by omega, show k + 1 - 3 = 0 by omega]
  · rw [hf] at h3; exact absurd rfl h3
  · rw [hf] at h4; exact absurd rfl h4
theorem MInv.nodes {dl : List Fld} {k : Nat} {ns : List Int} {cs : List ChangeD} (h : MInv dl k ns cs) (hk : (k : Int) < dl.length) (h3 : (gf dl (k : Int)).1 = 3) : MInv dl (k + 1) (ns ++ (gf dl (k : Int)).2) cs := by
  intro m hr hb e
  obtain ⟨h1, h2⟩ := h m hr hb e
  subst e
  rcases tagM (m := m) (k := k) (by omega) with ⟨_, hf⟩ | ⟨rfl, hf⟩ | ⟨_, _, hf⟩
  · omega
  · refine ⟨by rw [h1, hf]; rfl, by rw [h2]⟩
  · rw [hf] at h3; cases h3
theorem dl_short {bs : List Int} (hb : Byte bs) : short ((decR bs).getD []) = true := by
  cases h : decR bs with
  | none => rfl
  | some l => exact short_of hb h
theorem dl_byte {bs : List Int} (hb : Byte bs) : ∀ f ∈ (decR bs).getD [], Byte f.2 := by
  cases h : decR bs with
  | none => intro f hf; cases hf
  | some l => exact fld_bytes hb h
theorem dl_few {bs : List Int} (hb : Byte bs) {l : List Fld} (h : decR bs = some l) : l.length ≤ 200 ∧ ∀ f ∈ l, f.2.length ≤ 2000 := by
  have e := enc_parts (enc_dec hb h)
  exact ⟨e.2.1, fun f hf => (okF_parts (List.all_eq_true.1 e.1 f hf)).2.2⟩
theorem DecM.no {bs : List Int} (h : NoM bs) : DecM bs ⟨0, 0, 0, 0, [], []⟩ 161 :=
  ⟨⟨(by decide : Fits (0 : Int)), (by decide : Fits (0 : Int)), (by decide : Fits (0 : Int)), (by decide : Fits (0 : Int)), (fun n hn => by cases hn), (fun n hn => by cases hn)⟩, .inr ⟨rfl, h, rfl⟩⟩
theorem i64_u8 {n : Int} (h : 0 ≤ n ∧ n < 256) : Fits n := ⟨by omega, by omega⟩
theorem DecM.of {bs : List Int} {m : MessageD} {g : Int} (h : DecM bs m g) {m' : MessageD} (hr : rightM m' = true) (hb : MessageB m') (e : encM m' = bs) : g = 0 ∧ m = m' := by
  rcases h with ⟨h0, ⟨hg, h1, h2⟩ | ⟨_, hn, _⟩⟩
  · exact ⟨hg, encM_inj h1 hr h0 hb (h2.trans e.symm)⟩
  · exact absurd e (hn m' hr hb)
end Go.Proofs.YtiiklnghnifmjaaGreatDoor.Act
