/- What the document decodes a request's bytes to: the fields by their places. -/
import Derived.Test.YtiiklnghnifmjaaGreatDoorSdcDZc
import Derived.Test.YtiiklnghnifmjaaGreatDoorRdcDZc
set_option linter.unusedVariables false
set_option linter.unusedSimpArgs false
namespace Go.Proofs.YtiiklnghnifmjaaGreatDoor.Act
open Go.RowKit Go.Proofs.YtiiklnghnifmjaaGreatDoor.Sx Go.Proofs.YtiiklnghnifmjaaGreatDoor.Cod Go.Proofs.YtiiklnghnifmjaaGreatDoor.Num
theorem readO_none {bs : List Int} {dl : List Fld} (hd : decR bs = some dl) (hby : ∀ f ∈ dl, Byte f.2) (hm : gf dl 0 ∈ dl) (hk : ¬ gi (gf dl 0).2 0 = 1 ∧ ¬ gi (gf dl 0).2 0 = 4 ∧ ¬ gi (gf dl 0).2 0 = 2 ∧ ¬ gi (gf dl 0).2 0 = 3) : ReadO bs ⟨gi (gf dl 0).2 0, [], zS, zT⟩ true := by
  refine ⟨⟨i64_u8 ((hby _ hm : Byte _).gi 0), Byte.nil, zS_B, zT_B⟩, fun o ho hb e => ⟨rfl, ?_⟩⟩
  obtain ⟨e1, _⟩ := op_of hd ho hb e
  rw [e1] at hk
  rcases overO_parts hb ho with ⟨h | h, _⟩ | ⟨h, _⟩ | ⟨h, _⟩
  · exact absurd h hk.1
  · exact absurd h hk.2.1
  · exact absurd h hk.2.2.1
  · exact absurd h hk.2.2.2
theorem QInv.start2 (dl : List Fld) : QInv dl 2 [] := fun r _ _ _ => by simp
theorem tagQ3 {r : SReqD} {k : Nat} (hk : (k : Int) < ((reqF r).length : Int)) (h2 : 2 ≤ k) : (gf (reqF r) (k : Int)).1 = 3 := by
  rcases tagQ (r := r) (k := k) (by omega) with ⟨ha, _⟩ | ⟨_, _, hf⟩
  · omega
  · rw [hf]
theorem QInv.op2 {dl : List Fld} {k : Nat} {os : List OpD} (h : QInv dl k os) (hk : (k : Int) < dl.length) (h2 : 2 ≤ k) {o : OpD} (hd : ReadO (gf dl (k : Int)).2 o true) : QInv dl (k + 1) (os ++ [o]) := by
  intro r hr hb e
  have h3 : (gf dl (k : Int)).1 = 3 := by subst e; exact tagQ3 hk h2
  exact h.op hk h3 hd r hr hb e
theorem noQ_op2 {bs : List Int} {dl : List Fld} {k : Nat} (hd : decR (bodyM bs) = some dl) (hk : (k : Int) < dl.length) (h2 : 2 ≤ k) {o : OpD} {b : Bool} (ho : ReadO (gf dl (k : Int)).2 o b) (hb_ : b = false) : NoQ bs := by
  intro r hr hb e
  have hd0 := hd
  rw [← e, decR_Q hr hb] at hd
  have h3 : (gf dl (k : Int)).1 = 3 := by cases hd; exact tagQ3 hk h2
  exact noQ_op hd0 hk h3 ho hb_ r hr hb e
theorem gf_headQ (r : SReqD) : (gf (reqF r) 0).2 = r.client ∧ (gf (reqF r) 1).2 = bI r.num := ⟨rfl, rfl⟩
theorem noQ_shape {bs : List Int} {dl : List Fld} (hd : decR (bodyM bs) = some dl) (h : ¬ (2 ≤ (dl.length : Int) ∧ numOk (gf dl 1).2 = true ∧ ¬ 1099511627776 < numV (gf dl 1).2)) : NoQ bs := fun r hr hb e => by
  rw [← e, decR_Q hr hb] at hd
  cases hd
  have R := rightQ_parts hr
  have n := num_bI (n := r.num) (by omega) (by omega)
  rw [(gf_headQ r).2, n.1, n.2] at h
  exact h ⟨by unfold reqF; simp only [List.length_append, List.length_cons, List.length_nil]; omega, rfl, by omega⟩
def rzQ (dl : List Fld) (os : List OpD) : SReqD := ⟨(gf dl 0).2, numV (gf dl 1).2, os⟩
theorem noQ_rend {bs : List Int} {dl : List Fld} {os : List OpD} (hd : decR (bodyM bs) = some dl) (h : QInv dl dl.length os) (hn : ¬ (encQE (rzQ dl os) = 0 ∧ encQ (rzQ dl os) = bs)) : NoQ bs := fun r hr hb e => by
  have hd2 := decR_Q hr hb
  rw [e, hd] at hd2
  cases hd2
  have hz : rzQ (reqF r) os = zQ (reqF r) os := by unfold rzQ zQ; rw [(gf_headQ r).1, (gf_headQ r).2, (fnd_headQ r).1, (fnd_headQ r).2]
  rw [hz] at hn
  exact noQ_end hd h hn r hr hb e
theorem noQ_short {bs : List Int} (h : (bs.length : Int) < 4) : NoQ bs := fun r hr hb e => by
  rw [← e, ← encQ_yes hr, List.length_append] at h
  simp only [le4, List.length_cons, List.length_nil] at h
  omega
theorem DecQ.uniq {bs : List Int} {r r' : SReqD} {g g' : Int} (h : DecQ bs r g) (h' : DecQ bs r' g') : r = r' ∧ g = g' := by
  rcases h with ⟨hb, ⟨hg, h1, h2⟩ | ⟨hg, hn, hz⟩⟩
  · have := h'.of h1 hb h2
    exact ⟨this.2.symm, by rw [hg, this.1]⟩
  · rcases h' with ⟨hb', ⟨_, h1, h2⟩ | ⟨hg', _, hz'⟩⟩
    · exact absurd h2 (hn r' h1 hb')
    · exact ⟨hz.trans hz'.symm, by rw [hg, hg']⟩
end Go.Proofs.YtiiklnghnifmjaaGreatDoor.Act
