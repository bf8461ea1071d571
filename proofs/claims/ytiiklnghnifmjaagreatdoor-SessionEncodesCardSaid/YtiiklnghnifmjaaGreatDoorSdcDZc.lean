/- What a request's bytes are decoded to, plain. -/
import Derived.Test.YtiiklnghnifmjaaGreatDoorSesDZc
import Derived.Test.YtiiklnghnifmjaaGreatDoorMdcDZc
set_option linter.unusedVariables false
set_option linter.unusedSimpArgs false
namespace Go.Proofs.YtiiklnghnifmjaaGreatDoor.Act
open Go.RowKit Go.Proofs.YtiiklnghnifmjaaGreatDoor.Sx Go.Proofs.YtiiklnghnifmjaaGreatDoor.Cod Go.Proofs.YtiiklnghnifmjaaGreatDoor.Num
theorem gf_in {xs : List Fld} {i : Int} (h0 : 0 ≤ i) (h1 : i < (xs.length : Int)) : gf xs i ∈ xs := List.mem_of_getElem? (gf_some h0 h1)
/-! ### an operation -/
def NoO (bs : List Int) : Prop := ∀ o, overO o = true → OpB o → opI o ≠ bs
def ReadO (bs : List Int) (o : OpD) (b : Bool) : Prop := OpB o ∧ ∀ o', overO o' = true → OpB o' → opI o' = bs → b = true ∧ o = o'
def zO : OpD := ⟨0, [], zS, zT⟩
theorem zO_B : OpB zO := ⟨by decide, Byte.nil, zS_B, zT_B⟩
theorem ReadO.no {bs : List Int} (h : NoO bs) : ReadO bs zO false := ⟨zO_B, fun o' h1 h2 e => absurd e (h o' h1 h2)⟩
theorem decR_O {o : OpD} (ho : overO o = true) (hb : OpB o) : decR (opI o) = some (opF o) := dec_enc (opF_ok hb ho) (by simp [opF])
def opX (o : OpD) : List Int := if o.kind = 2 then encT [o.step] else if o.kind = 3 then encC (armC o) else o.key
theorem opF_is (o : OpD) : (opF o).length = 2 ∧ (gf (opF o) 0).2 = [o.kind] ∧ (gf (opF o) 1).2 = opX o := by
  refine ⟨by simp [opF], rfl, ?_⟩
  unfold opX
  show (if o.kind = 2 then ((3, encT [o.step]) : Fld) else if o.kind = 3 then (4, encC (armC o)) else (2, o.key)).2 = _
  split
  · rfl
  · split <;> rfl
theorem noO_none {bs : List Int} (h : decR bs = none) : NoO bs := fun o ho hb e => by rw [← e, decR_O ho hb] at h; cases h
theorem noO_len {bs : List Int} {dl : List Fld} (hd : decR bs = some dl) (h : ¬ (dl.length : Int) = 2) : NoO bs := fun o ho hb e => by
  rw [← e, decR_O ho hb] at hd; cases hd; exact h (by rw [(opF_is o).1]; rfl)
theorem noO_one {bs : List Int} {dl : List Fld} (hd : decR bs = some dl) (h : ¬ ((gf dl 0).2.length : Int) = 1) : NoO bs := fun o ho hb e => by
  rw [← e, decR_O ho hb] at hd; cases hd; exact h (by rw [(opF_is o).2.1]; rfl)
section
variable {bs : List Int} {dl : List Fld}
theorem op_of (hd : decR bs = some dl) {o : OpD} (ho : overO o = true) (hb : OpB o) (e : opI o = bs) : gi (gf dl 0).2 0 = o.kind ∧ (gf dl 1).2 = opX o := by
  rw [← e, decR_O ho hb] at hd
  cases hd
  rw [(opF_is o).2.1]
  exact ⟨rfl, (opF_is o).2.2⟩
theorem noO_step (hd : decR bs = some dl) (hk : gi (gf dl 0).2 0 = 2) (h : ¬ (adE (gf dl 1).2 = 0 ∧ (((adecR (gf dl 1).2).getD []).length : Int) = 1)) : NoO bs := fun o ho hb e => by
  obtain ⟨h1, h2⟩ := op_of hd ho hb e
  rw [hk] at h1
  rcases overO_parts hb ho with ⟨hk2, _⟩ | ⟨_, _, _, hr⟩ | ⟨hk2, _⟩
  · omega
  · have he : encE [o.step] = 0 := by unfold encE; simp [hr]
    have ha := adec_enc he (fun s hs => by rw [List.mem_singleton] at hs; subst hs; exact hb.step)
    unfold opX at h2
    rw [if_pos h1.symm] at h2
    rw [h2] at h
    exact h (by unfold adE; rw [ha]; exact ⟨rfl, rfl⟩)
  · omega
theorem readO_step (hd : decR bs = some dl) (hby : ∀ f ∈ dl, Byte f.2) (hm : gf dl 0 ∈ dl) (hm1 : gf dl 1 ∈ dl) (hk : gi (gf dl 0).2 0 = 2) (h1 : (((adecR (gf dl 1).2).getD []).length : Int) = 1) : ReadO bs ⟨gi (gf dl 0).2 0, [], gst ((adecR (gf dl 1).2).getD []) 0, zT⟩ true := by
  have hs := adec_B (hby _ hm1) _ (gst_mem (xs := (adecR (gf dl 1).2).getD []) (j := 0) (by omega))
  refine ⟨⟨i64_u8 ((hby _ hm : Byte _).gi 0), Byte.nil, hs, zT_B⟩, fun o ho hb e => ⟨rfl, ?_⟩⟩
  obtain ⟨e1, e2⟩ := op_of hd ho hb e
  have hk' := e1
  rw [hk] at hk'
  rcases overO_parts hb ho with ⟨hk2, _⟩ | ⟨_, hkey, ht, hr⟩ | ⟨hk2, _⟩
  · omega
  · have he : encE [o.step] = 0 := by unfold encE; simp [hr]
    have ha := adec_enc he (fun s hs => by rw [List.mem_singleton] at hs; subst hs; exact hb.step)
    unfold opX at e2
    rw [if_pos hk'.symm] at e2
    rw [e1, e2, ha]
    obtain ⟨a, b, c, d⟩ := o
    dsimp only at *
    subst hkey ht
    rfl
  · omega
theorem noO_arm (hd : decR bs = some dl) (hk : gi (gf dl 0).2 0 = 3) {c : ChangeD} {g : Int} (hc : DecC (gf dl 1).2 c g) (hg : ¬ g = 0) : NoO bs := fun o ho hb e => by
  obtain ⟨h1, h2⟩ := op_of hd ho hb e
  rw [hk] at h1
  unfold opX at h2
  rw [if_neg (by omega), if_pos h1.symm] at h2
  rw [h2] at hc
  exact hg (hc.of (armC_right hb ho h1.symm) (armC_B hb) rfl).1
def unver (t : TimerD) : TimerD := ⟨t.name, 0, t.tick, t.every, t.steps⟩
theorem readO_arm (hd : decR bs = some dl) (hby : ∀ f ∈ dl, Byte f.2) (hm : gf dl 0 ∈ dl) (hk : gi (gf dl 0).2 0 = 3) {c : ChangeD} {g : Int} (hc : DecC (gf dl 1).2 c g) : ReadO bs ⟨gi (gf dl 0).2 0, [], zS, unver c.timer⟩ true := by
  refine ⟨⟨i64_u8 ((hby _ hm : Byte _).gi 0), Byte.nil, zS_B, ⟨hc.1.timer.name, (by decide : Fits (0 : Int)), hc.1.timer.tick, hc.1.timer.every, hc.1.timer.steps⟩⟩, fun o ho hb e => ⟨rfl, ?_⟩⟩
  obtain ⟨e1, e2⟩ := op_of hd ho hb e
  have hk' := e1
  rw [hk] at hk'
  unfold opX at e2
  rw [if_neg (by omega), if_pos hk'.symm] at e2
  rw [e2] at hc
  have hcc := (hc.of (armC_right hb ho hk'.symm) (armC_B hb) rfl).2
  rcases overO_parts hb ho with ⟨hk2, _⟩ | ⟨hk2, _⟩ | ⟨_, hkey, hst, hv, _⟩
  · omega
  · omega
  · rw [e1, hcc]
    obtain ⟨a, b, c', d⟩ := o
    obtain ⟨n, v, tk, ev, st⟩ := d
    dsimp only at *
    subst hkey hst hv
    rfl
theorem readO_key (hd : decR bs = some dl) (hby : ∀ f ∈ dl, Byte f.2) (hm : gf dl 0 ∈ dl) (hm1 : gf dl 1 ∈ dl) (hk2 : ¬ gi (gf dl 0).2 0 = 2) (hk3 : ¬ gi (gf dl 0).2 0 = 3) : ReadO bs ⟨gi (gf dl 0).2 0, (gf dl 1).2, zS, zT⟩ true := by
  refine ⟨⟨i64_u8 ((hby _ hm : Byte _).gi 0), hby _ hm1, zS_B, zT_B⟩, fun o ho hb e => ⟨rfl, ?_⟩⟩
  obtain ⟨e1, e2⟩ := op_of hd ho hb e
  rw [e1] at hk2 hk3
  unfold opX at e2
  rw [if_neg hk2, if_neg hk3] at e2
  rcases overO_parts hb ho with ⟨_, _, hs, ht⟩ | ⟨h, _⟩ | ⟨h, _⟩
  · rw [e1, e2]
    obtain ⟨a, b, c, d⟩ := o
    dsimp only at *
    subst hs ht
    rfl
  · exact absurd h hk2
  · exact absurd h hk3
end
/-! ### a request -/
def NoQ (bs : List Int) : Prop := ∀ r, rightQ r = true → SReqB r → encQ r ≠ bs
def zR : SReqD := ⟨[], 0, []⟩
def DecQ (bs : List Int) (r : SReqD) (g : Int) : Prop := SReqB r ∧ ((g = 0 ∧ rightQ r = true ∧ encQ r = bs) ∨ (g = 221 ∧ NoQ bs ∧ r = zR))
theorem DecQ.no {bs : List Int} (h : NoQ bs) : DecQ bs zR 221 := ⟨⟨Byte.nil, by decide, fun o ho => by cases ho⟩, .inr ⟨rfl, h, rfl⟩⟩
theorem body_Q {r : SReqD} (h : rightQ r = true) : bodyM (encQ r) = encI (reqF r) := by
  unfold bodyM
  rw [← encQ_yes h]
  have : (mx (((encI (reqF r) ++ le4 (Crc.moreI 0 (encI (reqF r)))).length : Int) - 4) 0).toNat = (encI (reqF r)).length := by
    simp only [List.length_append, le4, List.length_cons, List.length_nil]
    unfold mx; split <;> omega
  rw [this, List.take_left]
theorem decR_Q {r : SReqD} (h : rightQ r = true) (hb : SReqB r) : decR (bodyM (encQ r)) = some (reqF r) := by
  rw [body_Q h]
  exact dec_enc (reqF_ok hb h).1 (by have := (reqF_ok hb h).2; omega)
def QInv (dl : List Fld) (k : Nat) (os : List OpD) : Prop := ∀ r, rightQ r = true → SReqB r → dl = reqF r → os = r.ops.take (k - 2)
theorem QInv.start (dl : List Fld) : QInv dl 0 [] := fun r _ _ _ => by simp
theorem tagQ {r : SReqD} {k : Nat} (hk : k < (reqF r).length) : (k ≤ 1 ∧ ((gf (reqF r) (k : Int)).1 = 1 ∨ (gf (reqF r) (k : Int)).1 = 2)) ∨ (2 ≤ k ∧ k - 2 < r.ops.length ∧ gf (reqF r) (k : Int) = (3, opI (gopd r.ops ((k - 2 : Nat) : Int)))) := by
  have hx : (reqF r)[k]? = some (gf (reqF r) (k : Int)) := gf_some (xs := reqF r) (i := (k : Int)) (by omega) (by omega)
  have e : reqF r = (1, r.client) :: (2, bI r.num) :: r.ops.map (fun o => ((3, opI o) : Fld)) := rfl
  rw [e] at hx hk ⊢
  rcases k with _ | _ | k
  · exact .inl ⟨by omega, .inl (by rw [← Option.some.inj hx])⟩
  · exact .inl ⟨by omega, .inr (by rw [← Option.some.inj hx])⟩
  · refine .inr ⟨by omega, ?_, ?_⟩
    · simp only [List.length_cons, List.length_map] at hk; omega
    · have hl : k < r.ops.length := by simp only [List.length_cons, List.length_map] at hk; omega
      have hy : (r.ops.map (fun o => ((3, opI o) : Fld)))[k]? = some (gf ((1, r.client) :: (2, bI r.num) :: r.ops.map (fun o => ((3, opI o) : Fld))) ((k + 1 + 1 : Nat) : Int)) := hx
      rw [List.getElem?_map, gopd_at hl] at hy
      exact (Option.some.inj hy).symm
theorem QInv.skip {dl : List Fld} {k : Nat} {os : List OpD} (h : QInv dl k os) (hk : (k : Int) < dl.length) (h3 : ¬ (gf dl (k : Int)).1 = 3) : QInv dl (k + 1) os := by
  intro r hr hb e
  have h1 := h r hr hb e
  subst e
  rcases tagQ (r := r) (k := k) (by omega) with ⟨ha, _⟩ | ⟨_, _, hf⟩
  · rw [h1, show k - 2 = 0 by omega, show k + 1 - 2 = 0 by omega]
  · rw [hf] at h3; exact absurd rfl h3
theorem QInv.op {dl : List Fld} {k : Nat} {os : List OpD} (h : QInv dl k os) (hk : (k : Int) < dl.length) (h3 : (gf dl (k : Int)).1 = 3) {o : OpD} (hd : ReadO (gf dl (k : Int)).2 o true) : QInv dl (k + 1) (os ++ [o]) := by
  intro r hr hb e
  have h1 := h r hr hb e
  subst e
  rcases tagQ (r := r) (k := k) (by omega) with ⟨ha, hf⟩ | ⟨h2, hl, hf⟩
  · rw [h3] at hf; rcases hf with hf | hf <;> cases hf
  · rw [hf] at hd
    have hm := gopd_mem (xs := r.ops) (j := k - 2) hl
    have hc := (hd.2 _ (rightQ_op hb hr hm) (hb.ops _ hm) rfl).2
    rw [h1, hc, show k + 1 - 2 = (k - 2) + 1 by omega, List.take_add_one, gopd_at hl]
    rfl
theorem noQ_op {bs : List Int} {dl : List Fld} {k : Nat} (hd : decR (bodyM bs) = some dl) (hk : (k : Int) < dl.length) (h3 : (gf dl (k : Int)).1 = 3) {o : OpD} {b : Bool} (ho : ReadO (gf dl (k : Int)).2 o b) (hb_ : b = false) : NoQ bs := by
  intro r hr hb e
  rw [← e, decR_Q hr hb] at hd
  cases hd
  rcases tagQ (r := r) (k := k) (by omega) with ⟨ha, hf⟩ | ⟨h2, hl, hf⟩
  · rw [h3] at hf; rcases hf with hf | hf <;> cases hf
  · rw [hf] at ho
    have hm := gopd_mem (xs := r.ops) (j := k - 2) hl
    have := (ho.2 _ (rightQ_op hb hr hm) (hb.ops _ hm) rfl).1
    rw [hb_] at this; cases this
theorem noQ_none {bs : List Int} (h : decR (bodyM bs) = none) : NoQ bs := fun r hr hb e => by rw [← e, decR_Q hr hb] at h; cases h
theorem fnd_headQ (r : SReqD) : fnd (reqF r) 1 = r.client ∧ fnd (reqF r) 2 = bI r.num := by unfold fnd findI reqF; exact ⟨rfl, rfl⟩
theorem noQ_head {bs : List Int} {dl : List Fld} (hd : decR (bodyM bs) = some dl) (h : ¬ (numOk (fnd dl 2) = true ∧ ¬ 1099511627776 < numV (fnd dl 2))) : NoQ bs := fun r hr hb e => by
  rw [← e, decR_Q hr hb] at hd
  cases hd
  have R := rightQ_parts hr
  have n := num_bI (n := r.num) (by omega) (by omega)
  rw [(fnd_headQ r).2, n.1, n.2] at h
  exact h ⟨rfl, by omega⟩
def zQ (dl : List Fld) (os : List OpD) : SReqD := ⟨fnd dl 1, numV (fnd dl 2), os⟩
theorem noQ_end {bs : List Int} {dl : List Fld} {os : List OpD} (hd : decR (bodyM bs) = some dl) (h : QInv dl dl.length os) (hn : ¬ (encQE (zQ dl os) = 0 ∧ encQ (zQ dl os) = bs)) : NoQ bs := fun r hr hb e => by
  have hd2 := decR_Q hr hb
  rw [e, hd] at hd2
  cases hd2
  have R := rightQ_parts hr
  have n := num_bI (n := r.num) (by omega) (by omega)
  have h1 := h r hr hb rfl
  have hl : (reqF r).length = 2 + r.ops.length := by unfold reqF; simp; omega
  rw [hl, List.take_of_length_le (by omega)] at h1
  have hz : zQ (reqF r) os = r := by
    unfold zQ
    rw [(fnd_headQ r).1, (fnd_headQ r).2, n.1, h1]
  rw [hz] at hn
  exact hn ⟨encQE_yes hr, e⟩
theorem opI_inj {a b : OpD} (ha : overO a = true) (hb : overO b = true) (Ba : OpB a) (Bb : OpB b) (h : opI a = opI b) : a = b := by
  have h1 := decR_O ha Ba
  have h2 := decR_O hb Bb
  rw [h, h2] at h1
  have e := Option.some.inj h1
  have e1 : a.kind = b.kind := by
    have := congrArg (fun l : List Fld => (gf l 0).2) e
    rw [(opF_is a).2.1, (opF_is b).2.1] at this
    exact (List.cons.inj this).1.symm
  have e2 : opX a = opX b := by
    have := congrArg (fun l : List Fld => (gf l 1).2) e
    rw [(opF_is a).2.2, (opF_is b).2.2] at this
    exact this.symm
  unfold opX at e2
  obtain ⟨ak, aK, aS, aT⟩ := a
  obtain ⟨bk, bK, bS, bT⟩ := b
  dsimp only at e1
  subst e1
  rcases overO_parts Ba ha with ⟨hk, _, hs, ht⟩ | ⟨hk, hK, ht, hr⟩ | ⟨hk, hK, hs, hv, hr⟩
  · rcases overO_parts Bb hb with ⟨_, _, hs2, ht2⟩ | ⟨hk2, _⟩ | ⟨hk2, _⟩
    · dsimp only at *
      rw [if_neg (by omega), if_neg (by omega), if_neg (by omega), if_neg (by omega)] at e2
      subst hs ht e2
      rw [hs2, ht2]
    · dsimp only at *; omega
    · dsimp only at *; omega
  · rcases overO_parts Bb hb with ⟨hk2, _⟩ | ⟨_, hK2, ht2, hr2⟩ | ⟨hk2, _⟩
    · dsimp only at *; omega
    · dsimp only at *
      rw [if_pos hk, if_pos hk] at e2
      have := encT_inj (a := [aS]) (b := [bS]) (by unfold encE; simp [hr]) (by unfold encE; simp [hr2]) (fun s hs => by rw [List.mem_singleton] at hs; subst hs; exact Ba.step) (fun s hs => by rw [List.mem_singleton] at hs; subst hs; exact Bb.step) e2
      rw [(List.cons.inj this).1, hK, hK2, ht, ht2]
    · dsimp only at *; omega
  · rcases overO_parts Bb hb with ⟨hk2, _⟩ | ⟨hk2, _⟩ | ⟨_, hK2, hs2, hv2, hr2⟩
    · dsimp only at *; omega
    · dsimp only at *; omega
    · dsimp only at *
      rw [if_neg (by omega), if_pos hk, if_neg (by omega), if_pos hk] at e2
      have := encC_inj (armC_right Ba ha hk) (armC_right Bb hb hk) (armC_B Ba) (armC_B Bb) e2
      obtain ⟨n1, v1, t1, e1, s1⟩ := aT
      obtain ⟨n2, v2, t2, e2', s2⟩ := bT
      unfold armC verOne at this
      simp at this
      dsimp only at hv hv2
      obtain ⟨q1, q2, q3, q4⟩ := this
      subst q1 q2 q3 q4 hv hs hK
      rw [hv2, hs2, hK2]
theorem map_opI_inj : ∀ {a b : List OpD}, (∀ o ∈ a, overO o = true ∧ OpB o) → (∀ o ∈ b, overO o = true ∧ OpB o) → a.map (fun o => ((3, opI o) : Fld)) = b.map (fun o => (3, opI o)) → a = b
  | [], [], _, _, _ => rfl
  | [], y :: b, _, _, h => by simp at h
  | x :: a, [], _, _, h => by simp at h
  | x :: a, y :: b, ha, hb, h => by
    simp only [List.map_cons, List.cons.injEq, Prod.mk.injEq, true_and] at h
    rw [opI_inj (ha x (by simp)).1 (hb y (by simp)).1 (ha x (by simp)).2 (hb y (by simp)).2 h.1, map_opI_inj (fun o ho => ha o (by simp [ho])) (fun o ho => hb o (by simp [ho])) h.2]
theorem encQ_inj {a b : SReqD} (ra : rightQ a = true) (rb : rightQ b = true) (ba : SReqB a) (bb : SReqB b) (h : encQ a = encQ b) : a = b := by
  have h1 := decR_Q ra ba
  rw [h, decR_Q rb bb] at h1
  have e := Option.some.inj h1
  have Ra := rightQ_parts ra; have Rb := rightQ_parts rb
  unfold reqF at e
  simp only [List.cons_append, List.nil_append, List.cons.injEq, Prod.mk.injEq, true_and] at e
  obtain ⟨e1, e2, e3⟩ := e
  have e2' := bI_inj (a := b.num) (b := a.num) ⟨by omega, by omega⟩ ⟨by omega, by omega⟩ e2
  have e3' := map_opI_inj (fun o ho => ⟨rightQ_op bb rb ho, bb.ops o ho⟩) (fun o ho => ⟨rightQ_op ba ra ho, ba.ops o ho⟩) e3
  obtain ⟨ac, an, ao⟩ := a
  obtain ⟨bc, bn, bo⟩ := b
  dsimp only at *
  subst e1 e2' e3'
  rfl
theorem DecQ.of {bs : List Int} {r : SReqD} {g : Int} (h : DecQ bs r g) {r' : SReqD} (hr : rightQ r' = true) (hb : SReqB r') (e : encQ r' = bs) : g = 0 ∧ r = r' := by
  rcases h with ⟨h0, ⟨hg, h1, h2⟩ | ⟨_, hn, _⟩⟩
  · exact ⟨hg, encQ_inj h1 hr h0 hb (h2.trans e.symm)⟩
  · exact absurd e (hn r' hr hb)
theorem DecQ.bad {bs : List Int} {r : SReqD} {g : Int} (h : DecQ bs r g) (hn : NoQ bs) : g = 221 := by
  rcases h.2 with ⟨_, h1, h2⟩ | ⟨h1, _⟩
  · exact absurd h2 (hn r h1 h.1)
  · exact h1
end Go.Proofs.YtiiklnghnifmjaaGreatDoor.Act
