/- The bag in order; what is in it, and nothing else: plain. -/
import Derived.Test.YtfocpadeflpabaaDoorBagDZw
set_option linter.unusedVariables false
set_option linter.unusedSimpArgs false
namespace Go.Proofs.YtfocpadeflpabaaDoor.Sx
theorem Row.whole_ {α : Type} {E : Rep α} {T : TypeId} {A : Option Addr} {c : Nat} {xs : List α} {ok : Nat → Prop} {w : World} (h : Row E T w ok (.slice A xs.length c) xs) {i : Nat} {x : α} (hx : xs[i]? = some x) {n : Nat} (hn : E.n = n) :
    ∃ cs, E.R w ok x cs ∧ ∀ j u, cs.toArray.toList[j]? = some u → w.cell? ((adr A (i * n)).add j) = some u := by
  subst hn
  obtain ⟨g, cs, rfl, hR, hc⟩ := Row.at_ h hx
  refine ⟨cs, hR, fun j u hj => ?_⟩
  have e : adr (some (⟨g, 0, none⟩ : Addr)) (i * E.n) = ⟨g, i * E.n, none⟩ := by simp only [adr, Option.getD_some]; rw [add_off, Nat.zero_add]
  rw [e, add_off]
  exact hc j u (by simpa using hj)
end Go.Proofs.YtfocpadeflpabaaDoor.Sx
namespace Go.Proofs.YtfocpadeflpabaaDoor.Act
open Go.RowKit Go.Proofs.YtfocpadeflpabaaDoor.Sx Go.Proofs.YtfocpadeflpabaaDoor.Cod Go.Proofs.YtfocpadeflpabaaDoor.Num
structure BActD where
  kind : Int
  i : Int
  m : MessageD
deriving DecidableEq
def BActD.tup (x : BActD) : Int × Int × MessageD := (x.kind, x.i, x.m)
def BactE : Rep BActD := Rep.iso (Rep.pair (Rep.int .i64) (Rep.pair (Rep.int .i64) MsgE)) BActD.tup
def gbact (xs : List BActD) (i : Int) : BActD := xs.getD i.toNat ⟨0, 0, ⟨0, 0, 0, 0, [], []⟩⟩
theorem gbact_some {xs : List BActD} {i : Int} (h0 : 0 ≤ i) (h1 : i < xs.length) : xs[i.toNat]? = some (gbact xs i) := by
  have hi : i.toNat < xs.length := by omega
  simp [gbact, List.getD_eq_getElem?_getD, List.getElem?_eq_getElem hi]
theorem gbact_mem {xs : List BActD} {j : Nat} (h : j < xs.length) : gbact xs (j : Int) ∈ xs := List.mem_of_getElem? (gbact_some (xs := xs) (i := (j : Int)) (by omega) (by omega))
theorem bact_cells {w : World} {ok : Nat → Prop} {x : BActD} {cs : List Value} (h : BactE.R w ok x cs) : ∃ A0 c0 A1 c1, cs = [.int .i64 x.kind, .int .i64 x.i, .int .i64 x.m.kind, .int .i64 x.m.src, .int .i64 x.m.dst, .int .i64 x.m.tx, .slice A0 x.m.nodes.length c0, .slice A1 x.m.changes.length c1] ∧ Rd (Rep.int .i64) w ok A0 x.m.nodes c0 ∧ Rd ChgE w ok A1 x.m.changes c1 := by
  obtain ⟨cc0, dd0, rfl, hc0, cc1, dd1, rfl, hc1, hs2⟩ := h
  have he0 : cc0 = [.int .i64 x.kind] := hc0
  subst he0
  have he1 : cc1 = [.int .i64 x.i] := hc1
  subst he1
  obtain ⟨A0, c0, A1, c1, rfl, hr0, hr1⟩ := msg_cells hs2
  exact ⟨A0, c0, A1, c1, rfl, hr0, hr1⟩
theorem rd_bact {w : World} {ok : Nat → Prop} {A : Option Addr} {xs : List BActD} {c : Nat} (hr : Rd BactE w ok A xs c) {i : Nat} {f : BActD} (hx : xs[i]? = some f) : ∃ A0 c0 A1 c1, Rd (Rep.int .i64) w ok A0 f.m.nodes c0 ∧ Rd ChgE w ok A1 f.m.changes c1 ∧ w.cell? (adr A (i * 8)) = some (.int .i64 f.kind) ∧ w.cell? (adr A (i * 8 + 1)) = some (.int .i64 f.i) ∧ w.cell? (adr A (i * 8 + 2)) = some (.int .i64 f.m.kind) ∧ w.cell? (adr A (i * 8 + 3)) = some (.int .i64 f.m.src) ∧ w.cell? (adr A (i * 8 + 4)) = some (.int .i64 f.m.dst) ∧ w.cell? (adr A (i * 8 + 5)) = some (.int .i64 f.m.tx) ∧ w.cell? (adr A (i * 8 + 6)) = some (.slice A0 f.m.nodes.length c0) ∧ w.cell? (adr A (i * 8 + 7)) = some (.slice A1 f.m.changes.length c1) ∧
    (∀ j u, (#[.int .i64 f.kind, .int .i64 f.i, .int .i64 f.m.kind, .int .i64 f.m.src, .int .i64 f.m.dst, .int .i64 f.m.tx, .slice A0 f.m.nodes.length c0, .slice A1 f.m.changes.length c1] : Array Value).toList[j]? = some u → w.cell? ((adr A (i * 8)).add j) = some u) := by
  obtain ⟨cs, hR, hc⟩ := hr.cellsA (n := 8) rfl hx
  obtain ⟨A0, c0, A1, c1, rfl, hr0, hr1⟩ := bact_cells hR
  obtain ⟨b, off, rfl⟩ := hr.some_ (by have := (List.getElem?_eq_some_iff.1 hx).1; omega)
  have e : ∀ q, adr (some (⟨b, off, Option.none⟩ : Addr)) q = ⟨b, off + q, Option.none⟩ := fun q => by simp only [adr, Option.getD_some]; exact add_off _ _ _
  have g : ∀ j u, [(.int .i64 f.kind : Value), .int .i64 f.i, .int .i64 f.m.kind, .int .i64 f.m.src, .int .i64 f.m.dst, .int .i64 f.m.tx, .slice A0 f.m.nodes.length c0, .slice A1 f.m.changes.length c1][j]? = some u → w.cell? (adr (some (⟨b, off, Option.none⟩ : Addr)) (i * 8 + j)) = some u := fun j u hj => by
    have := hc j u hj
    rw [e, add_off] at this
    rw [e, ← Nat.add_assoc]; exact this
  exact ⟨A0, c0, A1, c1, hr0, hr1, g 0 _ rfl, g 1 _ rfl, g 2 _ rfl, g 3 _ rfl, g 4 _ rfl, g 5 _ rfl, g 6 _ rfl, g 7 _ rfl, fun j u hj => hc j u hj⟩
theorem in8_parts {n : Int} (h : in8 n = true) : 0 ≤ n ∧ n < 8 := by unfold in8 at h; simpa using h
/-! ### Nothing else -/
structure WholeI (k : Nat) (ss : List MessageD) (s : BagS) (count taken : Int) : Prop where
  ok : BagOk s
  known : ∀ p ∈ s.ways, p.1 ∈ ss
  eps : ∀ d, 0 ≤ d → d < 8 → 0 ≤ gi s.eps d ∧ gi s.eps d ≤ k
  way : ∀ p ∈ s.ways, 0 ≤ p.2 ∧ p.2 ≤ gi s.eps p.1.dst
  cnt : count = taken + s.lost + (s.ways.length : Int)
  lo : 0 ≤ taken ∧ 0 ≤ s.lost ∧ count ≤ k
  ssb : ∀ m ∈ ss, MessageB m
  ssl : ss.length ≤ k
theorem WholeI.start : WholeI 0 [] bag0 0 0 :=
  ⟨bag0_ok, (fun p hp => by cases hp), (fun d h0 h1 => by rw [show gi bag0.eps d = 0 from gi0 h0 h1]; omega), (fun p hp => by cases hp), rfl, ⟨by decide, by decide, by decide⟩, (fun m hm => by cases hm), by simp⟩
section
variable {k : Nat} {ss : List MessageD} {s : BagS} {count taken : Int}
theorem WholeI.skip (h : WholeI k ss s count taken) : WholeI (k + 1) ss s count taken :=
  ⟨h.ok, h.known, fun d h0 h1 => by have := h.eps d h0 h1; omega, h.way, h.cnt, ⟨h.lo.1, h.lo.2.1, by have := h.lo.2.2; omega⟩, h.ssb, by have := h.ssl; omega⟩
theorem WholeI.more (h : WholeI k ss s count taken) {m : MessageD} (hb : MessageB m) : WholeI (k + 1) (ss ++ [m]) s count taken :=
  ⟨h.ok, fun p hp => List.mem_append_left _ (h.known p hp), h.skip.eps, h.way, h.cnt, h.skip.lo, fun x hx => by rcases List.mem_append.1 hx with hx | hx; exact h.ssb x hx; rw [List.mem_singleton.1 hx]; exact hb, by simp; exact h.ssl⟩
theorem WholeI.put (h : WholeI k ss s count taken) (hk : k ≤ 1000) {p : MessageD × Int} (hr : rightM p.1 = true) (hb : MessageB p.1) (hm : p.1 ∈ ss) (hp : 0 ≤ p.2 ∧ p.2 ≤ gi s.eps p.1.dst) : WholeI (k + 1) ss (putS s p) (count + 1) taken := by
  have hlo := h.lo
  have hc := h.cnt
  have hl : s.lost ≤ k := by omega
  by_cases hf : (500 : Int) ≤ (s.ways.length : Int)
  · have e := (put_full (p := p) hf).2
    rw [w64_id (by omega) (by omega)] at e
    rw [e]
    exact ⟨by have := put_ok h.ok hr hb; rw [(put_full (p := p) hf).2, w64_id (by omega) (by omega)] at this; exact this, h.known, h.skip.eps, h.way, by show count + 1 = taken + (s.lost + 1) + (s.ways.length : Int); omega, ⟨hlo.1, by show 0 ≤ s.lost + 1; omega, by have := hlo.2.2; omega⟩, h.ssb, h.skip.ssl⟩
  · have e := (put_room (p := p) hf).2
    rw [e]
    refine ⟨by have := put_ok h.ok hr hb; rw [e] at this; exact this, fun q hq => ?_, h.skip.eps, fun q hq => ?_, ?_, ⟨hlo.1, hlo.2.1, by have := hlo.2.2; omega⟩, h.ssb, h.skip.ssl⟩
    · rcases List.mem_append.1 hq with hq | hq
      · exact h.known q hq
      · rw [List.mem_singleton.1 hq]; exact hm
    · rcases List.mem_append.1 hq with hq | hq
      · exact h.way q hq
      · rw [List.mem_singleton.1 hq]; exact hp
    · show count + 1 = taken + s.lost + ((s.ways ++ [p]).length : Int)
      rw [List.length_append, List.length_singleton]; omega
theorem sendE_161 {s : BagS} {m : MessageD} : (sendE s m = 161 → rightM m = false) ∧ (¬ sendE s m = 161 → rightM m = true) := by
  cases hr : rightM m with
  | true =>
    refine ⟨fun h => ?_, fun _ => rfl⟩
    rw [(send_yes hr).1] at h
    unfold putE at h
    split at h <;> cases h
  | false => exact ⟨fun _ => rfl, fun h => absurd (send_no hr).1 h⟩
theorem WholeI.send (h : WholeI k ss s count taken) (hk : k < 1000) {m : MessageD} (hb : MessageB m) (he : ¬ sendE s m = 161) : WholeI (k + 1) (ss ++ [m]) (sendS s m) (count + 1) taken := by
  have hr := sendE_161.2 he
  have hd := (rightM_parts hr).dst
  rw [(send_yes hr).2]
  have h3 : WholeI (k + 1) (ss ++ [m]) (putS s (m, gi s.eps m.dst)) (count + 1) taken := by
    have h5 := (h.more hb).put (k := k + 1) (p := (m, gi s.eps m.dst)) (by omega) hr hb (List.mem_append_right _ (List.mem_singleton.2 rfl)) ⟨(h.eps m.dst hd.1 hd.2).1, Int.le_refl _⟩
    exact ⟨h5.ok, h5.known, fun d h0 h1 => by
      have := h.eps d h0 h1
      have e : (putS s (m, gi s.eps m.dst)).eps = s.eps := by unfold putS; split <;> rfl
      rw [e]; omega, h5.way, h5.cnt, ⟨h5.lo.1, h5.lo.2.1, by have := h.lo.2.2; omega⟩, h5.ssb, by simp; exact h.ssl⟩
  exact h3
theorem WholeI.send0 (h : WholeI k ss s count taken) {m : MessageD} (he : sendE s m = 161) : WholeI (k + 1) ss (sendS s m) count taken := by
  rw [(send_no (sendE_161.1 he)).2]; exact h.skip
theorem WholeI.less (h : WholeI k ss s count taken) {i : Int} (hi : isW s i = true) : WholeI (k + 1) ss (takeS s i) count (taken + 1) := by
  have hio := isW_parts hi
  have e := (look_yes hi).2.2.1
  have hlo := h.lo
  have hc := h.cnt
  have hs : ∀ p ∈ (takeS s i).ways, p ∈ s.ways := fun p hp => by
    rw [e] at hp
    rcases List.mem_append.1 hp with hp | hp
    · exact List.mem_of_mem_take hp
    · exact List.mem_of_mem_drop hp
  have ee : (takeS s i).eps = s.eps := by rw [e]
  have el : ((takeS s i).ways.length : Int) = (s.ways.length : Int) - 1 := by
    rw [e]
    show ((s.ways.take i.toNat ++ s.ways.drop (i.toNat + 1)).length : Int) = _
    rw [List.length_append, List.length_take, List.length_drop]; omega
  exact ⟨take_ok h.ok i, fun p hp => h.known p (hs p hp), by rw [ee]; exact h.skip.eps, fun p hp => by rw [ee]; exact h.way p (hs p hp), by rw [el, take_lost]; omega, ⟨by omega, by rw [take_lost]; exact hlo.2.1, h.skip.lo.2.2⟩, h.ssb, h.skip.ssl⟩
theorem WholeI.take1 (h : WholeI k ss s count taken) {i : Int} (he : lookE s i = 0) : WholeI (k + 1) ss (takeS s i) count (taken + 1) := h.less (look_zero he)
theorem WholeI.take0 (h : WholeI k ss s count taken) {i : Int} (he : ¬ lookE s i = 0) : WholeI (k + 1) ss (takeS s i) count taken := by rw [(look_no (look_nz he)).2.2.1]; exact h.skip
theorem WholeI.twice1 (h : WholeI k ss s count taken) (hk : k ≤ 1000) {i : Int} (he : ¬ twiceE s i = 1) : WholeI (k + 1) ss (twiceS s i) (count + 1) taken := by
  cases hi : isW s i with
  | false => exact absurd (look_no hi).2.2.2.2.2.1 he
  | true =>
    have hm := (idW_mem hi).1
    rw [(look_yes hi).2.2.2.2.1]
    exact h.put hk (h.ok.all _ hm).1 (h.ok.all _ hm).2 (h.known _ hm) (h.way _ hm)
theorem WholeI.twice0 (h : WholeI k ss s count taken) {i : Int} (he : twiceE s i = 1) : WholeI (k + 1) ss (twiceS s i) count taken := by
  cases hi : isW s i with
  | false => rw [(look_no hi).2.2.2.2.1]; exact h.skip
  | true =>
    rw [(look_yes hi).2.2.2.2.2.1] at he
    unfold putE at he
    split at he <;> cases he
theorem WholeI.lose (h : WholeI k ss s count taken) (hk : k ≤ 1000) (i : Int) : WholeI (k + 1) ss (loseS s i) count taken := by
  cases hi : isW s i with
  | false => rw [(look_no hi).2.2.2.2.2.2]; exact h.skip
  | true =>
    have h1 := h.less hi
    have hlo := h.lo
    have hc := h.cnt
    have e := (look_yes hi).2.2.2.2.2.2
    rw [take_lost, w64_id (by omega) (by omega)] at e
    have hc1 := h1.cnt
    rw [take_lost] at hc1
    have hok := lose_ok h.ok i
    rw [e] at hok ⊢
    exact ⟨hok, h1.known, h1.eps, h1.way, by show count = taken + (s.lost + 1) + ((takeS s i).ways.length : Int); omega, ⟨hlo.1, by show 0 ≤ s.lost + 1; omega, h1.lo.2.2⟩, h1.ssb, h1.ssl⟩
theorem WholeI.rest (h : WholeI k ss s count taken) (hk : k ≤ 1000) (n : Int) : WholeI (k + 1) ss (rstS s n) count taken := by
  by_cases hn : in8 n = true
  · obtain ⟨n0, n1⟩ := in8_parts hn
    have e := (rest_yes (s := s) hn).2.1
    have hg := h.eps n n0 n1
    rw [w64_id (by omega) (by omega)] at e
    have hok := rest_ok h.ok n
    rw [e] at hok ⊢
    have hs : ∀ d, 0 ≤ d → d < 8 → gi (s.eps.set n.toNat (gi s.eps n + 1)) d = if d = n then gi s.eps n + 1 else gi s.eps d := fun d h0 _ => gi_set h.ok.eps n0 n1 h0
    refine ⟨hok, h.known, fun d h0 h1 => ?_, fun p hp => ?_, h.cnt, h.skip.lo, h.ssb, h.skip.ssl⟩
    · show 0 ≤ gi (s.eps.set n.toNat (gi s.eps n + 1)) d ∧ gi (s.eps.set n.toNat (gi s.eps n + 1)) d ≤ _
      rw [hs d h0 h1]
      have := h.eps d h0 h1
      split <;> omega
    · have hd := (rightM_parts (h.ok.all p hp).1).dst
      have := h.way p hp
      show 0 ≤ p.2 ∧ p.2 ≤ gi (s.eps.set n.toNat (gi s.eps n + 1)) p.1.dst
      rw [hs _ hd.1 hd.2]
      split
      · rename_i e2; rw [e2] at this; omega
      · exact this
  · rw [(rest_no (s := s) (by simpa using hn)).2.1]; exact h.skip
theorem WholeI.fresh (h : WholeI k ss s count taken) {i : Int} (he : lookE s i = 0) (hf : freshS s i = false) : ¬ epoS s (lookM s i).dst = 0 := by
  have hi := look_zero he
  have hm := (idW_mem hi).1
  have hd := (rightM_parts (h.ok.all _ hm).1).dst
  have hw := h.way _ hm
  rw [(look_yes hi).2.2.2.1] at hf
  rw [(look_yes hi).1]
  have h8 : in8 (idW s i).1.dst = true := in8_yes (by omega) (by omega)
  rw [(rest_yes (s := s) h8).2.2]
  simp at hf
  omega
theorem epo_take (s : BagS) (i n : Int) : epoS (takeS s i) n = epoS s n := by
  have e : (takeS s i).eps = s.eps := by unfold takeS; split <;> rfl
  unfold epoS; rw [e]
theorem WholeI.has (h : WholeI k ss s count taken) {i : Int} (he : lookE s i = 0) : lookM s i ∈ ss := by
  have hi := look_zero he
  rw [(look_yes hi).1]
  exact h.known _ (idW_mem hi).1
end
section
variable {s : BagS} {i : Int} {ss : List MessageD} {j : Nat} {q : Bool}
theorem known_t (hq : q = (!decide (lookE s i = 0) || decide (lookM s i ∈ ss.take j))) (h : q = true) (hj : (j : Int) < ss.length) : true = (!decide (lookE s i = 0) || decide (lookM s i ∈ ss.take (j + 1))) := by
  rw [h] at hq
  by_cases he : lookE s i = 0
  · rw [decide_eq_true he] at hq ⊢
    have : lookM s i ∈ ss.take j := by simpa using hq
    rw [decide_eq_true (show lookM s i ∈ ss.take (j + 1) from List.mem_of_mem_take (i := j) (by rw [List.take_take, show min j (j + 1) = j by omega]; exact this))]; rfl
  · rw [decide_eq_false he]; rfl
theorem known_f (hq : q = (!decide (lookE s i = 0) || decide (lookM s i ∈ ss.take j))) (h : q = false) (hj : (j : Int) < ss.length) : decide (lookM s i = gmsg ss (j : Int)) = (!decide (lookE s i = 0) || decide (lookM s i ∈ ss.take (j + 1))) := by
  rw [h] at hq
  have h1 : lookE s i = 0 ∧ ¬ lookM s i ∈ ss.take j := by simpa using hq.symm
  rw [decide_eq_true h1.1, List.take_add_one, gmsg_at (by omega)]
  simp [h1.2]
theorem known_end {k : Nat} {count taken : Int} (h : WholeI k ss s count taken) (hq : q = (!decide (lookE s i = 0) || decide (lookM s i ∈ ss.take ss.length))) : q = true := by
  rw [hq, List.take_length]
  by_cases he : lookE s i = 0
  · rw [decide_eq_true (h.has he)]; simp
  · rw [decide_eq_false he]; rfl
end
end Go.Proofs.YtfocpadeflpabaaDoor.Act
