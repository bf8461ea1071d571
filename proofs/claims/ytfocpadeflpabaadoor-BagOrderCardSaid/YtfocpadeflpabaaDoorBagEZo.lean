/- The bag in order; what is in it, and nothing else: plain. -/
import Derived.Test.YtfocpadeflpabaaDoorBagDZo
set_option linter.unusedVariables false
set_option linter.unusedSimpArgs false
namespace Go.Proofs.YtfocpadeflpabaaDoor.Sx
end Go.Proofs.YtfocpadeflpabaaDoor.Sx
namespace Go.Proofs.YtfocpadeflpabaaDoor.Act
open Go.RowKit Go.Proofs.YtfocpadeflpabaaDoor.Sx Go.Proofs.YtfocpadeflpabaaDoor.Cod Go.Proofs.YtfocpadeflpabaaDoor.Num
structure BActD where
  kind : Int
  i : Int
  m : MessageD
deriving DecidableEq
def BActD.tup (x : BActD) : Int × Int × MessageD := (x.kind, x.i, x.m)
def Z8 : List Int := [0, 0, 0, 0, 0, 0, 0, 0]
def ordB (ss : List MessageD) (e : List Int) : BagS := ⟨ss.map (fun m => (m, 0)), e, 0⟩
theorem ord_len (ss : List MessageD) (e : List Int) : (ordB ss e).ways.length = ss.length := List.length_map _
theorem gi_Z8 {d : Int} (h0 : 0 ≤ d) (h1 : d < 8) : gi Z8 d = 0 := gi0 h0 h1
theorem ord_send {ss : List MessageD} {m : MessageD} (hl : ss.length < 500) : (sendE (ordB ss Z8) m = 0 → rightM m = true ∧ sendS (ordB ss Z8) m = ordB (ss ++ [m]) Z8) ∧ (¬ sendE (ordB ss Z8) m = 0 → sendS (ordB ss Z8) m = ordB ss Z8) := by
  have hn : ¬ (500 : Int) ≤ ((ordB ss Z8).ways.length : Int) := by rw [ord_len]; omega
  cases hr : rightM m with
  | true =>
    have hd := (rightM_parts hr).dst
    have h := send_yes (s := ordB ss Z8) hr
    rw [h.1, h.2, (put_room (p := (m, gi (ordB ss Z8).eps m.dst)) hn).1, (put_room hn).2]
    refine ⟨fun _ => ⟨rfl, ?_⟩, fun h1 => absurd rfl h1⟩
    show (⟨ss.map (fun m => (m, 0)) ++ [(m, gi Z8 m.dst)], _, _⟩ : BagS) = _
    rw [gi_Z8 hd.1 hd.2]
    unfold ordB
    rw [List.map_append]
    rfl
  | false =>
    have h := send_no (s := ordB ss Z8) hr
    exact ⟨fun h1 => (by rw [h.1] at h1; cases h1), fun _ => h.2⟩
def eN (n : Int) : List Int := if in8 n then Z8.set n.toNat (w64I (gi Z8 n + 1)) else Z8
theorem ord_rest (ss : List MessageD) (n : Int) : rstS (ordB ss Z8) n = ordB ss (eN n) := by
  unfold rstS eN
  split <;> rfl
theorem in8_parts {n : Int} (h : in8 n = true) : 0 ≤ n ∧ n < 8 := by unfold in8 at h; simpa using h
theorem gi_eN {n d : Int} (h0 : 0 ≤ d) (h1 : d < 8) : gi (eN n) d = if in8 n = true ∧ d = n then 1 else 0 := by
  unfold eN
  by_cases h : in8 n = true
  · obtain ⟨n0, n1⟩ := in8_parts h
    rw [if_pos h, gi_set rfl n0 n1 h0, gi_Z8 n0 n1]
    by_cases e : d = n
    · rw [if_pos e, if_pos ⟨h, e⟩]; rfl
    · rw [if_neg e, if_neg (fun h2 => e h2.2), gi_Z8 h0 h1]
  · rw [if_neg h, if_neg (fun h2 => h h2.1), gi_Z8 h0 h1]
theorem eN_len (n : Int) : (eN n).length = 8 := by unfold eN; split <;> simp [Z8]
theorem rstE_in8 {n : Int} : rstE n = 0 ↔ in8 n = true := by
  unfold rstE
  split
  · rename_i h; exact ⟨fun _ => h, fun _ => rfl⟩
  · rename_i h; exact ⟨fun h2 => (by cases h2), fun h2 => absurd h2 h⟩
theorem fr_yes {n d : Int} (h : rstE n = 0) (h0 : 0 ≤ d) (h1 : d < 8) : (!(decide ((0 : Int) = gi (eN n) d) == !decide (d = n))) = false := by
  rw [gi_eN h0 h1, rstE_in8.1 h]
  by_cases e : d = n <;> simp [e]
theorem fr_no {n d : Int} (h : ¬ rstE n = 0) (h0 : 0 ≤ d) (h1 : d < 8) : (!(decide ((0 : Int) = gi (eN n) d) == true)) = false := by
  rw [gi_eN h0 h1, if_neg (fun h2 => h (rstE_in8.2 h2.1))]; rfl
theorem gmsg_mem2 {xs : List MessageD} {i : Int} (h0 : 0 ≤ i) (h1 : i < (xs.length : Int)) : gmsg xs i ∈ xs := List.mem_of_getElem? (gmsg_some h0 h1)
def curB (fr : Bool) (ss : List MessageD) (j : Nat) : List MessageD := if fr then ss.drop j else ss.take (ss.length - j)
theorem cur_t {fr : Bool} (h : fr = true) (ss : List MessageD) (j : Nat) : curB fr ss j = ss.drop j := by subst h; rfl
theorem cur_f {fr : Bool} (h : fr = false) (ss : List MessageD) (j : Nat) : curB fr ss j = ss.take (ss.length - j) := by subst h; rfl
theorem cur_0 (fr : Bool) (ss : List MessageD) : curB fr ss 0 = ss := by cases fr <;> simp [curB]
theorem cur_end (fr : Bool) (ss : List MessageD) : curB fr ss ss.length = [] := by cases fr <;> simp [curB]
theorem cur_mem {fr : Bool} {ss : List MessageD} {j : Nat} {m : MessageD} (h : m ∈ curB fr ss j) : m ∈ ss := by
  unfold curB at h; split at h
  · exact List.mem_of_mem_drop h
  · exact List.mem_of_mem_take h
theorem ord_ok {ss : List MessageD} (h : ∀ m ∈ ss, rightM m = true ∧ MessageB m) (hl : ss.length ≤ 500) {e : List Int} (he : e.length = 8) : BagOk (ordB ss e) :=
  ⟨he, by rw [ord_len]; exact hl, fun p hp => by obtain ⟨m, hm, rfl⟩ := List.mem_map.1 hp; exact h m hm⟩
theorem ord_ok_cur {fr : Bool} {ss : List MessageD} {j : Nat} (h : ∀ m ∈ ss, rightM m = true ∧ MessageB m) (hl : ss.length ≤ 500) {e : List Int} (he : e.length = 8) : BagOk (ordB (curB fr ss j) e) :=
  ord_ok (fun m hm => h m (cur_mem hm)) (by unfold curB; split <;> simp <;> omega) he
theorem ord_id {ss : List MessageD} {e : List Int} {i : Int} (h0 : 0 ≤ i) (h1 : i < (ss.length : Int)) : isW (ordB ss e) i = true ∧ idW (ordB ss e) i = (gmsg ss i, 0) := by
  refine ⟨isW_yes h0 (by rw [ord_len]; exact h1), ?_⟩
  unfold idW ordB
  rw [List.getD_eq_getElem?_getD, List.getElem?_map, gmsg_some h0 h1]
  rfl
theorem ord_take {ss : List MessageD} {e : List Int} {i : Int} (h0 : 0 ≤ i) (h1 : i < (ss.length : Int)) :
    lookM (ordB ss e) i = gmsg ss i ∧ lookE (ordB ss e) i = 0 ∧ freshS (ordB ss e) i = decide ((0 : Int) = gi e (gmsg ss i).dst) ∧ takeS (ordB ss e) i = ordB (ss.take i.toNat ++ ss.drop (i.toNat + 1)) e := by
  obtain ⟨e1, e2⟩ := ord_id (e := e) h0 h1
  have hy := look_yes e1
  rw [hy.1, hy.2.1, hy.2.2.2.1, hy.2.2.1, e2]
  refine ⟨rfl, rfl, rfl, ?_⟩
  unfold ordB
  rw [List.map_append, List.map_take, List.map_drop]
theorem ord_front {ss : List MessageD} {e : List Int} {j : Nat} (h : (j : Int) < ss.length) :
    lookM (ordB (ss.drop j) e) 0 = gmsg ss (j : Int) ∧ lookE (ordB (ss.drop j) e) 0 = 0 ∧ freshS (ordB (ss.drop j) e) 0 = decide ((0 : Int) = gi e (gmsg ss (j : Int)).dst) ∧ takeS (ordB (ss.drop j) e) 0 = ordB (ss.drop (j + 1)) e := by
  have hg : gmsg (ss.drop j) 0 = gmsg ss (j : Int) := by
    unfold gmsg
    rw [List.getD_eq_getElem?_getD, List.getD_eq_getElem?_getD, List.getElem?_drop]
    rfl
  have := ord_take (ss := ss.drop j) (e := e) (i := 0) (Int.le_refl _) (by rw [List.length_drop]; omega)
  rw [hg] at this
  refine ⟨this.1, this.2.1, this.2.2.1, this.2.2.2.trans ?_⟩
  show ordB ([] ++ (ss.drop j).drop 1) e = _
  rw [List.nil_append, List.drop_drop]
theorem ord_back {ss : List MessageD} {e : List Int} {j : Nat} (h : (j : Int) < ss.length) :
    lookM (ordB (ss.take (ss.length - j)) e) ((ss.length : Int) - (j : Int) - 1) = gmsg ss ((ss.length : Int) - 1 - (j : Int)) ∧ lookE (ordB (ss.take (ss.length - j)) e) ((ss.length : Int) - (j : Int) - 1) = 0 ∧
      freshS (ordB (ss.take (ss.length - j)) e) ((ss.length : Int) - (j : Int) - 1) = decide ((0 : Int) = gi e (gmsg ss ((ss.length : Int) - 1 - (j : Int))).dst) ∧ takeS (ordB (ss.take (ss.length - j)) e) ((ss.length : Int) - (j : Int) - 1) = ordB (ss.take (ss.length - (j + 1))) e := by
  have hl : (ss.take (ss.length - j)).length = ss.length - j := by rw [List.length_take]; omega
  have hi : ((ss.length : Int) - (j : Int) - 1).toNat = ss.length - j - 1 := by omega
  have hg : gmsg (ss.take (ss.length - j)) ((ss.length : Int) - (j : Int) - 1) = gmsg ss ((ss.length : Int) - 1 - (j : Int)) := by
    unfold gmsg
    rw [List.getD_eq_getElem?_getD, List.getD_eq_getElem?_getD, List.getElem?_take, if_pos (by omega)]
    congr 2
    omega
  have := ord_take (ss := ss.take (ss.length - j)) (e := e) (i := (ss.length : Int) - (j : Int) - 1) (by omega) (by rw [hl]; omega)
  rw [hg] at this
  refine ⟨this.1, this.2.1, this.2.2.1, this.2.2.2.trans ?_⟩
  rw [hi, List.take_take, List.drop_of_length_le (by rw [hl]; omega), List.append_nil]
  congr 2
  omega
theorem ord_lenb (ss : List MessageD) (e : List Int) {j : Nat} (h : j ≤ ss.length) : ((ordB (ss.take (ss.length - j)) e).ways.length : Int) = (ss.length : Int) - (j : Int) := by
  rw [ord_len, List.length_take]; omega
/-! ### Nothing else -/
structure WholeI (k : Nat) (ss : List MessageD) (s : BagS) (count taken : Int) : Prop where
  ok : BagOk s
  known : ∀ p ∈ s.ways, p.1 ∈ ss
  eps : ∀ d, 0 ≤ d → d < 8 → 0 ≤ gi s.eps d ∧ gi s.eps d ≤ k
  way : ∀ p ∈ s.ways, 0 ≤ p.2 ∧ p.2 ≤ gi s.eps p.1.dst
  cnt : count = taken + s.lost + (s.ways.length : Int)
  lo : 0 ≤ taken ∧ 0 ≤ s.lost ∧ count ≤ k
  ssb : ∀ m ∈ ss, MessageB m
  ssl : ss.length ≤ k
theorem WholeI.start : WholeI 0 [] bag0 0 0 :=
  ⟨bag0_ok, (fun p hp => by cases hp), (fun d h0 h1 => by rw [show gi bag0.eps d = 0 from gi0 h0 h1]; omega), (fun p hp => by cases hp), rfl, ⟨by decide, by decide, by decide⟩, (fun m hm => by cases hm), by simp⟩
section
variable {k : Nat} {ss : List MessageD} {s : BagS} {count taken : Int}
theorem WholeI.skip (h : WholeI k ss s count taken) : WholeI (k + 1) ss s count taken :=
  ⟨h.ok, h.known, fun d h0 h1 => by have := h.eps d h0 h1; omega, h.way, h.cnt, ⟨h.lo.1, h.lo.2.1, by have := h.lo.2.2; omega⟩, h.ssb, by have := h.ssl; omega⟩
theorem WholeI.more (h : WholeI k ss s count taken) {m : MessageD} (hb : MessageB m) : WholeI (k + 1) (ss ++ [m]) s count taken :=
  ⟨h.ok, fun p hp => List.mem_append_left _ (h.known p hp), h.skip.eps, h.way, h.cnt, h.skip.lo, fun x hx => by rcases List.mem_append.1 hx with hx | hx; exact h.ssb x hx; rw [List.mem_singleton.1 hx]; exact hb, by simp; exact h.ssl⟩
theorem WholeI.put (h : WholeI k ss s count taken) (hk : k ≤ 1000) {p : MessageD × Int} (hr : rightM p.1 = true) (hb : MessageB p.1) (hm : p.1 ∈ ss) (hp : 0 ≤ p.2 ∧ p.2 ≤ gi s.eps p.1.dst) : WholeI (k + 1) ss (putS s p) (count + 1) taken := by
  have hlo := h.lo
  have hc := h.cnt
  have hl : s.lost ≤ k := by omega
  by_cases hf : (500 : Int) ≤ (s.ways.length : Int)
  · have e := (put_full (p := p) hf).2
    rw [w64_id (by omega) (by omega)] at e
    rw [e]
    exact ⟨by have := put_ok h.ok hr hb; rw [(put_full (p := p) hf).2, w64_id (by omega) (by omega)] at this; exact this, h.known, h.skip.eps, h.way, by show count + 1 = taken + (s.lost + 1) + (s.ways.length : Int); omega, ⟨hlo.1, by show 0 ≤ s.lost + 1; omega, by have := hlo.2.2; omega⟩, h.ssb, h.skip.ssl⟩
  · have e := (put_room (p := p) hf).2
    rw [e]
    refine ⟨by have := put_ok h.ok hr hb; rw [e] at this; exact this, fun q hq => ?_, h.skip.eps, fun q hq => ?_, ?_, ⟨hlo.1, hlo.2.1, by have := hlo.2.2; omega⟩, h.ssb, h.skip.ssl⟩
    · rcases List.mem_append.1 hq with hq | hq
      · exact h.known q hq
      · rw [List.mem_singleton.1 hq]; exact hm
    · rcases List.mem_append.1 hq with hq | hq
      · exact h.way q hq
      · rw [List.mem_singleton.1 hq]; exact hp
    · show count + 1 = taken + s.lost + ((s.ways ++ [p]).length : Int)
      rw [List.length_append, List.length_singleton]; omega
theorem WholeI.rest (h : WholeI k ss s count taken) (hk : k ≤ 1000) (n : Int) : WholeI (k + 1) ss (rstS s n) count taken := by
  by_cases hn : in8 n = true
  · obtain ⟨n0, n1⟩ := in8_parts hn
    have e := (rest_yes (s := s) hn).2.1
    have hg := h.eps n n0 n1
    rw [w64_id (by omega) (by omega)] at e
    have hok := rest_ok h.ok n
    rw [e] at hok ⊢
    have hs : ∀ d, 0 ≤ d → d < 8 → gi (s.eps.set n.toNat (gi s.eps n + 1)) d = if d = n then gi s.eps n + 1 else gi s.eps d := fun d h0 _ => gi_set h.ok.eps n0 n1 h0
    refine ⟨hok, h.known, fun d h0 h1 => ?_, fun p hp => ?_, h.cnt, h.skip.lo, h.ssb, h.skip.ssl⟩
    · show 0 ≤ gi (s.eps.set n.toNat (gi s.eps n + 1)) d ∧ gi (s.eps.set n.toNat (gi s.eps n + 1)) d ≤ _
      rw [hs d h0 h1]
      have := h.eps d h0 h1
      split <;> omega
    · have hd := (rightM_parts (h.ok.all p hp).1).dst
      have := h.way p hp
      show 0 ≤ p.2 ∧ p.2 ≤ gi (s.eps.set n.toNat (gi s.eps n + 1)) p.1.dst
      rw [hs _ hd.1 hd.2]
      split
      · rename_i e2; rw [e2] at this; omega
      · exact this
  · rw [(rest_no (s := s) (by simpa using hn)).2.1]; exact h.skip
theorem WholeI.has (h : WholeI k ss s count taken) {i : Int} (he : lookE s i = 0) : lookM s i ∈ ss := by
  have hi := look_zero he
  rw [(look_yes hi).1]
  exact h.known _ (idW_mem hi).1
end
section
variable {s : BagS} {i : Int} {ss : List MessageD} {j : Nat} {q : Bool}
end
end Go.Proofs.YtfocpadeflpabaaDoor.Act
