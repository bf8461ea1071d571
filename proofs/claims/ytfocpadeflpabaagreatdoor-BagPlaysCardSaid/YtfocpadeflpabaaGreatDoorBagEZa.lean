/- The bag in order; what is in it, and nothing else: plain. -/
import Derived.Test.YtfocpadeflpabaaGreatDoorBagDZa
set_option linter.unusedVariables false
set_option linter.unusedSimpArgs false
namespace Go.Proofs.YtfocpadeflpabaaGreatDoor.Sx
end Go.Proofs.YtfocpadeflpabaaGreatDoor.Sx
namespace Go.Proofs.YtfocpadeflpabaaGreatDoor.Act
open Go.RowKit Go.Proofs.YtfocpadeflpabaaGreatDoor.Sx Go.Proofs.YtfocpadeflpabaaGreatDoor.Cod Go.Proofs.YtfocpadeflpabaaGreatDoor.Num
structure BActD where
  kind : Int
  i : Int
  m : MessageD
deriving DecidableEq
def BActD.tup (x : BActD) : Int × Int × MessageD := (x.kind, x.i, x.m)
def BactE : Rep BActD := Rep.iso (Rep.pair (Rep.int .i64) (Rep.pair (Rep.int .i64) MsgE)) BActD.tup
def gbact (xs : List BActD) (i : Int) : BActD := xs.getD i.toNat ⟨0, 0, ⟨0, 0, 0, 0, [], []⟩⟩
theorem gbact_some {xs : List BActD} {i : Int} (h0 : 0 ≤ i) (h1 : i < xs.length) : xs[i.toNat]? = some (gbact xs i) := by
  have hi : i.toNat < xs.length := by omega
  simp [gbact, List.getD_eq_getElem?_getD, List.getElem?_eq_getElem hi]
theorem gbact_mem {xs : List BActD} {j : Nat} (h : j < xs.length) : gbact xs (j : Int) ∈ xs := List.mem_of_getElem? (gbact_some (xs := xs) (i := (j : Int)) (by omega) (by omega))
theorem bact_cells {w : World} {ok : Nat → Prop} {x : BActD} {cs : List Value} (h : BactE.R w ok x cs) : ∃ A0 c0 A1 c1, cs = [.int .i64 x.kind, .int .i64 x.i, .int .i64 x.m.kind, .int .i64 x.m.src, .int .i64 x.m.dst, .int .i64 x.m.tx, .slice A0 x.m.nodes.length c0, .slice A1 x.m.changes.length c1] ∧ Rd (Rep.int .i64) w ok A0 x.m.nodes c0 ∧ Rd ChgE w ok A1 x.m.changes c1 := by
  obtain ⟨cc0, dd0, rfl, hc0, cc1, dd1, rfl, hc1, hs2⟩ := h
  have he0 : cc0 = [.int .i64 x.kind] := hc0
  subst he0
  have he1 : cc1 = [.int .i64 x.i] := hc1
  subst he1
  obtain ⟨A0, c0, A1, c1, rfl, hr0, hr1⟩ := msg_cells hs2
  exact ⟨A0, c0, A1, c1, rfl, hr0, hr1⟩
theorem rd_bact {w : World} {ok : Nat → Prop} {A : Option Addr} {xs : List BActD} {c : Nat} (hr : Rd BactE w ok A xs c) {i : Nat} {f : BActD} (hx : xs[i]? = some f) : ∃ A0 c0 A1 c1, Rd (Rep.int .i64) w ok A0 f.m.nodes c0 ∧ Rd ChgE w ok A1 f.m.changes c1 ∧ w.cell? (adr A (i * 8)) = some (.int .i64 f.kind) ∧ w.cell? (adr A (i * 8 + 1)) = some (.int .i64 f.i) ∧ w.cell? (adr A (i * 8 + 2)) = some (.int .i64 f.m.kind) ∧ w.cell? (adr A (i * 8 + 3)) = some (.int .i64 f.m.src) ∧ w.cell? (adr A (i * 8 + 4)) = some (.int .i64 f.m.dst) ∧ w.cell? (adr A (i * 8 + 5)) = some (.int .i64 f.m.tx) ∧ w.cell? (adr A (i * 8 + 6)) = some (.slice A0 f.m.nodes.length c0) ∧ w.cell? (adr A (i * 8 + 7)) = some (.slice A1 f.m.changes.length c1) ∧
    (∀ j u, (#[.int .i64 f.kind, .int .i64 f.i, .int .i64 f.m.kind, .int .i64 f.m.src, .int .i64 f.m.dst, .int .i64 f.m.tx, .slice A0 f.m.nodes.length c0, .slice A1 f.m.changes.length c1] : Array Value).toList[j]? = some u → w.cell? ((adr A (i * 8)).add j) = some u) := by
  obtain ⟨cs, hR, hc⟩ := hr.cellsA (n := 8) rfl hx
  obtain ⟨A0, c0, A1, c1, rfl, hr0, hr1⟩ := bact_cells hR
  obtain ⟨b, off, rfl⟩ := hr.some_ (by have := (List.getElem?_eq_some_iff.1 hx).1; omega)
  have e : ∀ q, adr (some (⟨b, off, Option.none⟩ : Addr)) q = ⟨b, off + q, Option.none⟩ := fun q => by simp only [adr, Option.getD_some]; exact add_off _ _ _
  have g : ∀ j u, [(.int .i64 f.kind : Value), .int .i64 f.i, .int .i64 f.m.kind, .int .i64 f.m.src, .int .i64 f.m.dst, .int .i64 f.m.tx, .slice A0 f.m.nodes.length c0, .slice A1 f.m.changes.length c1][j]? = some u → w.cell? (adr (some (⟨b, off, Option.none⟩ : Addr)) (i * 8 + j)) = some u := fun j u hj => by
    have := hc j u hj
    rw [e, add_off] at this
    rw [e, ← Nat.add_assoc]; exact this
  exact ⟨A0, c0, A1, c1, hr0, hr1, g 0 _ rfl, g 1 _ rfl, g 2 _ rfl, g 3 _ rfl, g 4 _ rfl, g 5 _ rfl, g 6 _ rfl, g 7 _ rfl, fun j u hj => hc j u hj⟩
theorem in8_parts {n : Int} (h : in8 n = true) : 0 ≤ n ∧ n < 8 := by unfold in8 at h; simpa using h
/-! ### Nothing else -/
structure WholeI (k : Nat) (ss : List MessageD) (s : BagS) (count taken : Int) : Prop where
  ok : BagOk s
  known : ∀ p ∈ s.ways, p.1 ∈ ss
  eps : ∀ d, 0 ≤ d → d < 8 → 0 ≤ gi s.eps d ∧ gi s.eps d ≤ k
  way : ∀ p ∈ s.ways, 0 ≤ p.2 ∧ p.2 ≤ gi s.eps p.1.dst
  cnt : count = taken + s.lost + (s.ways.length : Int)
  lo : 0 ≤ taken ∧ 0 ≤ s.lost ∧ count ≤ k
  ssb : ∀ m ∈ ss, MessageB m
  ssl : ss.length ≤ k
theorem WholeI.start : WholeI 0 [] bag0 0 0 :=
  ⟨bag0_ok, (fun p hp => by cases hp), (fun d h0 h1 => by rw [show gi bag0.eps d = 0 from gi0 h0 h1]; omega), (fun p hp => by cases hp), rfl, ⟨by decide, by decide, by decide⟩, (fun m hm => by cases hm), by simp⟩
section
variable {k : Nat} {ss : List MessageD} {s : BagS} {count taken : Int}
theorem WholeI.skip (h : WholeI k ss s count taken) : WholeI (k + 1) ss s count taken :=
  ⟨h.ok, h.known, fun d h0 h1 => by have := h.eps d h0 h1; omega, h.way, h.cnt, ⟨h.lo.1, h.lo.2.1, by have := h.lo.2.2; omega⟩, h.ssb, by have := h.ssl; omega⟩
theorem WholeI.more (h : WholeI k ss s count taken) {m : MessageD} (hb : MessageB m) : WholeI (k + 1) (ss ++ [m]) s count taken :=
  ⟨h.ok, fun p hp => List.mem_append_left _ (h.known p hp), h.skip.eps, h.way, h.cnt, h.skip.lo, fun x hx => by rcases List.mem_append.1 hx with hx | hx; exact h.ssb x hx; rw [List.mem_singleton.1 hx]; exact hb, by simp; exact h.ssl⟩
theorem WholeI.put (h : WholeI k ss s count taken) (hk : k ≤ 1000) {p : MessageD × Int} (hr : rightM p.1 = true) (hb : MessageB p.1) (hm : p.1 ∈ ss) (hp : 0 ≤ p.2 ∧ p.2 ≤ gi s.eps p.1.dst) : WholeI (k + 1) ss (putS s p) (count + 1) taken := by
  have hlo := h.lo
  have hc := h.cnt
  have hl : s.lost ≤ k := by omega
  by_cases hf : (500 : Int) ≤ (s.ways.length : Int)
  · have e := (put_full (p := p) hf).2
    rw [w64_id (by omega) (by omega)] at e
    rw [e]
    exact ⟨by have := put_ok h.ok hr hb; rw [(put_full (p := p) hf).2, w64_id (by omega) (by omega)] at this; exact this, h.known, h.skip.eps, h.way, by show count + 1 = taken + (s.lost + 1) + (s.ways.length : Int); omega, ⟨hlo.1, by show 0 ≤ s.lost + 1; omega, by have := hlo.2.2; omega⟩, h.ssb, h.skip.ssl⟩
  · have e := (put_room (p := p) hf).2
    rw [e]
    refine ⟨by have := put_ok h.ok hr hb; rw [e] at this; exact this, fun q hq => ?_, h.skip.eps, fun q hq => ?_, ?_, ⟨hlo.1, hlo.2.1, by have := hlo.2.2; omega⟩, h.ssb, h.skip.ssl⟩
    · rcases List.mem_append.1 hq with hq | hq
      · exact h.known q hq
      · rw [List.mem_singleton.1 hq]; exact hm
    · rcases List.mem_append.1 hq with hq | hq
      · exact h.way q hq
      · rw [List.mem_singleton.1 hq]; exact hp
    · show count + 1 = taken + s.lost + ((s.ways ++ [p]).length : Int)
      rw [List.length_append, List.length_singleton]; omega
theorem WholeI.rest (h : WholeI k ss s count taken) (hk : k ≤ 1000) (n : Int) : WholeI (k + 1) ss (rstS s n) count taken := by
  by_cases hn : in8 n = true
  · obtain ⟨n0, n1⟩ := in8_parts hn
    have e := (rest_yes (s := s) hn).2.1
    have hg := h.eps n n0 n1
    rw [w64_id (by omega) (by omega)] at e
    have hok := rest_ok h.ok n
    rw [e] at hok ⊢
    have hs : ∀ d, 0 ≤ d → d < 8 → gi (s.eps.set n.toNat (gi s.eps n + 1)) d = if d = n then gi s.eps n + 1 else gi s.eps d := fun d h0 _ => gi_set h.ok.eps n0 n1 h0
    refine ⟨hok, h.known, fun d h0 h1 => ?_, fun p hp => ?_, h.cnt, h.skip.lo, h.ssb, h.skip.ssl⟩
    · show 0 ≤ gi (s.eps.set n.toNat (gi s.eps n + 1)) d ∧ gi (s.eps.set n.toNat (gi s.eps n + 1)) d ≤ _
      rw [hs d h0 h1]
      have := h.eps d h0 h1
      split <;> omega
    · have hd := (rightM_parts (h.ok.all p hp).1).dst
      have := h.way p hp
      show 0 ≤ p.2 ∧ p.2 ≤ gi (s.eps.set n.toNat (gi s.eps n + 1)) p.1.dst
      rw [hs _ hd.1 hd.2]
      split
      · rename_i e2; rw [e2] at this; omega
      · exact this
  · rw [(rest_no (s := s) (by simpa using hn)).2.1]; exact h.skip
theorem WholeI.has (h : WholeI k ss s count taken) {i : Int} (he : lookE s i = 0) : lookM s i ∈ ss := by
  have hi := look_zero he
  rw [(look_yes hi).1]
  exact h.known _ (idW_mem hi).1
end
section
variable {s : BagS} {i : Int} {ss : List MessageD} {j : Nat} {q : Bool}
end
end Go.Proofs.YtfocpadeflpabaaGreatDoor.Act
