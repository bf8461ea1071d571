/- Numbers' texts of the library, in plain words. -/
import Derived.Test.YtiiklnghnifmjaaGreatDoorActDZc
import Derived.Test.YtiiklnghnifmjaaGreatDoorShfZc
import Derived.Lib.AppendIntMem
set_option linter.unusedVariables false
set_option linter.unusedSimpArgs false
namespace Go.Proofs.YtiiklnghnifmjaaGreatDoor.Sx
open Go.RowKit Go.Proofs.YtiiklnghnifmjaaGreatDoor.Act Go.Proofs.YtiiklnghnifmjaaGreatDoor.Num
/-- The library's three variables hold what their text says. -/
structure LibAt (pp : Bool) (w : World) : Prop where
  tab : Lib.TabIs Tryz.prog w "internal/strconv.uint64pow10" .u64 Lib.pow10Tab
  syn : pp = true → ∃ tp p, w.var? Tryz.prog "strconv.ErrSyntax" = some #[.iface tp p]
  rng : pp = true → ∃ tp p, w.var? Tryz.prog "strconv.ErrRange" = some #[.iface tp p]
theorem gnT : Tryz.prog.globalNamed "internal/strconv.uint64pow10" = some 0 := by kernel_rfl
theorem gnS : Tryz.prog.globalNamed "strconv.ErrSyntax" = some 3 := by kernel_rfl
theorem gnR : Tryz.prog.globalNamed "strconv.ErrRange" = some 4 := by kernel_rfl
theorem var_eq {w w' : World} {n : String} {g : Nat} (hg : Tryz.prog.globalNamed n = some g) (h : w'.heap[g]? = w.heap[g]?) : w'.var? Tryz.prog n = w.var? Tryz.prog n := by
  unfold World.var?
  rw [hg]
  simp only [Option.bind_some, h]
theorem var_lt {w : World} {n : String} {g : Nat} {cs : Array Value} (hg : Tryz.prog.globalNamed n = some g) (h : w.var? Tryz.prog n = some cs) : g < w.heap.size := by
  unfold World.var? at h
  rw [hg] at h
  rcases Nat.lt_or_ge g w.heap.size with h1 | h1
  · exact h1
  · simp only [Option.bind_some, Array.getElem?_eq_none h1] at h
    cases h
def Asn.lib (pp : Bool) : Asn := ⟨fun _ => False, fun k => k = 0 ∨ (pp = true ∧ (k = 3 ∨ k = 4)), LibAt pp, fun {w w'} h hw => by
  refine ⟨?_, ?_, ?_⟩
  · have := hw.tab; unfold Lib.TabIs at this ⊢; rw [var_eq gnT (h 0 (.inr (.inl rfl)))]; exact this
  · intro hp; have := hw.syn hp; rw [var_eq gnS (h 3 (.inr (.inr ⟨hp, .inl rfl⟩)))]; exact this
  · intro hp; have := hw.rng hp; rw [var_eq gnR (h 4 (.inr (.inr ⟨hp, .inr rfl⟩)))]; exact this⟩
theorem LibAt.lt {pp : Bool} {w : World} (h : LibAt pp w) : ∀ k, (k = 0 ∨ (pp = true ∧ (k = 3 ∨ k = 4))) → k < w.heap.size := by
  intro k hk
  have h1 := var_lt gnT h.tab
  rcases hk with rfl | ⟨hp, hk⟩
  · exact h1
  · obtain ⟨_, _, h2⟩ := h.syn hp
    obtain ⟨_, _, h3⟩ := h.rng hp
    have h2 := var_lt gnS h2
    have h3 := var_lt gnR h3
    rcases hk with rfl | rfl <;> assumption
section
variable {B : Nat → Prop} {w0 w w' : World} {H : List (Nat × Asn)} {pp : Bool}
theorem LibAt.move (h : LibAt pp w) (hm : Mods (fun _ => False) w w') : LibAt pp w' := (Asn.lib pp).stable (fun k hk => hm.block k (h.lt k (hk.resolve_left id)) id) h
/-- The library's variables, as an argument. -/
theorem Hp.lib (h : Hp B w0 w H) (l : Nat) (hl : LibAt pp w) (ho : ∀ i X, get H i = some X → ∀ k, X.own k → ¬ (k = 0 ∨ (pp = true ∧ (k = 3 ∨ k = 4)))) : Hp B w0 w ((l, .lib pp) :: H) := by
  refine ⟨h.mods, ?_, ?_, ?_, ?_, ?_⟩
  · intro i X hX; rw [get_cons] at hX; split at hX
    · cases hX; exact hl
    · exact h.holds i X hX
  · intro i X hX; rw [get_cons] at hX; split at hX
    · cases hX; exact fun k hk => hk.elim
    · exact h.mine i X hX
  · intro i X hX; rw [get_cons] at hX; split at hX
    · cases hX; exact fun k hk => hk.elim (·.elim) (hl.lt k)
    · exact h.inb i X hX
  · intro i X hX; rw [get_cons] at hX; split at hX
    · cases hX; exact fun k hk => hk.elim
    · exact h.self i X hX
  · intro i j X Y hij hX hY k hk
    rw [get_cons] at hX hY
    split at hX
    · cases hX; exact hk.elim
    · split at hY
      · cases hY; rintro (h1 | h1)
        · exact h1
        · exact ho i X hX k hk h1
      · exact h.sep i j X Y hij hX hY k hk
theorem Hp.libN (h : Hp (fun _ => False) w0 w H) (l : Nat) (hl : LibAt pp w0) : Hp (fun _ => False) w0 w ((l, .lib pp) :: H) :=
  h.lib l ((Asn.lib pp).stable (fun k hk => h.mods.block k (hl.lt k (hk.resolve_left id)) id) hl) (fun i X hX k hk hk2 => (h.mine i X hX k hk).elim id (fun h2 => Nat.not_lt.2 h2 (hl.lt k hk2)))
end
theorem mods_grow (w : World) (k : Nat) (os : Array Obj) : Mods (fun _ => False) w (Go.Sort.grow (w.drewN k) os) := Mods.ofBelow (Lib.below_grow _ w (Nat.le_refl _) k os) _
theorem sn_itoa (n : Int) : (⟨(Lib.itoa n).toArray⟩ : ByteArray) = strOfNums (itoaI n) := (sn_toI _).symm
section
variable {P : Program} {a : Act} {w : World} {dst : Option Tmp} {ty : TypeId} {pos : String} {af : Array Edge} {x y z : Operand} {t t' : TypeId} {gg : Option (Nat × Bool)}
theorem eqIn_if {ms : Array (String × TypeId)} (ht : P.underlying t = some (.interface ms)) (d : Nat) : (Op.equalIn (d + 1) t .nilIface .nilIface).run P w = .ok true w := by simp [Op.equalIn, run_underlying ht, go_sem]
theorem eqIn_if2 {ms : Array (String × TypeId)} {te : TypeId} {pe : Value} (ht : P.underlying t = some (.interface ms)) (d : Nat) : (Op.equalIn (d + 1) t (.iface te pe) .nilIface).run P w = .ok false w := by simp [Op.equalIn, run_underlying ht, go_sem]
theorem eq_if {ms : Array (String × TypeId)} (ht : P.underlying t = some (.interface ms)) : (Op.equal t .nilIface .nilIface).run P w = .ok true w := eqIn_if ht 9999
theorem eq_if2 {ms : Array (String × TypeId)} {te : TypeId} {pe : Value} (ht : P.underlying t = some (.interface ms)) : (Op.equal t (.iface te pe) .nilIface).run P w = .ok false w := eqIn_if2 ht 9999
/-- err == nil -/
theorem x_ifnil {ms : Array (String × TypeId)} (ht : P.underlying t = some (.interface ms)) (hx : a.eval x = .nilIface) (hy : a.eval (.const .nilIface) = .nilIface) : At P ⟨dst, .binOp .eql t x (.const .nilIface) t', ty, pos, af, gg⟩ a w (.bool true) := by
  unfold At; generalize a.eval = ρ at *; simp [execOp, hx, hy, eqGuard, binOp, eq_if ht, go_sem]
theorem x_ifsome {ms : Array (String × TypeId)} {te : TypeId} {pe : Value} (ht : P.underlying t = some (.interface ms)) (hx : a.eval x = .iface te pe) (hy : a.eval y = .nilIface) : At P ⟨dst, .binOp .eql t x y t', ty, pos, af, gg⟩ a w (.bool false) := by
  unfold At; generalize a.eval = ρ at *; simp [execOp, hx, hy, binOp, eq_if2 ht, go_sem]
end
theorem fmt_calls (w0 : World) {pp : Bool} (hL : LibAt pp w0) {n : Int} (hn : Fits n) : Calls Tryz.prog 99 #[.int .i64 n, .int .i64 10] w0 fun e w' => e = .returned (.string (strOfNums (itoaI n))) ∧ Mods (fun _ => False) w0 w' := by
  refine (Tryz.strconv_FormatInt_10 n hn.1 (by have := hn.2; omega) w0 hL.tab).mono ?_
  rintro e w' ⟨rfl, k, os, rfl⟩
  exact ⟨by rw [sn_itoa], mods_grow _ _ _⟩
theorem itoa_calls (w0 : World) {pp : Bool} (hL : LibAt pp w0) {n : Int} (hn : Fits n) : Calls Tryz.prog 60 #[.int .i64 n] w0 fun e w' => e = .returned (.string (strOfNums (itoaI n))) ∧ Mods (fun _ => False) w0 w' := by
  refine (Tryz.strconv_Itoa n hn.1 (by have := hn.2; omega) w0 hL.tab).mono ?_
  rintro e w' ⟨rfl, k, os, rfl⟩
  exact ⟨by rw [sn_itoa], mods_grow _ _ _⟩
theorem parse_ok (w0 : World) {xs : List Int} (hs : xs.length ≤ 100000000) {v : Int} (h : Lib.parseIntB 64 (ofI xs) = .ok v) : Calls Tryz.prog 119 #[.string (strOfNums xs), .int .i64 10, .int .i64 64] w0 fun e w' => e = .returned (.tuple #[.int .i64 v, .nilIface]) ∧ Mods (fun _ => False) w0 w' := by
  refine (Tryz.strconv_ParseInt_10_at64_ok (strOfNums xs) (by rw [strOfNums_size]; omega) v h w0).mono ?_
  rintro e w' ⟨rfl, rfl | ⟨t, rfl⟩⟩
  · exact ⟨rfl, Mods.refl _ _⟩
  · exact ⟨rfl, Mods.bytesWorld _ _ _⟩
theorem parse_no (w0 : World) (hL : LibAt true w0) {xs : List Int} (hs : xs.length ≤ 100000000) (h : ∀ v, Lib.parseIntB 64 (ofI xs) ≠ .ok v) : Calls Tryz.prog 119 #[.string (strOfNums xs), .int .i64 10, .int .i64 64] w0 fun e w' => ∃ v te pe, e = .returned (.tuple #[.int .i64 v, .iface te pe]) ∧ Mods (fun _ => False) w0 w' := by
  have hsz : (strOfNums xs).size ≤ 281474976710656 := by rw [strOfNums_size]; omega
  obtain ⟨ts, ps, hs1⟩ := hL.syn rfl
  obtain ⟨tr, pr, hr1⟩ := hL.rng rfl
  rcases hp : Lib.parseIntB 64 (ofI xs) with v | _ | _
  · exact absurd hp (h v)
  · refine (Any.strconv_ParseInt_10_at64_syntax Tryz.laysC174 (strOfNums xs) hsz hp (.iface ts ps) w0 (World.var?_cell gnS hs1 0) (.inr ⟨_, _, rfl⟩)).mono ?_
    rintro e w' ⟨N, rfl, _, _, hb⟩
    exact ⟨_, _, _, rfl, Mods.ofBelow hb _⟩
  · refine (Any.strconv_ParseInt_10_at64_range Tryz.laysC174 (strOfNums xs) hsz hp (.iface tr pr) w0 (World.var?_cell gnR hr1 0) (.inr ⟨_, _, rfl⟩)).mono ?_
    rintro e w' ⟨N, rfl, _, _, hb⟩
    exact ⟨_, _, _, rfl, Mods.ofBelow hb _⟩
end Go.Proofs.YtiiklnghnifmjaaGreatDoor.Sx
