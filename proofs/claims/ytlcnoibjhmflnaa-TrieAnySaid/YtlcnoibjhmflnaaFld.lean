/- Fields (a tag and bytes), elements of several cells, tuples, bytes of a text. -/
import Derived.Test.YtlcnoibjhmflnaaSx
set_option linter.unusedVariables false
set_option linter.unusedSimpArgs false
namespace Go.Proofs.Ytlcnoibjhmflnaa.Sx
open Go.RowKit
section
variable {ds : List Deferred}
variable {P : Program} {a : Act} {w w0 w' : World} {K : Act → World → Prop} {Q : Exit → Act → World → Prop} {v z : Value} {B : Nat → Prop} {H : List (Nat × Asn)} {dst : Option Tmp} {ty : TypeId} {pos : String} {af : Array Edge} {x y : Operand} {t : TypeId} {n d : Nat} {by' : Nat} {ag : Bool} {gg : Option (Nat × Bool)} {α β : Type} {E : Rep α} {E' : Rep β} {xs : List α} {A : Option Addr} {c : Nat} {ok ok2 : Nat → Prop} {L : List (Nat × Value)} {e : TypeId}
/-- What is read within what is read. -/
theorem Hp.subrd (h : Hp B w0 w H) (l0 : Nat) {X : Asn} (hl : get H l0 = some X) (l : Nat) {ys : List β} {A' : Option Addr} {c' : Nat} (hr : Rd E' w ok A' ys c') (ho : ∀ k, ok k → X.rd k) : Hp B w0 w ((l, .rd_ E' A' ys c' ok) :: H) :=
  h.readable l hr (fun k hk => h.inb l0 _ hl k (.inr (ho k hk))) (fun i A'' hA k hk hk2 => by
    by_cases e : i = l0
    · subst e; rw [hl] at hA; cases hA; exact h.self i _ hl k hk (ho k hk2)
    · exact h.sep i l0 A'' _ e hA hl k hk (.inr (ho k hk2)))
/-- One cell that is only read. -/
def Asn.cel (ad : Addr) (v : Value) : Asn := ⟨fun _ => False, fun k => k = ad.block, fun w => w.cell? ad = some v, fun h hw => by
  have := h ad.block (.inr rfl)
  unfold World.cell? at hw ⊢
  rw [this]; exact hw⟩
theorem Hp.addro (h : Hp B w0 w H) (l : Nat) (X : Asn) (hown : ∀ k, ¬ X.own k) (hh : X.holds w) (hr : ∀ k, X.rd k → ∃ j Y, get H j = some Y ∧ Y.rd k) : Hp B w0 w ((l, X) :: H) :=
  h.one (Mods.refl (fun _ => False) w) l X (fun k hk => hk.elim) hh (fun k hk => (hown k hk).elim) (fun k hk => .inr (.inl (hr k hk)))
    (fun k hk => hk.elim (fun h1 => (hown k h1).elim) (fun h1 => by obtain ⟨j, Y, hj, hy⟩ := hr k h1; exact h.inb j Y hj k (.inr hy))) (fun k hk => (hown k hk).elim)
theorem Hp.subcel (h : Hp B w0 w H) (l0 : Nat) {X : Asn} (hl : get H l0 = some X) (l : Nat) {ad : Addr} {v : Value} (hc : w.cell? ad = some v) (ho : X.rd ad.block) : Hp B w0 w ((l, .cel ad v) :: H) :=
  h.addro l _ (fun k hk => hk) hc (fun k hk => ⟨l0, X, hl, by rw [show k = ad.block from hk]; exact ho⟩)
theorem addblk (a : Addr) (i : Nat) : (a.add i).block = a.block := by unfold Addr.add; split <;> rfl
/-- Cells that are only read. -/
def Asn.cels (ad : Addr) (cs : Array Value) : Asn := ⟨fun _ => False, fun k => k = ad.block, fun w => ∀ j u, cs.toList[j]? = some u → w.cell? (ad.add j) = some u, fun h hw j u hj => by
  have h1 := hw j u hj
  have h2 := h ad.block (.inr rfl)
  unfold World.cell? at h1 ⊢
  rw [addblk] at h1 ⊢
  rw [h2]; exact h1⟩
theorem Hp.subcels (h : Hp B w0 w H) (l0 : Nat) {X : Asn} (hl : get H l0 = some X) (l : Nat) {ad : Addr} {cs : Array Value} (hc : ∀ j u, cs.toList[j]? = some u → w.cell? (ad.add j) = some u) (ho : X.rd ad.block) : Hp B w0 w ((l, .cels ad cs) :: H) :=
  h.addro l _ (fun k hk => hk) hc (fun k hk => ⟨l0, X, hl, by rw [show k = ad.block from hk]; exact ho⟩)
theorem Rd.inok (hr : Rd E w ok A xs c) (h0 : 0 < xs.length) (m : Nat) : ok (adr A m).block := by
  obtain ⟨b, off, arr, T, fz, rfl, hb, _⟩ := hr.2.2 h0
  have : adr (some (⟨b, off, Option.none⟩ : Addr)) m = ⟨b, off + m, Option.none⟩ := by simp only [adr, Option.getD_some]; exact add_off _ _ _
  rw [this]
  first | exact hb | exact hb.1
/-- A row of one's own is only read from now on. -/
theorem Hp.freeze (h : Hp B w0 w H) (l : Nat) {T : TypeId} {m : Nat} (hl : get H l = some (.row E T (.slice A m c) xs ok)) (ok' : Nat → Prop) (ho : ∀ k, ok' k ↔ (ok k ∨ (Value.slice A m c).ownBlock = some k)) : Hp B w0 w ((l, .rd_ E A xs c ok') :: H) := by
  have hr : Rd E w ok' A xs c := (h.row l hl).rd (fun k hk _ => (ho k).2 (.inl hk)) (fun k hk => (ho k).2 (.inr hk))
  refine h.one (Mods.refl (fun _ => False) w) l _ (fun k hk => hk.elim) hr (fun k hk => hk.elim) (fun k hk => ?_) (fun k hk => ?_) (fun k hk => hk.elim)
  · rcases (ho k).1 hk with h1 | h1
    · exact .inr (.inl ⟨l, _, hl, h1⟩)
    · exact .inl ⟨_, hl, h1⟩
  · rcases hk with hk | hk
    · exact hk.elim
    · rcases (ho k).1 hk with h1 | h1
      · exact h.inb l _ hl k (.inr h1)
      · exact h.inb l _ hl k (.inl h1)
/-- A label takes another's thing over. -/
theorem Hp.move (h : Hp B w0 w H) (l l' : Nat) (hne : Nat.beq l' l = false) {X : Asn} (hl : get H l = some X) : Hp B w0 w ((l', X) :: (l, .emp) :: H) := by
  have hn : l' ≠ l := fun e => by subst e; rw [Nat.beq_refl] at hne; cases hne
  have two : ∀ i Y, get [(l', X), (l, Asn.emp)] i = some Y → (i = l' ∧ Y = X) ∨ (i = l ∧ Y = Asn.emp) := by
    intro i Y hY
    rw [get_cons] at hY
    split at hY
    · cases hY; exact .inl ⟨by assumption |> Eq.symm, rfl⟩
    · rw [get_cons] at hY
      split at hY
      · cases hY; exact .inr ⟨by assumption |> Eq.symm, rfl⟩
      · simp [get] at hY
  have own : ∀ k, X.own k → OwnedBy H [(l', X), (l, Asn.emp)] k := fun k hk => ⟨l, X, hl, by rw [get_cons, if_neg hn, get_cons, if_pos rfl]; rfl, hk⟩
  refine h.call (Mods.refl (fun _ => False) w) [(l', X), (l, Asn.emp)] (fun k hk => hk.elim) ?_ ?_ ?_ ?_ ?_ ?_
  · intro i Y hY
    rcases two i Y hY with ⟨rfl, rfl⟩ | ⟨rfl, rfl⟩
    · exact h.holds l _ hl
    · trivial
  · intro i Y hY k hk
    rcases two i Y hY with ⟨rfl, rfl⟩ | ⟨rfl, rfl⟩
    · exact .inl (own k hk)
    · exact hk.elim
  · intro i Y hY k hk
    rcases two i Y hY with ⟨rfl, rfl⟩ | ⟨rfl, rfl⟩
    · exact .inr (.inl ⟨l, _, hl, hk⟩)
    · exact hk.elim
  · intro i Y hY k hk
    rcases two i Y hY with ⟨rfl, rfl⟩ | ⟨rfl, rfl⟩
    · exact h.inb l _ hl k hk
    · exact hk.elim (·.elim) (·.elim)
  · intro i Y hY k hk
    rcases two i Y hY with ⟨rfl, rfl⟩ | ⟨rfl, rfl⟩
    · exact h.self l _ hl k hk
    · exact hk.elim
  · intro i j Y Z hij hY hZ k hk
    rcases two i Y hY with ⟨rfl, rfl⟩ | ⟨rfl, rfl⟩
    · rcases two j Z hZ with ⟨rfl, rfl⟩ | ⟨rfl, rfl⟩
      · exact absurd rfl hij
      · rintro (h | h) <;> exact h.elim
    · exact hk.elim
theorem x_extract {vs : Array Value} {i : Nat} (hx : a.eval x = .tuple vs) (hi : vs[i]? = some v) : At P ⟨dst, .extract x i, ty, pos, af, gg⟩ a w v := by
  unfold At; generalize a.eval = ρ at *; simp [execOp, Instr.extract, hx, hi, go_sem]
theorem x_indexS {s : ByteArray} {k : IntKind} {i : Nat} {u : UInt8} (ht : P.underlying t = some .string) (hx : a.eval x = .string s) (hy : a.eval y = .int k (i : Int)) (hi : s[i]? = some u) : At P ⟨dst, .index t x y, ty, pos, af, gg⟩ a w (.int .u8 (u.toNat : Int)) := by
  unfold At; generalize a.eval = ρ at *
  simp [execOp, Instr.index, asIntOf, hx, hy, run_underlying ht, hi, go_sem]
theorem x_faddrA {fi m o' : Nat} {fs : Array Field} {f : Field} {z' : Value} (hr : Rd E w ok A xs c) (hl : 0 < xs.length) (w2 : World) (hs : P.underlying t = some (.struct fs)) (hf : fs[fi]? = some f) (h : TyI P f.type z' n by' ag) (hn : n ≠ 0) (hx : a.eval x = .pointer (some (adr A m))) (ho : m + f.offset = o') :
    At P ⟨dst, .fieldAddr t x fi, ty, pos, af, gg⟩ a w2 (.pointer (some (adr A o'))) := by
  subst ho
  obtain ⟨b, off, rfl⟩ := hr.some_ hl
  have e : ∀ q, adr (some (⟨b, off, Option.none⟩ : Addr)) q = ⟨b, off + q, Option.none⟩ := fun q => by simp only [adr, Option.getD_some]; exact add_off _ _ _
  rw [e] at hx ⊢
  exact x_faddr hs hf h hn hx (by omega)
/-- A literal of elements of whatever kind. -/
theorem w_litE (l : Nat) (E : Rep α) (ys : List α) (cells : Array Value) (ok : Nat → Prop) {ρs : Array (Nat × Value)} {m : Nat} {parts : Array (Nat × Operand)} (hF : FrD ds n a L) (hH : Hp B w0 w H) (hn : Nat.blt d n = true) (ht : P.underlying t = some (.slice e)) (h : TyI P e z E.n by' ag)
    (hp : parts.map (fun p => (p.1, a.eval p.2)) = ρs) (hl : ys.length = m) (hm : m ≠ 0) (hm2 : m * E.n ≤ 2 ^ 24)
    (hf : Instr.fill (fun i => some (i * E.n, E.n)) ((Array.range (m * E.n)).map (z.cells[· % z.cells.size]!)) ρs.toList = some cells)
    (hel : Elems E w ok ys cells.toList) (hok : ∀ k, ok k → ∃ j X, get H j = some X ∧ X.rd k)
    (k' : ∀ a' w' b, FrD ds n a' ((d, .slice (some ⟨b, 0, Option.none⟩) ys.length ys.length) :: L) → Hp B w0 w' ((l, .row E e (.slice (some ⟨b, 0, Option.none⟩) ys.length ys.length) ys ok) :: H) → K a' w') :
    Oper.wp P ⟨some d, .buildSlice t m parts, ty, pos, af, gg⟩ a w K Q := by
  subst hl
  have hlen : ys.length ≤ maxLen := by
    have := E.pos
    have h1 : ys.length * 1 ≤ ys.length * E.n := Nat.mul_le_mul_left _ this
    unfold maxLen; omega
  refine w_to hF (x_lit ht h hp (by have := E.pos; exact Nat.mul_ne_zero hm (by omega)) hm2 hf) rfl hn fun a' hF' => k' a' _ _ hF' ?_
  refine hH.one (Mods.alloc (fun _ => False) w _) l _ (fun k hk => hk.elim) (row_lit hel hlen) (fun k hk => .inr ?_) (fun k hk => .inr (.inl ?_)) (fun k hk => ?_) (fun k hk hk2 => ?_)
  · simp [Asn.row, Value.ownBlock] at hk; omega
  · exact hok k hk
  · rcases hk with hk | hk
    · simp [Asn.row, Value.ownBlock] at hk; simp; omega
    · obtain ⟨j, X, h1, h2⟩ := hok k hk
      have := hH.inb j X h1 k (.inr h2)
      simp; omega
  · obtain ⟨j, X, h1, h2⟩ := hok k hk2
    have := hH.inb j X h1 k (.inr h2)
    simp [Asn.row, Value.ownBlock] at hk; omega
end

section
variable {P : Program} {a : Act} {w : World} {dst : Option Tmp} {ty : TypeId} {pos : String} {af : Array Edge} {x y : Operand} {t t' : TypeId} {gg : Option (Nat × Bool)} {A : Option Addr} {m c : Nat}
theorem eqIn_sl {e : TypeId} (ht : P.underlying t = some (.slice e)) (d : Nat) (A : Option Addr) (m c : Nat) : (Op.equalIn (d + 1) t (.slice A m c) (.slice Option.none 0 0)).run P w = .ok (decide (A = Option.none)) w := by
  cases A <;> simp [Op.equalIn, run_underlying ht, go_sem]
theorem eq_sl {e : TypeId} (ht : P.underlying t = some (.slice e)) (A : Option Addr) (m c : Nat) : (Op.equal t (.slice A m c) (.slice Option.none 0 0)).run P w = .ok (decide (A = Option.none)) w := eqIn_sl ht 9999 A m c
/-- s == nil -/
theorem x_slnil {e : TypeId} (ht : P.underlying t = some (.slice e)) (hx : a.eval x = .slice A m c) (hy : a.eval y = .slice Option.none 0 0) : At P ⟨dst, .binOp .eql t x y t', ty, pos, af, gg⟩ a w (.bool (decide (A = Option.none))) := by
  unfold At; generalize a.eval = ρ at *
  simp [execOp, hx, hy, binOp, eqGuard, eq_sl ht, go_sem]
theorem x_lsss {p q : ByteArray} (hx : a.eval x = .string p) (hy : a.eval y = .string q) : At P ⟨dst, .binOp .lss t x y t', ty, pos, af, gg⟩ a w (.bool (Op.bytesLess p.toList q.toList)) := by
  unfold At; generalize a.eval = ρ at *
  simp [execOp, hx, hy, binOp, Op.stringOp, eqGuard, go_sem]
theorem rd_nil {α : Type} {E : Rep α} {ok : Nat → Prop} {xs : List α} (hr : Rd E w ok A xs c) (h : A = Option.none) : xs = [] := by
  subst h
  by_cases h0 : 0 < xs.length
  · obtain ⟨b, off, h⟩ := hr.some_ h0
    cases h
  · exact List.length_eq_zero_iff.1 (by omega)
end

/-! ### fields -/
abbrev Fld := Int × List Int
def FE : Rep Fld := Rep.pair (Rep.int .i64) (Rep.slice (Rep.int .u8))
def gf (xs : List Fld) (i : Int) : Fld := xs.getD i.toNat (0, [])
theorem gf_some {xs : List Fld} {i : Int} (h0 : 0 ≤ i) (h1 : i < xs.length) : xs[i.toNat]? = some (gf xs i) := by
  have hi : i.toNat < xs.length := by omega
  simp [gf, List.getD_eq_getElem?_getD, List.getElem?_eq_getElem hi]
theorem fld_cells {w : World} {ok : Nat → Prop} {f : Fld} {cs : List Value} (h : FE.R w ok f cs) : ∃ A c, cs = [.int .i64 f.1, .slice A f.2.length c] ∧ Rd (.int .u8) w ok A f.2 c := by
  obtain ⟨c1, d1, rfl, h1, A, c, rfl, hr⟩ := h
  have h1' : c1 = [.int .i64 f.1] := h1
  subst h1'
  exact ⟨A, c, rfl, hr⟩
theorem fld_mk {w : World} {ok : Nat → Prop} {f : Fld} {A : Option Addr} {c : Nat} (hr : Rd (.int .u8) w ok A f.2 c) : FE.R w ok f [.int .i64 f.1, .slice A f.2.length c] :=
  ⟨[.int .i64 f.1], [.slice A f.2.length c], rfl, rfl, A, c, rfl, hr⟩
theorem Rd.fld {w : World} {ok : Nat → Prop} {A : Option Addr} {xs : List Fld} {c : Nat} (hr : Rd FE w ok A xs c) {i : Nat} {f : Fld} (hx : xs[i]? = some f) : ∃ A' c', Rd (.int .u8) w ok A' f.2 c' ∧ w.cell? (adr A (i * 2)) = some (.int .i64 f.1) ∧ w.cell? (adr A (i * 2 + 1)) = some (.slice A' f.2.length c') ∧
    (∀ j u, (#[.int .i64 f.1, .slice A' f.2.length c'] : Array Value).toList[j]? = some u → w.cell? ((adr A (i * 2)).add j) = some u) := by
  obtain ⟨cs, hR, hc⟩ := hr.cellsA (n := 2) rfl hx
  obtain ⟨A', c', rfl, hr'⟩ := fld_cells hR
  obtain ⟨b, off, rfl⟩ := hr.some_ (by have := (List.getElem?_eq_some_iff.1 hx).1; omega)
  have e : ∀ q, adr (some (⟨b, off, Option.none⟩ : Addr)) q = ⟨b, off + q, Option.none⟩ := fun q => by simp only [adr, Option.getD_some]; exact add_off _ _ _
  refine ⟨A', c', hr', ?_, ?_, fun j u hj => hc j u hj⟩
  · have := hc 0 _ rfl
    rw [e, add_off] at this
    rw [e]; exact this
  · have := hc 1 _ rfl
    rw [e, add_off] at this
    rw [e, ← Nat.add_assoc]; exact this
end Go.Proofs.Ytlcnoibjhmflnaa.Sx
