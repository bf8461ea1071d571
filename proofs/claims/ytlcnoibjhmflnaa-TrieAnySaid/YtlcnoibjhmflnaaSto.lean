/- Writing into an element of a row of one's own. -/
import Derived.Test.YtlcnoibjhmflnaaFld
set_option linter.unusedVariables false
set_option linter.unusedSimpArgs false
namespace Go.Proofs.Ytlcnoibjhmflnaa.Sx
open Go.RowKit
def putc (cs : List Value) (j : Nat) (us : List Value) : List Value := cs.take j ++ us ++ cs.drop (j + us.length)
theorem putc_length {cs us : List Value} {j : Nat} (h : j + us.length ≤ cs.length) : (putc cs j us).length = cs.length := by
  unfold putc; simp; omega
theorem putc_get {cs us : List Value} {j : Nat} (h : j + us.length ≤ cs.length) (p : Nat) : (putc cs j us)[p]? = if j ≤ p ∧ p < j + us.length then us[p - j]? else cs[p]? := by
  unfold putc
  have hl : (cs.take j).length = j := by rw [List.length_take]; omega
  rw [List.append_assoc]
  by_cases h1 : p < j
  · rw [List.getElem?_append_left (by omega), if_neg (by omega), List.getElem?_take, if_pos h1]
  · rw [List.getElem?_append_right (by omega), hl]
    by_cases h2 : p < j + us.length
    · rw [List.getElem?_append_left (by omega), if_pos (by omega)]
    · rw [List.getElem?_append_right (by omega), if_neg (by omega), List.getElem?_drop]
      congr 1
      omega
theorem piece_get (cs : List Value) (a n p : Nat) : ((cs.drop a).take n)[p]? = if p < n then cs[a + p]? else none := by
  rw [List.getElem?_take]
  split
  · rw [List.getElem?_drop]
  · rfl
theorem putc_piece {cs us : List Value} {n m i j : Nat} (hl : cs.length = m * n) (hi : i < m) (hj : j + us.length ≤ n) (q : Nat) (hq : q < m) :
    ((putc cs (i * n + j) us).drop (q * n)).take n = if q = i then putc ((cs.drop (i * n)).take n) j us else (cs.drop (q * n)).take n := by
  have hin : i * n + n ≤ cs.length := by rw [hl, ← Nat.succ_mul]; exact Nat.mul_le_mul_right _ hi
  have hpl : ((cs.drop (i * n)).take n).length = n := by rw [List.length_take, List.length_drop]; omega
  apply List.ext_getElem?
  intro p
  rw [piece_get]
  by_cases hp : p < n
  · rw [if_pos hp, putc_get (by omega)]
    by_cases e : q = i
    · subst e
      rw [if_pos rfl, putc_get (by omega), piece_get, if_pos hp]
      by_cases h1 : j ≤ p ∧ p < j + us.length
      · rw [if_pos (by omega), if_pos h1]; congr 1; omega
      · rw [if_neg (by omega), if_neg h1]
    · rw [if_neg e, piece_get, if_pos hp, if_neg]
      rintro ⟨h1, h2⟩
      rcases Nat.lt_or_gt_of_ne e with h | h
      · have : q * n + n ≤ i * n := by rw [← Nat.succ_mul]; exact Nat.mul_le_mul_right _ h
        omega
      · have : i * n + n ≤ q * n := by rw [← Nat.succ_mul]; exact Nat.mul_le_mul_right _ h
        omega
  · rw [if_neg hp]
    symm
    rw [List.getElem?_eq_none_iff]
    split
    · rw [putc_length (by omega), hpl]; omega
    · rw [List.length_take]; omega
section
variable {P : Program} {a : Act} {w w0 w' : World} {K : Act → World → Prop} {Q : Exit → Act → World → Prop} {v z : Value} {B : Nat → Prop} {H : List (Nat × Asn)} {ty : TypeId} {pos : String} {af : Array Edge} {x y : Operand} {t : TypeId} {n d : Nat} {by' : Nat} {ag : Bool} {gg : Option (Nat × Bool)} {α : Type} {E : Rep α} {xs : List α} {A : Option Addr} {m c : Nat} {ok : Nat → Prop} {T : TypeId}
theorem w_storeEl (l : Nat) (i j : Nat) {x0 : α} (x' : α) (ok' : Nat → Prop) (hH : Hp B w0 w H) (h : TyI P t z n by' ag) (hl : get H l = some (.row E T (.slice A m c) xs ok)) (hi : xs[i]? = some x0)
    (hx : a.eval x = .pointer (some (adr A (i * E.n + j)))) (hy : a.eval y = v) (hv : v.cells.size = n) (h1 : ∀ u ∈ v.cells.toList, u.oneCell' = true) (hj : j + n ≤ E.n)
    (hR : ∀ cs, E.R w ok x0 cs → E.R w ok' x' (putc cs j v.cells.toList)) (ho : ∀ k, ok k → ok' k) (hsub : ∀ k, ok' k → ok k ∨ ∃ j X, get H j = some X ∧ Nat.beq j l = false ∧ X.rd k)
    (k' : ∀ w', Hp B w0 w' ((l, .row E T (.slice A m c) (xs.set i x') ok') :: H) → K a w') : Oper.wp P ⟨Option.none, .store t x y, ty, pos, af, gg⟩ a w K Q := by
  have hilt : i < xs.length := (List.getElem?_eq_some_iff.1 hi).1
  have hrow := hH.row l hl
  obtain ⟨cs, hown, hel⟩ := hrow
  rcases hown.2 with ⟨h3, h4⟩ | ⟨g, cap, cur, h3, hb, hh, h4, h5, h6, h7⟩
  · omega
  · simp only [Value.slice.injEq] at h3
    obtain ⟨rfl, rfl, rfl⟩ := h3
    have hin : i * E.n + E.n ≤ xs.length * E.n := by rw [← Nat.succ_mul]; exact Nat.mul_le_mul_right _ hilt
    have hcapn : xs.length * E.n ≤ c * E.n := Nat.mul_le_mul_right _ h4
    have hcl : cs.length = xs.length * E.n := hown.1
    have hvl : v.cells.toList.length = n := by simpa using hv
    have hx2 : a.eval x = .pointer (some ⟨g, i * E.n + j, Option.none⟩) := by
      rw [hx]; simp only [adr, Option.getD_some]; rw [add_off, Nat.zero_add]
    have hsk := x_store (dst := Option.none) (ty := ty) (pos := pos) (af := af) (g := gg) h hx2 hy hh hv h1 (by omega)
    refine w_sk hsk rfl (k' _ ?_)
    have hheap := setRow_heap w g cur (spl cur (i * E.n + j) v.cells) T (0, 0) hh
    have hspl : (spl cur (i * E.n + j) v.cells).toList = putc cur.toList (i * E.n + j) v.cells.toList := by
      unfold spl putc
      simp
    have htake : (putc cur.toList (i * E.n + j) v.cells.toList).take (xs.length * E.n) = putc cs (i * E.n + j) v.cells.toList := by
      apply List.ext_getElem?
      intro p
      rw [List.getElem?_take, putc_get (by rw [hvl]; simp; omega), putc_get (by rw [hvl, hcl]; omega), ← h7, List.getElem?_take, hvl]
      by_cases hp : p < xs.length * E.n
      · simp only [if_pos hp]
      · rw [if_neg hp, if_neg (by omega), if_neg hp]
    have hself : ∀ k, ok' k → k ≠ g := by
      intro k hk e
      rcases hsub k hk with h8 | ⟨j', X, hj', hne, hX⟩
      · exact hH.self l _ hl k (by simp [Asn.row, Value.ownBlock, e]) h8
      · have hne' : l ≠ j' := fun e => by subst e; rw [Nat.beq_refl] at hne; cases hne
        exact hH.sep l j' _ X hne' hl hj' k (by simp [Asn.row, Value.ownBlock, e]) (.inr hX)
    have hmods : Mods (fun k => k = g) w (w.setRow g (spl cur (i * E.n + j) v.cells)) := Mods.setRow _ _ _
    have hrow' : Row E T (w.setRow g (spl cur (i * E.n + j) v.cells)) ok' (.slice (some ⟨g, 0, Option.none⟩) xs.length c) (xs.set i x') := by
      refine ⟨putc cs (i * E.n + j) v.cells.toList, ⟨?_, .inr ⟨g, c, spl cur (i * E.n + j) v.cells, ?_, hb, hheap, ?_, h5, ?_, ?_⟩⟩, ?_⟩
      · rw [putc_length (by rw [hvl, hcl]; omega), hcl, List.length_set]
      · rw [List.length_set]
      · rw [List.length_set]; exact h4
      · rw [spl_size _ _ _ (by rw [hv]; omega), h6]
      · rw [List.length_set, hspl, htake]
      · have hkey : ∀ q y, (xs.set i x')[q]? = some y → E.R w ok' y (((putc cs (i * E.n + j) v.cells.toList).drop (q * E.n)).take E.n) := by
          intro q y hq
          have hql : q < xs.length := by have := (List.getElem?_eq_some_iff.1 hq).1; rwa [List.length_set] at this
          rw [putc_piece hcl hilt (by rw [hvl]; exact hj) q hql]
          rw [List.getElem?_set] at hq
          by_cases e : i = q
          · subst e
            rw [if_pos rfl, if_pos hilt] at hq
            cases hq
            rw [if_pos rfl]
            exact hR _ (hel.2 i x0 hi)
          · rw [if_neg e] at hq
            rw [if_neg (fun h => e h.symm)]
            exact E.move (fun _ _ _ => rfl) (fun k hk _ => ho k hk) (hel.2 q y hq)
        refine ⟨by rw [putc_length (by rw [hvl, hcl]; omega), hcl, List.length_set], fun q y hq => ?_⟩
        exact E.move (fun k hk hlt => hmods.block k hlt (hself k hk)) (fun k hk _ => hk) (hkey q y hq)
    refine hH.one hmods l _ (fun k hk => ⟨_, hl, by simp [Asn.row, Value.ownBlock, hk]⟩) hrow' (fun k hk => .inl ⟨_, hl, hk⟩) (fun k hk => ?_) (fun k hk => ?_) (fun k hk hk2 => ?_)
    · rcases hsub k hk with h8 | ⟨j', X, hj', hne, hX⟩
      · exact .inr (.inl ⟨l, _, hl, h8⟩)
      · exact .inr (.inl ⟨j', X, hj', hX⟩)
    · rcases hk with hk | hk
      · exact hrow'.lt k hk
      · rcases hsub k hk with h8 | ⟨j', X, hj', hne, hX⟩
        · exact Nat.lt_of_lt_of_le (hH.inb l _ hl k (.inr h8)) hmods.size
        · exact Nat.lt_of_lt_of_le (hH.inb j' X hj' k (.inr hX)) hmods.size
    · simp only [Asn.row, Value.ownBlock, Option.some.injEq] at hk
      exact hself k hk2 hk.symm
end
end Go.Proofs.Ytlcnoibjhmflnaa.Sx
