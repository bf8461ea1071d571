/- Bytes as fields: what Decode says. -/
import Derived.Test.YtiiklnghnifmjaaGreatDoorCodEZc
set_option linter.unusedVariables false
set_option linter.unusedSimpArgs false
namespace Go.Proofs.YtiiklnghnifmjaaGreatDoor.Cod
open Go.RowKit Go.Proofs.YtiiklnghnifmjaaGreatDoor.Sx
/-- The first field of bytes, and what is left; none: no right one. -/
def cut (bs : List Int) : Option (Fld × List Int) :=
  if 3 ≤ bs.length then
    let n := (gi bs 1 * 256 + gi bs 2).toNat
    if n ≤ 2000 ∧ n + 3 ≤ bs.length then some ((gi bs 0, (bs.drop 3).take n), bs.drop (3 + n)) else none
  else none
theorem cut_lt {bs : List Int} {f : Fld} {r : List Int} (h : cut bs = some (f, r)) : r.length < bs.length := by
  unfold cut at h
  split at h
  · dsimp only at h
    split at h
    · cases h
      rw [List.length_drop]
      omega
    · cases h
  · cases h
/-- What each tells: the fields, one behind the other; at bytes that are none: a field of tag 0; none behind a tag of 0. -/
def told : Nat → List Int → List Fld
  | 0, _ => []
  | k + 1, bs => if bs.length = 0 then [] else
    match cut bs with
    | none => [(0, [])]
    | some (f, r) => if f.1 = 0 then [f] else f :: told k r
/-- The list of bytes: none where a field of tag 0 is told, or more than 200. -/
def decR (bs : List Int) : Option (List Fld) :=
  let l := told bs.length bs
  if l.all (fun f => !decide (f.1 = 0)) && decide (l.length ≤ 200) then some l else none
/-- Enough rounds are enough. -/
theorem told_more : ∀ (k j : Nat) (bs : List Int), bs.length ≤ k → bs.length ≤ j → told k bs = told j bs
  | 0, j, bs, h, _ => by
    have h0 : bs.length = 0 := by omega
    cases j with
    | zero => rfl
    | succ j => unfold told; rw [if_pos h0]
  | k + 1, 0, bs, _, h => by
    have h0 : bs.length = 0 := by omega
    unfold told; rw [if_pos h0]
  | k + 1, j + 1, bs, h1, h2 => by
    unfold told
    split
    · rfl
    · cases hc : cut bs with
      | none => rfl
      | some p =>
        obtain ⟨f, r⟩ := p
        have hr := cut_lt hc
        simp only
        split
        · rfl
        · rw [told_more k j r (by omega) (by omega)]
/-- What each tells of bytes. -/
def items (bs : List Int) : List Fld := told bs.length bs
theorem items_nil {bs : List Int} (h : bs.length = 0) : items bs = [] := by unfold items; rw [h]; rfl
theorem items_none {bs : List Int} (h0 : 0 < bs.length) (h : cut bs = none) : items bs = [(0, [])] := by
  unfold items
  obtain ⟨k, hk⟩ : ∃ k, bs.length = k + 1 := ⟨bs.length - 1, by omega⟩
  rw [hk]
  unfold told
  rw [if_neg (by omega), h]
theorem items_some {bs : List Int} {f : Fld} {r : List Int} (h : cut bs = some (f, r)) : items bs = if f.1 = 0 then [f] else f :: items r := by
  have hr := cut_lt h
  unfold items
  obtain ⟨k, hk⟩ : ∃ k, bs.length = k + 1 := ⟨bs.length - 1, by omega⟩
  rw [hk]
  conv => lhs; unfold told
  rw [if_neg (by omega), h]
  simp only
  split
  · rfl
  · rw [told_more k r.length r (by omega) (by omega)]
theorem shl8i {n : Int} (h0 : 0 ≤ n) (h1 : n < 256) : IntKind.i64.wrap (n * 2 ^ (min (Int.toNat 8) 64)) = n * 256 := by
  rw [show (2 : Int) ^ (min (Int.toNat 8) 64) = 256 by decide]
  exact w64 (by omega) (by omega)
theorem or_i64 {n c : Int} (h0 : 0 ≤ n) (h1 : n < 256) (hc : 0 ≤ c) (hc2 : c < 256) : bits .or .i64 (n * 256) c = n * 256 + c := by
  obtain ⟨a, rfl⟩ := Int.eq_ofNat_of_zero_le h0
  obtain ⟨b, rfl⟩ := Int.eq_ofNat_of_zero_le hc
  show IntKind.i64.wrap ((BitVec.ofInt 64 ((a : Int) * 256) ||| BitVec.ofInt 64 (b : Int)).toNat : Int) = _
  rw [BitVec.toNat_or]
  have e1 : (BitVec.ofInt 64 ((a : Int) * 256)).toNat = a <<< 8 := by
    rw [show (a : Int) * 256 = ((a * 256 : Nat) : Int) by simp, BitVec.ofInt_natCast, BitVec.toNat_ofNat, Nat.shiftLeft_eq]; omega
  have e2 : (BitVec.ofInt 64 (b : Int)).toNat = b := by
    rw [BitVec.ofInt_natCast, BitVec.toNat_ofNat]; omega
  rw [e1, e2, ← Nat.shiftLeft_add_eq_or_of_lt (by omega : b < 2 ^ 8), Nat.shiftLeft_eq]
  rw [w64 (by omega) (by omega)]
  omega
def Byt (bs : List Int) : Prop := ∀ n ∈ bs, 0 ≤ n ∧ n < 256
theorem Byt.gi {bs : List Int} (h : Byt bs) (i : Int) : 0 ≤ gi bs i ∧ gi bs i < 256 := by
  unfold Sx.gi
  rw [List.getD_eq_getElem?_getD]
  cases hh : bs[i.toNat]? with
  | none => simp
  | some x => exact h x (List.mem_of_getElem? hh)
theorem Byt.drop {bs : List Int} (h : Byt bs) (m : Nat) : Byt (bs.drop m) := fun n hn => h n (List.mem_of_mem_drop hn)
theorem cut_few {bs : List Int} (h : ¬ 3 ≤ bs.length) : cut bs = none := by unfold cut; rw [if_neg h]
theorem cut_bad {bs : List Int} (hb : Byt bs) (h : ¬ (gi bs 1 * 256 + gi bs 2 ≤ 2000) ∨ ¬ (gi bs 1 * 256 + gi bs 2 ≤ (bs.length : Int) - 3)) : cut bs = none := by
  have h1 := hb.gi 1
  have h2 := hb.gi 2
  unfold cut
  split
  · dsimp only
    rw [if_neg (by omega)]
  · rfl
theorem cut_good {bs : List Int} (hb : Byt bs) (h : gi bs 1 * 256 + gi bs 2 ≤ 2000) (h' : gi bs 1 * 256 + gi bs 2 ≤ (bs.length : Int) - 3) : cut bs = some ((gi bs 0, (bs.drop 3).take (gi bs 1 * 256 + gi bs 2).toNat), bs.drop (3 + (gi bs 1 * 256 + gi bs 2).toNat)) := by
  have h1 := hb.gi 1
  have h2 := hb.gi 2
  unfold cut
  rw [if_pos (by omega)]
  dsimp only
  rw [if_pos (by omega)]
theorem items_zero {bs : List Int} (h0 : 0 < bs.length) (h : cut bs = none) : items bs = if ((0, []) : Fld).1 = 0 then [((0, []) : Fld)] else (0, []) :: items bs := by
  rw [items_none h0 h]; rfl
theorem dec_some {bs : List Int} (h : ((items bs).all fun f => !decide (f.1 = 0)) = true) (hl : (items bs).length ≤ 200) : decR bs = some (items bs) := by
  unfold decR
  dsimp only
  rw [show told bs.length bs = items bs from rfl, h, decide_eq_true hl]
  rfl
theorem dec_none {bs : List Int} {pre : List Fld} {x : Fld} (h : pre ++ [x] <+: items bs) (hw : x.1 = 0 ∨ pre.length = 200) : decR bs = none := by
  obtain ⟨t, ht⟩ := h
  unfold decR
  dsimp only
  rw [show told bs.length bs = items bs from rfl, ← ht, if_neg]
  rcases hw with hw | hw
  · simp [hw]
  · intro h
    rw [Bool.and_eq_true] at h
    have := of_decide_eq_true h.2
    simp only [List.length_append, List.length_cons, List.length_nil] at this
    omega
theorem gi_drop {bs : List Int} {k : Nat} {i : Int} (hi : 0 ≤ i) : gi (bs.drop k) i = gi bs ((k : Int) + i) := by
  unfold Sx.gi
  rw [List.getD_eq_getElem?_getD, List.getD_eq_getElem?_getD, List.getElem?_drop]
  congr 2
  omega
theorem items_head {rest : List Int} (h : 0 < rest.length) : ∃ x t, items rest = x :: t ∧ (cut rest = none ∨ gi rest 0 = 0 → x.1 = 0) := by
  cases hc : cut rest with
  | none => exact ⟨(0, []), [], items_none h hc, fun _ => rfl⟩
  | some p =>
    obtain ⟨f, r⟩ := p
    rw [items_some hc]
    have hf : f.1 = gi rest 0 := by
      unfold cut at hc
      split at hc
      · dsimp only at hc
        split at hc
        · cases hc; rfl
        · cases hc
      · cases hc
    split
    · exact ⟨f, [], rfl, fun _ => by assumption⟩
    · exact ⟨f, _, rfl, fun h => by rcases h with h | h; (· cases h); (· rw [hf]; exact h)⟩
/-- The document's loop: what is wrong here is wrong of all. -/
theorem ref_bad {bs : List Int} {k : Nat} {pre : List Fld} (hk : k < bs.length) (hp : pre ++ items (bs.drop k) = items bs) (h : cut (bs.drop k) = none ∨ gi (bs.drop k) 0 = 0 ∨ pre.length = 200) : decR bs = none := by
  obtain ⟨x, t, hx, h0⟩ := items_head (rest := bs.drop k) (by rw [List.length_drop]; omega)
  refine dec_none (pre := pre) (x := x) ⟨t, by rw [← hp, hx]; simp⟩ ?_
  rcases h with h | h | h
  · exact .inl (h0 (.inl h))
  · exact .inl (h0 (.inr h))
  · exact .inr h
theorem ref_step {bs : List Int} {k n : Nat} (hb : Byt bs) (hk : (k : Int) + 3 ≤ bs.length) (hn : 256 * gi bs ((k : Int) + 1) + gi bs ((k : Int) + 2) = (n : Int)) (h1 : n ≤ 2000) (h2 : (n : Int) ≤ (bs.length : Int) - k - 3) :
    cut (bs.drop k) = some ((gi bs (k : Int), ([] : List Int) ++ ((bs.take (k + 3 + n)).drop (k + 3))), bs.drop (k + 3 + n)) := by
  have e1 : gi (bs.drop k) 1 = gi bs ((k : Int) + 1) := gi_drop (by omega)
  have e2 : gi (bs.drop k) 2 = gi bs ((k : Int) + 2) := gi_drop (by omega)
  have e0 : gi (bs.drop k) 0 = gi bs (k : Int) := by rw [gi_drop (by omega), Int.add_zero]
  have e : gi (bs.drop k) 1 * 256 + gi (bs.drop k) 2 = (n : Int) := by rw [e1, e2, ← hn]; omega
  rw [cut_good (hb.drop k) (by rw [e]; omega) (by rw [e, List.length_drop]; omega), e, e0]
  simp only [List.drop_drop, Int.toNat_natCast, List.nil_append, List.drop_take]
  simp only [Option.some.injEq, Prod.mk.injEq, true_and]
  exact ⟨by rw [show k + 3 + n - (k + 3) = n by omega], by rw [Nat.add_assoc]⟩
theorem ref_cut {bs : List Int} {k n : Nat} (hb : Byt bs) (hn : 256 * gi bs ((k : Int) + 1) + gi bs ((k : Int) + 2) = (n : Int)) (h : 2000 < n ∨ (bs.length : Int) - k - 3 < n) : cut (bs.drop k) = none := by
  have e1 : gi (bs.drop k) 1 = gi bs ((k : Int) + 1) := gi_drop (by omega)
  have e2 : gi (bs.drop k) 2 = gi bs ((k : Int) + 2) := gi_drop (by omega)
  have e : gi (bs.drop k) 1 * 256 + gi (bs.drop k) 2 = (n : Int) := by rw [e1, e2, ← hn]; omega
  refine cut_bad (hb.drop k) ?_
  rw [e, List.length_drop]
  omega
theorem items_step {bs : List Int} {k n : Nat} {pre : List Fld} {x : Fld} (h : cut (bs.drop k) = some (x, bs.drop (k + 3 + n))) (h0 : x.1 ≠ 0) (hp : pre ++ items (bs.drop k) = items bs) : (pre ++ [x]) ++ items (bs.drop (k + 3 + n)) = items bs := by
  rw [← hp, items_some h, if_neg h0, List.append_assoc]; rfl
theorem all_snoc {pre : List Fld} {x : Fld} (h : (pre.all fun f => !decide (f.1 = 0)) = true) (hx : x.1 ≠ 0) : ((pre ++ [x]).all fun f => !decide (f.1 = 0)) = true := by
  simp only [List.all_append, h, List.all_cons, List.all_nil, decide_eq_false hx]; rfl
end Go.Proofs.YtiiklnghnifmjaaGreatDoor.Cod
