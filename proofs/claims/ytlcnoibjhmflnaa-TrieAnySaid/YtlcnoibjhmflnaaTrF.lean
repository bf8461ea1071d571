/- What the trie's laws and the document's answer need, plain; texts compared. -/
import Derived.Test.YtlcnoibjhmflnaaEch
set_option linter.unusedVariables false
set_option linter.unusedSimpArgs false
namespace Go.Proofs.Ytlcnoibjhmflnaa.Sx
open Go.RowKit
theorem bl_lxl : ∀ (xs ys : List Int), Byte xs → Byte ys → Op.bytesLess (xs.map fun n => UInt8.ofNat n.toNat) (ys.map fun n => UInt8.ofNat n.toNat) = lxl xs ys
  | [], [], _, _ => rfl
  | [], _ :: _, _, _ => rfl
  | _ :: _, [], _, _ => rfl
  | x :: xs, y :: ys, hx, hy => by
    have h1 := hx x (List.mem_cons_self ..)
    have h2 := hy y (List.mem_cons_self ..)
    have ih := bl_lxl xs ys (fun n hn => hx n (List.mem_cons_of_mem _ hn)) (fun n hn => hy n (List.mem_cons_of_mem _ hn))
    simp only [List.map_cons, Op.bytesLess, lxl, ih]
    have e1 : (decide (UInt8.ofNat x.toNat < UInt8.ofNat y.toNat)) = decide (x < y) := by
      rw [decide_eq_decide, UInt8.lt_iff_toNat_lt, UInt8.toNat_ofNat', UInt8.toNat_ofNat']; omega
    have e2 : (UInt8.ofNat x.toNat == UInt8.ofNat y.toNat) = decide (x = y) := by
      rw [Bool.eq_iff_iff, beq_iff_eq, decide_eq_true_eq, ← UInt8.toNat_inj, UInt8.toNat_ofNat', UInt8.toNat_ofNat']; omega
    rw [e1, e2]
section
variable {P : Program} {a : Act} {w : World} {dst : Option Tmp} {ty t t' : TypeId} {pos : String} {af : Array Edge} {gg : Option (Nat × Bool)} {x y : Operand}
theorem less_sn {p q : List Int} (hp : Byte p) (hq : Byte q) : Op.bytesLess (strOfNums p).toList (strOfNums q).toList = lxl p q := by
  rw [← bl_lxl p q hp hq, ← strOfNums_data, ← strOfNums_data, ByteArray.toList_eq, ByteArray.toList_eq]
theorem x_lssn {p q : List Int} (hp : Byte p) (hq : Byte q) (hx : a.eval x = .string (strOfNums p)) (hy : a.eval y = .string (strOfNums q)) : At P ⟨dst, .binOp .lss t x y t', ty, pos, af, gg⟩ a w (.bool (lxl p q)) := by
  rw [← less_sn hp hq]; exact x_lsss hx hy
theorem x_gesn {p q : List Int} (hp : Byte p) (hq : Byte q) (hx : a.eval x = .string (strOfNums p)) (hy : a.eval y = .string (strOfNums q)) : At P ⟨dst, .binOp .geq t x y t', ty, pos, af, gg⟩ a w (.bool (!lxl p q)) := by
  rw [← less_sn hp hq]
  unfold At; generalize a.eval = ρ at *
  simp [execOp, hx, hy, binOp, Op.stringOp, eqGuard, go_sem]
end
section
variable {l : List Ent} {pre : Str} {i : Nat}
theorem walkL_under (h : l.length ≤ 120) : walkL l pre 120 = underL l pre := by
  unfold walkL; rw [if_neg (by decide), List.take_of_length_le]
  have := List.length_filter_le (fun e : Ent => decide (pre <+: e.1)) l
  unfold underL; show _ ≤ 120; omega
theorem underL_nil (l : List Ent) : underL l [] = l := by unfold underL; rw [List.filter_eq_self]; intro r _; simp
theorem walkL_all (h : l.length ≤ 120) : walkL l [] 120 = l := by rw [walkL_under h, underL_nil]
def ge9 (l : List Ent) (i : Nat) : Ent := l.getD i ([], [])
theorem ge9_split (h : i < l.length) : l = l.take i ++ ge9 l i :: l.drop (i + 1) := by
  conv => lhs; rw [← List.take_append_drop i l, List.drop_eq_getElem_cons h]
  unfold ge9; rw [List.getD_eq_getElem?_getD, List.getElem?_eq_getElem h]; rfl
theorem take_succ9 (h : i < l.length) : l.take (i + 1) = l.take i ++ [ge9 l i] := by
  rw [List.take_succ_eq_append_getElem h]; unfold ge9; rw [List.getD_eq_getElem?_getD, List.getElem?_eq_getElem h]; rfl
theorem under_t (h : i < l.length) (hp : pre <+: (ge9 l i).1) : (underL (l.take (i + 1)) pre).length = (underL (l.take i) pre).length + 1 := by
  rw [take_succ9 h]; unfold underL; rw [List.filter_append, List.length_append, List.filter_cons_of_pos (by simpa using hp)]; simp
theorem under_f (h : i < l.length) (hp : ¬ pre <+: (ge9 l i).1) : (underL (l.take (i + 1)) pre).length = (underL (l.take i) pre).length := by
  rw [take_succ9 h]; unfold underL; rw [List.filter_append, List.length_append, List.filter_cons_of_neg (by simpa using hp)]; simp
theorem under_at (h : i < l.length) (hp : pre <+: (ge9 l i).1) : (underL (l.take i) pre).length < (underL l pre).length ∧ ge9 (underL l pre) (underL (l.take i) pre).length = ge9 l i := by
  have e : underL l pre = underL (l.take i) pre ++ ge9 l i :: underL (l.drop (i + 1)) pre := by
    conv => lhs; rw [ge9_split h]
    unfold underL; rw [List.filter_append, List.filter_cons_of_pos (by simpa using hp)]
  rw [e]
  refine ⟨by simp only [List.length_append, List.length_cons]; omega, ?_⟩
  conv => lhs; unfold ge9
  rw [List.getD_eq_getElem?_getD, List.getElem?_append_right (Nat.le_refl _), Nat.sub_self]; rfl
theorem ge9_mem (h : i < l.length) : ge9 l i ∈ l := by
  unfold ge9; rw [List.getD_eq_getElem?_getD, List.getElem?_eq_getElem h]; exact List.getElem_mem h
theorem al_ge9 (hs : Sorted l) (h : i < l.length) : al l (ge9 l i).1 = some (ge9 l i).2 := al_of_mem hs.keys (ge9_mem h)
theorem ge9_lt (hs : Sorted l) (h0 : 0 < i) (h : i < l.length) : lxl (ge9 l (i - 1)).1 (ge9 l i).1 = true := gk_lt hs (by omega) h
theorem dec_pre {p k : Str} : decide (k.take (p.length : Int).toNat = p) = decide (p <+: k) := by
  rw [decide_eq_decide]
  constructor
  · intro h; rw [← h]; exact List.take_prefix _ _
  · intro h; exact (List.prefix_iff_eq_take.1 h).symm
theorem pre_short {p k : Str} (h : k.length < p.length) : false = decide (p <+: k) := by
  rw [eq_comm, decide_eq_false_iff_not]; intro h2; have := h2.length_le; omega
/-- Texts in a row. -/
def gsn (xs : List (List Int)) (i : Int) : List Int := xs.getD i.toNat []
theorem gsn_some {xs : List (List Int)} {i : Int} (h0 : 0 ≤ i) (h1 : i < xs.length) : xs[i.toNat]? = some (gsn xs i) := by
  have hi : i.toNat < xs.length := by omega
  simp [gsn, List.getD_eq_getElem?_getD, List.getElem?_eq_getElem hi]
theorem gsn_mem {xs : List (List Int)} {j : Nat} (h : j < xs.length) : gsn xs (j : Int) ∈ xs := List.mem_of_getElem? (gsn_some (xs := xs) (i := (j : Int)) (by omega) (by omega))
/-- However it came. -/
def InO (os : List Str) (i : Nat) (k : Str) : Prop := ∃ j : Nat, i ≤ j ∧ j < os.length ∧ gsn os (j : Int) = k
section
variable {l m : List Ent} {os : List Str} {i n : Nat}
theorem any_put0 (h : ∀ e ∈ m, InO os 0 e.1) (hi : i < os.length) (v : Str) : ∀ e ∈ putL m (gsn os (i : Int)) v, InO os 0 e.1 := by
  intro e he
  rcases (mem_putL e).1 he with rfl | ⟨h1, _⟩
  · exact ⟨i, Nat.zero_le _, hi, rfl⟩
  · exact h e h1
theorem any_put1 (h : ∀ e ∈ m, e ∈ l ∨ InO os 0 e.1) (hi : n < l.length) : ∀ e ∈ putL m (ge9 l n).1 (ge9 l n).2, e ∈ l ∨ InO os 0 e.1 := by
  intro e he
  rcases (mem_putL e).1 he with rfl | ⟨h1, _⟩
  · exact .inl (ge9_mem hi)
  · exact h e h1
theorem any_put2 (hs : Sorted l) (h : ∀ j, n + 1 ≤ j → j < l.length → ge9 l j ∈ m) (hi : n < l.length) : ∀ j, n ≤ j → j < l.length → ge9 l j ∈ putL m (ge9 l n).1 (ge9 l n).2 := by
  intro j h1 h2
  rw [mem_putL]
  by_cases h3 : j = n
  · subst h3; exact .inl rfl
  · refine .inr ⟨h j (by omega) h2, fun h4 => ?_⟩
    have h5 := gk_lt hs (i := n) (j := j) (by omega) h2
    exact lxl_ne h5 h4.symm
theorem any_full (h : ∀ j, 0 ≤ j → j < l.length → ge9 l j ∈ m) : ∀ e ∈ l, e ∈ m := by
  intro e he
  obtain ⟨j, hj, rfl⟩ := List.getElem_of_mem he
  have := h j (Nat.zero_le _) hj
  unfold ge9 at this
  rwa [List.getD_eq_getElem?_getD, List.getElem?_eq_getElem hj] at this
theorem any_skip (hA : ∀ e ∈ l, e ∈ m) (hm : Sorted m) (h : ∀ e ∈ m, e ∈ l ∨ InO os i e.1) (hi : i < os.length) (hk : (al l (gsn os (i : Int))).isSome = true) : ∀ e ∈ m, e ∈ l ∨ InO os (i + 1) e.1 := by
  intro e he
  rcases h e he with h1 | ⟨j, h1, h2, h3⟩
  · exact .inl h1
  · by_cases h4 : j = i
    · subst h4
      obtain ⟨v, hv⟩ := Option.isSome_iff_exists.1 hk
      have h5 := al_mem hv
      have h6 := hA _ h5
      obtain ⟨k, x⟩ := e
      dsimp only at h3
      subst h3
      have h7 : al m (gsn os (j : Int)) = some x := al_of_mem hm.keys he
      have h8 : al m (gsn os (j : Int)) = some v := al_of_mem hm.keys h6
      rw [h7] at h8; cases h8
      exact .inl h5
    · exact .inr ⟨j, by omega, h2, h3⟩
theorem any_drop1 (hA : ∀ e ∈ l, e ∈ m) (hk : ¬ (al l (gsn os (i : Int))).isSome = true) : ∀ e ∈ l, e ∈ dropL m (gsn os (i : Int)) := by
  intro e he
  refine (mem_dropL e).2 ⟨hA e he, fun h => hk ?_⟩
  cases h9 : al l (gsn os (i : Int)) with
  | some x => rfl
  | none => exact (al_none.1 h9 (by rw [← h]; exact List.mem_map_of_mem (f := (·.1)) he)).elim
theorem any_drop2 (h : ∀ e ∈ m, e ∈ l ∨ InO os i e.1) : ∀ e ∈ dropL m (gsn os (i : Int)), e ∈ l ∨ InO os (i + 1) e.1 := by
  intro e he
  obtain ⟨h1, h2⟩ := (mem_dropL e).1 he
  rcases h e h1 with h3 | ⟨j, h3, h4, h5⟩
  · exact .inl h3
  · exact .inr ⟨j, by rcases Nat.eq_or_lt_of_le h3 with rfl | h6; (· exact (h2 h5.symm).elim); (· omega), h4, h5⟩
theorem any_end (hl : Sorted l) (hm : Sorted m) (hA : ∀ e ∈ l, e ∈ m) (h : ∀ e ∈ m, e ∈ l ∨ InO os i e.1) (hi : os.length ≤ i) : m = l :=
  sorted_ext hm hl fun e => ⟨fun he => (h e he).elim id (fun ⟨j, h1, h2, _⟩ => by omega), hA e⟩
end
end
end Go.Proofs.Ytlcnoibjhmflnaa.Sx
