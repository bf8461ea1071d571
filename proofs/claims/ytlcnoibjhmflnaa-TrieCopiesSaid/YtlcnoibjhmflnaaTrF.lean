/- What the trie's laws and the document's answer need, plain; texts compared. -/
import Derived.Test.YtlcnoibjhmflnaaEch
set_option linter.unusedVariables false
set_option linter.unusedSimpArgs false
namespace Go.Proofs.Ytlcnoibjhmflnaa.Sx
open Go.RowKit
theorem bl_lxl : ∀ (xs ys : List Int), Byte xs → Byte ys → Op.bytesLess (xs.map fun n => UInt8.ofNat n.toNat) (ys.map fun n => UInt8.ofNat n.toNat) = lxl xs ys
  | [], [], _, _ => rfl
  | [], _ :: _, _, _ => rfl
  | _ :: _, [], _, _ => rfl
  | x :: xs, y :: ys, hx, hy => by
    have h1 := hx x (List.mem_cons_self ..)
    have h2 := hy y (List.mem_cons_self ..)
    have ih := bl_lxl xs ys (fun n hn => hx n (List.mem_cons_of_mem _ hn)) (fun n hn => hy n (List.mem_cons_of_mem _ hn))
    simp only [List.map_cons, Op.bytesLess, lxl, ih]
    have e1 : (decide (UInt8.ofNat x.toNat < UInt8.ofNat y.toNat)) = decide (x < y) := by
      rw [decide_eq_decide, UInt8.lt_iff_toNat_lt, UInt8.toNat_ofNat', UInt8.toNat_ofNat']; omega
    have e2 : (UInt8.ofNat x.toNat == UInt8.ofNat y.toNat) = decide (x = y) := by
      rw [Bool.eq_iff_iff, beq_iff_eq, decide_eq_true_eq, ← UInt8.toNat_inj, UInt8.toNat_ofNat', UInt8.toNat_ofNat']; omega
    rw [e1, e2]
section
variable {P : Program} {a : Act} {w : World} {dst : Option Tmp} {ty t t' : TypeId} {pos : String} {af : Array Edge} {gg : Option (Nat × Bool)} {x y : Operand}
theorem less_sn {p q : List Int} (hp : Byte p) (hq : Byte q) : Op.bytesLess (strOfNums p).toList (strOfNums q).toList = lxl p q := by
  rw [← bl_lxl p q hp hq, ← strOfNums_data, ← strOfNums_data, ByteArray.toList_eq, ByteArray.toList_eq]
theorem x_lssn {p q : List Int} (hp : Byte p) (hq : Byte q) (hx : a.eval x = .string (strOfNums p)) (hy : a.eval y = .string (strOfNums q)) : At P ⟨dst, .binOp .lss t x y t', ty, pos, af, gg⟩ a w (.bool (lxl p q)) := by
  rw [← less_sn hp hq]; exact x_lsss hx hy
theorem x_gesn {p q : List Int} (hp : Byte p) (hq : Byte q) (hx : a.eval x = .string (strOfNums p)) (hy : a.eval y = .string (strOfNums q)) : At P ⟨dst, .binOp .geq t x y t', ty, pos, af, gg⟩ a w (.bool (!lxl p q)) := by
  rw [← less_sn hp hq]
  unfold At; generalize a.eval = ρ at *
  simp [execOp, hx, hy, binOp, Op.stringOp, eqGuard, go_sem]
end
section
variable {l : List Ent} {pre : Str} {i : Nat}
theorem walkL_under (h : l.length ≤ 120) : walkL l pre 120 = underL l pre := by
  unfold walkL; rw [if_neg (by decide), List.take_of_length_le]
  have := List.length_filter_le (fun e : Ent => decide (pre <+: e.1)) l
  unfold underL; show _ ≤ 120; omega
theorem underL_nil (l : List Ent) : underL l [] = l := by unfold underL; rw [List.filter_eq_self]; intro r _; simp
theorem walkL_all (h : l.length ≤ 120) : walkL l [] 120 = l := by rw [walkL_under h, underL_nil]
def ge9 (l : List Ent) (i : Nat) : Ent := l.getD i ([], [])
theorem ge9_split (h : i < l.length) : l = l.take i ++ ge9 l i :: l.drop (i + 1) := by
  conv => lhs; rw [← List.take_append_drop i l, List.drop_eq_getElem_cons h]
  unfold ge9; rw [List.getD_eq_getElem?_getD, List.getElem?_eq_getElem h]; rfl
theorem take_succ9 (h : i < l.length) : l.take (i + 1) = l.take i ++ [ge9 l i] := by
  rw [List.take_succ_eq_append_getElem h]; unfold ge9; rw [List.getD_eq_getElem?_getD, List.getElem?_eq_getElem h]; rfl
theorem under_t (h : i < l.length) (hp : pre <+: (ge9 l i).1) : (underL (l.take (i + 1)) pre).length = (underL (l.take i) pre).length + 1 := by
  rw [take_succ9 h]; unfold underL; rw [List.filter_append, List.length_append, List.filter_cons_of_pos (by simpa using hp)]; simp
theorem under_f (h : i < l.length) (hp : ¬ pre <+: (ge9 l i).1) : (underL (l.take (i + 1)) pre).length = (underL (l.take i) pre).length := by
  rw [take_succ9 h]; unfold underL; rw [List.filter_append, List.length_append, List.filter_cons_of_neg (by simpa using hp)]; simp
theorem under_at (h : i < l.length) (hp : pre <+: (ge9 l i).1) : (underL (l.take i) pre).length < (underL l pre).length ∧ ge9 (underL l pre) (underL (l.take i) pre).length = ge9 l i := by
  have e : underL l pre = underL (l.take i) pre ++ ge9 l i :: underL (l.drop (i + 1)) pre := by
    conv => lhs; rw [ge9_split h]
    unfold underL; rw [List.filter_append, List.filter_cons_of_pos (by simpa using hp)]
  rw [e]
  refine ⟨by simp only [List.length_append, List.length_cons]; omega, ?_⟩
  conv => lhs; unfold ge9
  rw [List.getD_eq_getElem?_getD, List.getElem?_append_right (Nat.le_refl _), Nat.sub_self]; rfl
theorem ge9_mem (h : i < l.length) : ge9 l i ∈ l := by
  unfold ge9; rw [List.getD_eq_getElem?_getD, List.getElem?_eq_getElem h]; exact List.getElem_mem h
theorem al_ge9 (hs : Sorted l) (h : i < l.length) : al l (ge9 l i).1 = some (ge9 l i).2 := al_of_mem hs.keys (ge9_mem h)
theorem ge9_lt (hs : Sorted l) (h0 : 0 < i) (h : i < l.length) : lxl (ge9 l (i - 1)).1 (ge9 l i).1 = true := gk_lt hs (by omega) h
theorem dec_pre {p k : Str} : decide (k.take (p.length : Int).toNat = p) = decide (p <+: k) := by
  rw [decide_eq_decide]
  constructor
  · intro h; rw [← h]; exact List.take_prefix _ _
  · intro h; exact (List.prefix_iff_eq_take.1 h).symm
theorem pre_short {p k : Str} (h : k.length < p.length) : false = decide (p <+: k) := by
  rw [eq_comm, decide_eq_false_iff_not]; intro h2; have := h2.length_le; omega
end
end Go.Proofs.Ytlcnoibjhmflnaa.Sx
