/- A row of bytes sorted in place: the laws over a row known by its value's name; what the kit's plain functions say of it. -/
import Derived.Test.YtlcnoibjhmflnaaSto
import Derived.Test.YtlcnoibjhmflnaaTrA
import Derived.Test.YtlcnoibjhmflnaaCodD
import Derived.Sort.AssemblyPlain
set_option linter.unusedVariables false
set_option linter.unusedSimpArgs false
namespace Go.Proofs.Ytlcnoibjhmflnaa.Sx
open Go.RowKit Go.Sort
/-- So many bytes at most are sorted. -/
def kmax : Nat := 900
def vA : Value → Option Addr | .slice A _ _ => A | _ => none
def vC : Value → Nat | .slice _ _ c => c | _ => 0
section
variable {P : Program} {a : Act} {w w0 w' : World} {K : Act → World → Prop} {Q : Exit → Act → World → Prop} {v u z : Value} {B : Nat → Prop} {H : List (Nat × Asn)} {dst : Option Tmp} {ty : TypeId} {pos : String} {af : Array Edge} {x y : Operand} {t e : TypeId} {n d : Nat} {by' : Nat} {ag : Bool} {gg : Option (Nat × Bool)} {xs : List Int} {ok : Nat → Prop} {T : TypeId} {i : Int} {k : IntKind}
abbrev RB : Rep Int := .int .u8
theorem Row.eqV (h : Row RB T w ok v xs) : v = .slice (vA v) xs.length (vC v) := by obtain ⟨A, c, rfl⟩ := h.form; rfl
theorem Row.rdV (h : Row RB T w ok v xs) : Rd RB w (fun kb => ok kb ∨ v.ownBlock = some kb) (vA v) xs (vC v) := by
  obtain ⟨A, c, rfl⟩ := h.form
  exact h.rd (fun k hk _ => .inl hk) (fun k hk => .inr hk)
theorem x_iaddrV (ht : P.underlying t = some (.slice e)) (h : TyI P e z 1 by' ag) (hr : Row RB T w ok v xs) (hx : a.eval x = v) (hy : a.eval y = .int k i) (h0 : 0 ≤ i) (h1 : i < xs.length) (w2 : World) :
    At P ⟨dst, .indexAddr t x y, ty, pos, af, gg⟩ a w2 (.pointer (some (adr (vA v) (i.toNat * 1)))) :=
  x_iaddr_A ht h hr.rdV (hx.trans hr.eqV) hy h0 h1 w2
theorem x_lenV {A : Option Addr} (hr : Row RB T w ok v xs) (ht : P.underlying t = some (.slice e)) (hx : a.eval x = v) : At P ⟨dst, .call ⟨.builtin .len, #[x], #[t]⟩, ty, pos, af, gg⟩ a w (.int .i64 xs.length) :=
  x_len_slice ht (hx.trans hr.eqV)
theorem w_setV (l : Nat) (j : Nat) (y' : Int) (hH : Hp B w0 w H) (h : TyI P t z 1 by' ag) (hl : get H l = some (.row RB T v xs (fun _ => False))) (hj : j < xs.length)
    (hx : a.eval x = .pointer (some (adr (vA v) (j * 1)))) (hy : a.eval y = .int .u8 y')
    (k' : ∀ w', Hp B w0 w' ((l, .row RB T v (xs.set j y') (fun _ => False)) :: H) → K a w') : Oper.wp P ⟨Option.none, .store t x y, ty, pos, af, gg⟩ a w K Q := by
  obtain ⟨A, c, hv⟩ := (hH.row l hl).form
  subst hv
  exact w_storeEl (E := RB) l j 0 (x0 := gi xs (j : Int)) y' (fun _ => False) hH h hl (gi_some (i := (j : Int)) (by omega) (by omega)) hx hy rfl (one1 rfl rfl) (by decide) (fun cs hcs => by rw [show cs = _ from hcs]; rfl) (fun _ h => h) (fun _ h => h.elim) k'
end
section
variable {d dk : Array Int} {i j la lb : Nat}
theorem gi_arr (d : Array Int) (i : Nat) : gi d.toList (i : Int) = d[i]! := by
  unfold gi
  rw [Int.toNat_natCast, List.getD_eq_getElem?_getD, Array.getElem?_toList, Array.getElem!_eq_getD, Array.getD_eq_getD_getElem?]; rfl
theorem swp_list (d : Array Int) (i j : Nat) : (d.toList.set i (gi d.toList (j : Int))).set j (gi d.toList (i : Int)) = (swp d i j).toList := by
  unfold swp
  rw [gi_arr, gi_arr, Array.toList_setIfInBounds, Array.toList_setIfInBounds]
theorem swp_comm (d : Array Int) (i j : Nat) : swp d i j = swp d j i := by
  apply Array.ext_getElem?
  intro p
  unfold swp
  simp only [Array.getElem?_setIfInBounds, Array.size_setIfInBounds]
  by_cases h1 : i = p <;> by_cases h2 : j = p
  · subst h1; subst h2; simp
  · subst h1; simp [h2]
  · subst h2; simp [h1]
  · simp [h1, h2]
theorem swp_size (d : Array Int) (i j : Nat) : (swp d i j).size = d.size := by unfold swp; simp
theorem ins_step (h : la < j) (hl : gi d.toList (j : Int) < gi d.toList ((j - 1 : Nat) : Int)) : insInner ltInt la (j - 1) (swp d j (j - 1)) = insInner ltInt la j d := by
  cases j with
  | zero => omega
  | succ j =>
    rw [gi_arr, gi_arr] at hl
    rw [Nat.add_sub_cancel] at hl ⊢
    conv => rhs; unfold insInner
    rw [if_pos (by simp only [ltInt, Bool.and_eq_true, decide_eq_true_eq]; exact ⟨h, hl⟩)]
theorem ins_stop1 (h : ¬ la < j) : insInner ltInt la j d = d := by
  cases j with
  | zero => rfl
  | succ j => unfold insInner; rw [if_neg (by simp only [Bool.and_eq_true, decide_eq_true_eq]; exact fun h2 => h h2.1)]
theorem ins_stop2 (hl : ¬ gi d.toList (j : Int) < gi d.toList ((j - 1 : Nat) : Int)) : insInner ltInt la j d = d := by
  cases j with
  | zero => rfl
  | succ j =>
    rw [gi_arr, gi_arr, Nat.add_sub_cancel] at hl
    unfold insInner
    rw [if_neg (by simp only [ltInt, Bool.and_eq_true, decide_eq_true_eq]; exact fun h2 => hl h2.2)]
theorem ins_outer (h : i < lb) : insOuter ltInt la lb i d = insOuter ltInt la lb (i + 1) (insInner ltInt la i d) := by
  conv => lhs; unfold insOuter
  rw [if_pos h]
theorem ins_done (h : ¬ i < lb) : insOuter ltInt la lb i d = d := by unfold insOuter; rw [if_neg h]
theorem ltI_irr : SWO ltInt := swo_ltInt
/-- What a sort leaves: the same bytes in order. -/
def sortB (xs : List Int) : List Int := xs.mergeSort fun x y => decide (x ≤ y)
theorem sorted_sortB (d d' : Array Int) (h : PermIn 0 d.size d d') (hs : SortedIn ltInt 0 d.size d') : d'.toList = sortB d.toList := by
  have := sorted_unique_holds swo_ltInt (fun x y h1 h2 => by simp only [ltInt, decide_eq_false_iff_not] at h1 h2; omega) d d' h hs
  rw [this]
  unfold sortB
  congr 1
  funext x y
  simp only [ltInt]
  rw [Bool.eq_iff_iff]; simp
theorem sortB_perm (xs : List Int) : (sortB xs).Perm xs := List.mergeSort_perm _ _
theorem sortB_of_perm {xs ys : List Int} (h : xs.Perm ys) : sortB xs = sortB ys := by
  unfold sortB
  refine List.Perm.eq_of_pairwise (le := fun x y => x ≤ y) ?_ ?_ ?_ ((List.mergeSort_perm _ _).trans (h.trans (List.mergeSort_perm _ _).symm))
  · intro a b _ _ h1 h2; omega
  · have := List.pairwise_mergeSort (le := fun x y : Int => decide (x ≤ y)) (fun a b c => by simp; omega) (fun a b => by simp; omega) xs
    exact this.imp (by simp)
  · have := List.pairwise_mergeSort (le := fun x y : Int => decide (x ≤ y)) (fun a b c => by simp; omega) (fun a b => by simp; omega) ys
    exact this.imp (by simp)
theorem sortB_lt {xs : List Int} (h : xs.Nodup) : (sortB xs).Pairwise (· < ·) := by
  have h1 := List.pairwise_mergeSort (le := fun x y : Int => decide (x ≤ y)) (fun a b c => by simp; omega) (fun a b => by simp; omega) xs
  have h2 : (sortB xs).Nodup := (sortB_perm xs).nodup_iff.2 h
  rw [List.nodup_iff_pairwise_ne] at h2
  exact (h1.and h2).imp fun ⟨h3, h4⟩ => by simp at h3; omega
end
theorem fdiv_nat2 (x y : Nat) (hy : 0 < y) : (x : Int).fdiv (y : Int) = ((x / y : Nat) : Int) := by rw [Int.fdiv_eq_ediv_of_nonneg _ (by omega)]; rfl
theorem shq32 (x : Nat) : (x : Int).fdiv (2 ^ (min (Int.toNat 32) 64)) = ((x / 4294967296 : Nat) : Int) := by
  rw [show (2 : Int) ^ (min (Int.toNat 32) 64) = ((4294967296 : Nat) : Int) by decide, fdiv_nat2 _ _ (by decide)]
theorem shq16 (x : Nat) : (x : Int).fdiv (2 ^ (min (Int.toNat 16) 64)) = ((x / 65536 : Nat) : Int) := by
  rw [show (2 : Int) ^ (min (Int.toNat 16) 64) = ((65536 : Nat) : Int) by decide, fdiv_nat2 _ _ (by decide)]
theorem shq8 (x : Nat) : (x : Int).fdiv (2 ^ (min (Int.toNat 8) 64)) = ((x / 256 : Nat) : Int) := by
  rw [show (2 : Int) ^ (min (Int.toNat 8) 64) = ((256 : Nat) : Int) by decide, fdiv_nat2 _ _ (by decide)]
def EncB (w : World) (x : Int) (args : Array Value) (rdY : Nat → Prop) : Prop := args = #[.int .u8 x] ∧ ∀ k, rdY k → False
theorem keysB_step {m rest r1 r2 : List (Int × Nat)} {p : Int × Nat} {pre : List Int} (hr : rest = r1 ++ p :: r2) (h : (pre ++ rest.map (·.1)).Perm (m.map (·.1))) : ((pre ++ [p.1]) ++ (r1 ++ r2).map (·.1)).Perm (m.map (·.1)) := by
  subst hr
  refine List.Perm.trans ?_ h
  rw [List.append_assoc]
  refine List.Perm.append_left pre ?_
  simp only [List.map_append, List.map_cons]
  exact (List.perm_middle (a := p.1) (l₁ := r1.map (·.1)) (l₂ := r2.map (·.1))).symm
end Go.Proofs.Ytlcnoibjhmflnaa.Sx
