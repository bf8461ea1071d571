/- The walks of requests. -/
import Derived.Test.YtiiklnghnifmjaaDoorChgAZu
import Derived.Test.YtiiklnghnifmjaaDoorCrcXZu
import Derived.Test.YtiiklnghnifmjaaDoorSesDZu
import Derived.Test.YtiiklnghnifmjaaDoorSeqZu
set_option linter.unusedVariables false
set_option linter.unusedSimpArgs false
namespace Go.Proofs.YtiiklnghnifmjaaDoor.Act
open Go.RowKit Go.Proofs.YtiiklnghnifmjaaDoor.Sx Go.Proofs.YtiiklnghnifmjaaDoor.Cod Go.Proofs.YtiiklnghnifmjaaDoor.Num
theorem ty43 : TyI Tryd.prog 43 (.slice none 0 0) 1 24 false := ⟨by kernel_rfl, _, Tryd.underlying43, rfl⟩
theorem ty45 : TyI Tryd.prog 45 (.agg #[.string (strOfNums []), .int .i64 0, .slice none 0 0]) 3 48 true := ⟨by kernel_rfl, _, Tryd.underlying45, rfl⟩
theorem ty50 : TyI Tryd.prog 50 (.int .i64 0) 1 8 false := ⟨by kernel_rfl, _, Tryd.underlying50, rfl⟩
theorem ty55 : TyI Tryd.prog 55 (.agg #[.int .i64 0, .string (strOfNums []), .int .i64 0, .string (strOfNums []), .string (strOfNums []), .int .i64 0, .string (strOfNums []), .int .i64 0, .int .u64 0, .int .u64 0, .slice none 0 0]) 11 136 true := ⟨by kernel_rfl, _, Tryd.underlying55, rfl⟩
set_option maxRecDepth 100000 in
theorem st_eqD {w : World} {x y : StepD} (hx0 : Byte x.2.1) (hy0 : Byte y.2.1) (hx1 : Byte x.2.2.1) (hy1 : Byte y.2.2.1) : (Op.eqFields 9999 #[.int .i64 x.1, .string (strOfNums x.2.1), .string (strOfNums x.2.2.1), .int .i64 x.2.2.2] #[.int .i64 y.1, .string (strOfNums y.2.1), .string (strOfNums y.2.2.1), .int .i64 y.2.2.2] (Tryd.prog.fieldsOf 53).toList).run Tryd.prog w = .ok (decide (x = y)) w := by
 have key : (x = y) = (x.1 = y.1 ∧ x.2.1 = y.2.1 ∧ x.2.2.1 = y.2.2.1 ∧ x.2.2.2 = y.2.2.2) := propext (by obtain ⟨x0, x1, x2, x3⟩ := x; obtain ⟨y0, y1, y2, y3⟩ := y; simp)
 have key2 : decide (x = y) = decide (x.1 = y.1 ∧ x.2.1 = y.2.1 ∧ x.2.2.1 = y.2.2.1 ∧ x.2.2.2 = y.2.2.2) := by simp only [key]
 rw [key2]
 simp only [Program.fieldsOf, Tryd.underlying53]
 simp [Op.eqFields, part, go_sem, tl_eq]
 have hs0 : (strOfNums x.2.1 = strOfNums y.2.1) = (x.2.1 = y.2.1) := propext ⟨sn_inj _ _ hx0 hy0, fun h => by rw [h]⟩
 have hs1 : (strOfNums x.2.2.1 = strOfNums y.2.2.1) = (x.2.2.1 = y.2.2.1) := propext ⟨sn_inj _ _ hx1 hy1, fun h => by rw [h]⟩
 simp only [hs0, hs1]
 by_cases h0 : x.1 = y.1 <;> by_cases h1 : x.2.1 = y.2.1 <;> by_cases h2 : x.2.2.1 = y.2.2.1 <;> by_cases h3 : x.2.2.2 = y.2.2.2 <;> simp [h0, h1, h2, h3]
theorem st_eqs {dst : Option Tmp} {ty t' : TypeId} {pos : String} {af : Array Edge} {gg : Option (Nat × Bool)} {a : Act} {w : World} {u v : Operand} {x y : StepD} (hx0 : Byte x.2.1) (hy0 : Byte y.2.1) (hx1 : Byte x.2.2.1) (hy1 : Byte y.2.2.1) (hu : a.eval u = .agg #[.int .i64 x.1, .string (strOfNums x.2.1), .string (strOfNums x.2.2.1), .int .i64 x.2.2.2]) (hv : a.eval v = .agg #[.int .i64 y.1, .string (strOfNums y.2.1), .string (strOfNums y.2.2.1), .int .i64 y.2.2.2]) : At Tryd.prog ⟨dst, .binOp .eql 53 u v t', ty, pos, af, gg⟩ a w (.bool (decide (x = y))) :=
 x_eqS (by kernel_rfl) (by kernel_rfl) (by kernel_rfl) hu hv (st_eqD hx0 hy0 hx1 hy1)
theorem st_nes {dst : Option Tmp} {ty t' : TypeId} {pos : String} {af : Array Edge} {gg : Option (Nat × Bool)} {a : Act} {w : World} {u v : Operand} {x y : StepD} (hx0 : Byte x.2.1) (hy0 : Byte y.2.1) (hx1 : Byte x.2.2.1) (hy1 : Byte y.2.2.1) (hu : a.eval u = .agg #[.int .i64 x.1, .string (strOfNums x.2.1), .string (strOfNums x.2.2.1), .int .i64 x.2.2.2]) (hv : a.eval v = .agg #[.int .i64 y.1, .string (strOfNums y.2.1), .string (strOfNums y.2.2.1), .int .i64 y.2.2.2]) : At Tryd.prog ⟨dst, .binOp .neq 53 u v t', ty, pos, af, gg⟩ a w (.bool (!decide (x = y))) :=
 x_neS (by kernel_rfl) (by kernel_rfl) (by kernel_rfl) hu hv (st_eqD hx0 hy0 hx1 hy1)
set_option maxRecDepth 100000 in
set_option maxHeartbeats 1000000 in
theorem obare_calls (w0 : World) {t : TimerD} {okt0 : Nat → Prop} {At0 : Option Addr} {ct0 : Nat} (hrt0 : Rd StE w0 okt0 At0 t.steps ct0) : Calls Tryd.prog 58 #[.agg #[.string (strOfNums t.name), .int .i64 t.ver, .int .u64 t.tick, .int .u64 t.every, .slice At0 t.steps.length ct0]] w0 fun e w' => e = .returned (.bool (bareT t)) ∧ Mods (fun _ => False) w0 w' := by
 refine calls_of_wp Tryd.func58 rfl ?_
 have hF := Fr.enter #[.agg #[.string (strOfNums t.name), .int .i64 t.ver, .int .u64 t.tick, .int .u64 t.every, .slice At0 t.steps.length ct0]] 27 (slotsOf [.agg #[.string (strOfNums t.name), .int .i64 t.ver, .int .u64 t.tick, .int .u64 t.every, .slice At0 t.steps.length ct0]] 0) (Nat.le_of_ble_eq_true rfl) (fun i v h => by have h2 := (get_slotsOf _ 0 i v h).2; simpa only [List.getElem?_toArray, Nat.sub_zero] using h2)
 have hH := Hp.nil (fun _ => False) w0
 rw [Tryd.ntmps58]
 revert hF; generalize (⟨(#[.agg #[.string (strOfNums t.name), .int .i64 t.ver, .int .u64 t.tick, .int .u64 t.every, .slice At0 t.steps.length ct0]] : Array Value) ++ Array.replicate (27 - (#[.agg #[.string (strOfNums t.name), .int .i64 t.ver, .int .u64 t.tick, .int .u64 t.every, .slice At0 t.steps.length ct0]] : Array Value).size) undef, []⟩ : Act) = a; intro hF
 have hH := hH.arg 900 hrt0.all (fun _ h => ⟨h, fun h => h⟩)
 have hlet0 := hrt0.le; unfold maxLen at hlet0
 refine wp_seq_k fun khK1 hK1 => ?_
 refine wp_region_lit ?_
 refine wpList_plain rfl fun K hK => ?_
 refine w_box 1 hF hH rfl (hF.tmp 0 rfl) ?_
 clear hF hH; intro a w b1 hF hH
 refine hK _ _ ?_; clear hK K
 refine l_at hF rfl rfl rfl (x_assign rfl) ?_; clear hF; intro a hF
 refine wpList_nil ?_
 refine hK1 _ _ ?_
 refine wp_seq_k fun khK2 hK2 => ?_
 refine wp_region_lit ?_
 refine l_at hF rfl rfl rfl (x_faddr Tryd.underlying39 rfl ty9 (by decide) (hF.tmp 1 rfl) rfl) ?_; clear hF; intro a hF
 refine l_at hF rfl rfl rfl (x_load1 ty9 (hF.tmp 3 rfl) (blk_cell (hH.at 1 rfl) 0 rfl)) ?_; clear hF; intro a hF
 refine l_at hF rfl rfl rfl (x_eqn0 (xs := t.name) (hF.tmp 4 rfl) (show _ = Value.string (strOfNums ([] : List Int)) by kernel_rfl)) ?_; clear hF; intro a hF
 refine l_at hF rfl rfl rfl (x_move (hF.tmp 5 rfl)) ?_; clear hF; intro a hF
 refine split_bool hF 6 rfl (fun hb6 => ?_) (fun hb6 => ?_)
 ·have hc6 := hb6; try simp only [Bool.or_eq_true, Bool.and_eq_true, Bool.or_eq_false_iff, Bool.and_eq_false_iff, Bool.not_eq_true', Bool.not_eq_false', decide_eq_true_eq, decide_eq_false_iff_not, Bool.not_true, Bool.not_false] at hc6
  refine l_atg hF ((wanted_of hF rfl rfl rfl rfl).trans (by rw [hb6]; rfl)) rfl rfl (x_faddr Tryd.underlying39 rfl ty3 (by decide) (hF.tmp 1 rfl) rfl) ?_; clear hF; intro a hF
  refine l_atg hF ((wanted_of hF rfl rfl rfl rfl).trans (by rw [hb6]; rfl)) rfl rfl (x_load1 ty3 (hF.tmp 7 rfl) (blk_cell (hH.at 1 rfl) 1 rfl)) ?_; clear hF; intro a hF
  refine l_atg hF ((wanted_of hF rfl rfl rfl rfl).trans (by rw [hb6]; rfl)) rfl rfl (x_eql (hF.tmp 8 rfl) rfl) ?_; clear hF; intro a hF
  refine l_at hF rfl rfl rfl (x_pickT (hF.tmp 6 rfl) hb6 (hF.tmp 9 rfl)) ?_; clear hF; intro a hF
  refine l_at hF rfl rfl rfl (x_move (hF.tmp 10 rfl)) ?_; clear hF; intro a hF
  refine split_bool hF 11 rfl (fun hb11 => ?_) (fun hb11 => ?_)
  ·have hc11 := hb11; try simp only [Bool.or_eq_true, Bool.and_eq_true, Bool.or_eq_false_iff, Bool.and_eq_false_iff, Bool.not_eq_true', Bool.not_eq_false', decide_eq_true_eq, decide_eq_false_iff_not, Bool.not_true, Bool.not_false] at hc11
   refine l_atg hF ((wanted_of hF rfl rfl rfl rfl).trans (by rw [hb11]; rfl)) rfl rfl (x_faddr Tryd.underlying39 rfl ty34 (by decide) (hF.tmp 1 rfl) rfl) ?_; clear hF; intro a hF
   refine l_atg hF ((wanted_of hF rfl rfl rfl rfl).trans (by rw [hb11]; rfl)) rfl rfl (x_load1 ty34 (hF.tmp 12 rfl) (blk_cell (hH.at 1 rfl) 2 rfl)) ?_; clear hF; intro a hF
   refine l_atg hF ((wanted_of hF rfl rfl rfl rfl).trans (by rw [hb11]; rfl)) rfl rfl (x_eql (hF.tmp 13 rfl) rfl) ?_; clear hF; intro a hF
   refine l_at hF rfl rfl rfl (x_pickT (hF.tmp 11 rfl) hb11 (hF.tmp 14 rfl)) ?_; clear hF; intro a hF
   refine l_at hF rfl rfl rfl (x_move (hF.tmp 15 rfl)) ?_; clear hF; intro a hF
   refine split_bool hF 16 rfl (fun hb16 => ?_) (fun hb16 => ?_)
   ·have hc16 := hb16; try simp only [Bool.or_eq_true, Bool.and_eq_true, Bool.or_eq_false_iff, Bool.and_eq_false_iff, Bool.not_eq_true', Bool.not_eq_false', decide_eq_true_eq, decide_eq_false_iff_not, Bool.not_true, Bool.not_false] at hc16
    refine l_atg hF ((wanted_of hF rfl rfl rfl rfl).trans (by rw [hb16]; rfl)) rfl rfl (x_faddr Tryd.underlying39 rfl ty34 (by decide) (hF.tmp 1 rfl) rfl) ?_; clear hF; intro a hF
    refine l_atg hF ((wanted_of hF rfl rfl rfl rfl).trans (by rw [hb16]; rfl)) rfl rfl (x_load1 ty34 (hF.tmp 17 rfl) (blk_cell (hH.at 1 rfl) 3 rfl)) ?_; clear hF; intro a hF
    refine l_atg hF ((wanted_of hF rfl rfl rfl rfl).trans (by rw [hb16]; rfl)) rfl rfl (x_eql (hF.tmp 18 rfl) rfl) ?_; clear hF; intro a hF
    refine l_at hF rfl rfl rfl (x_pickT (hF.tmp 16 rfl) hb16 (hF.tmp 19 rfl)) ?_; clear hF; intro a hF
    refine l_at hF rfl rfl rfl (x_move (hF.tmp 20 rfl)) ?_; clear hF; intro a hF
    refine split_bool hF 21 rfl (fun hb21 => ?_) (fun hb21 => ?_)
    ·have hc21 := hb21; try simp only [Bool.or_eq_true, Bool.and_eq_true, Bool.or_eq_false_iff, Bool.and_eq_false_iff, Bool.not_eq_true', Bool.not_eq_false', decide_eq_true_eq, decide_eq_false_iff_not, Bool.not_true, Bool.not_false] at hc21
     refine l_atg hF ((wanted_of hF rfl rfl rfl rfl).trans (by rw [hb21]; rfl)) rfl rfl (x_faddr Tryd.underlying39 rfl ty37 (by decide) (hF.tmp 1 rfl) rfl) ?_; clear hF; intro a hF
     refine l_atg hF ((wanted_of hF rfl rfl rfl rfl).trans (by rw [hb21]; rfl)) rfl rfl (x_load1 ty37 (hF.tmp 22 rfl) (blk_cell (hH.at 1 rfl) 4 rfl)) ?_; clear hF; intro a hF
     refine l_atg hF ((wanted_of hF rfl rfl rfl rfl).trans (by rw [hb21]; rfl)) rfl rfl (x_len_slice Tryd.underlying37 (hF.tmp 23 rfl)) ?_; clear hF; intro a hF
     refine l_atg hF ((wanted_of hF rfl rfl rfl rfl).trans (by rw [hb21]; rfl)) rfl rfl (x_eql (hF.tmp 24 rfl) rfl) ?_; clear hF; intro a hF
     refine l_at hF rfl rfl rfl (x_pickT (hF.tmp 21 rfl) hb21 (hF.tmp 25 rfl)) ?_; clear hF; intro a hF
     refine l_at hF rfl rfl rfl (x_assign (hF.tmp 26 rfl)) ?_; clear hF; intro a hF
     refine wpList_nil ?_
     refine hK2 _ _ ?_
     refine wp_ret ?_
     try simp only [Exit.then, Exit.inBlock]
     refine fin_ret hF (res1 (v := .bool (decide ((t.steps.length : Int) = 0))) hF rfl rfl) ⟨?_, hH.mods⟩
     congr 2; unfold bareT; first | (simp [hc6, hc11, hc16, hc21]; done) | (simp [hc6, hc11, hc16, hc21]; omega) | (simp [hc6, hc11, hc16, hc21]; intros; omega) | (rw [Bool.eq_iff_iff]; simp [hc6, hc11, hc16, hc21]; first | omega | (intros; omega))
    ·have hc21 := hb21; try simp only [Bool.or_eq_true, Bool.and_eq_true, Bool.or_eq_false_iff, Bool.and_eq_false_iff, Bool.not_eq_true', Bool.not_eq_false', decide_eq_true_eq, decide_eq_false_iff_not, Bool.not_true, Bool.not_false] at hc21
     refine l_offg hF ((wanted_of hF rfl rfl rfl rfl).trans (by rw [hb21]; rfl)) rfl rfl ?_; clear hF; intro a hF
     refine l_offg hF ((wanted_of hF rfl rfl rfl rfl).trans (by rw [hb21]; rfl)) rfl rfl ?_; clear hF; intro a hF
     refine l_offg hF ((wanted_of hF rfl rfl rfl rfl).trans (by rw [hb21]; rfl)) rfl rfl ?_; clear hF; intro a hF
     refine l_offg hF ((wanted_of hF rfl rfl rfl rfl).trans (by rw [hb21]; rfl)) rfl rfl ?_; clear hF; intro a hF
     refine l_at hF rfl rfl rfl (x_pickF (hF.tmp 21 rfl) hb21 rfl) ?_; clear hF; intro a hF
     refine l_at hF rfl rfl rfl (x_assign (hF.tmp 26 rfl)) ?_; clear hF; intro a hF
     refine wpList_nil ?_
     refine hK2 _ _ ?_
     refine wp_ret ?_
     try simp only [Exit.then, Exit.inBlock]
     refine fin_ret hF (res1 (v := .bool false) hF rfl rfl) ⟨?_, hH.mods⟩
     congr 2; unfold bareT; first | (simp [hc6, hc11, hc16, hc21]; done) | (simp [hc6, hc11, hc16, hc21]; omega) | (simp [hc6, hc11, hc16, hc21]; intros; omega) | (rw [Bool.eq_iff_iff]; simp [hc6, hc11, hc16, hc21]; first | omega | (intros; omega))
   ·have hc16 := hb16; try simp only [Bool.or_eq_true, Bool.and_eq_true, Bool.or_eq_false_iff, Bool.and_eq_false_iff, Bool.not_eq_true', Bool.not_eq_false', decide_eq_true_eq, decide_eq_false_iff_not, Bool.not_true, Bool.not_false] at hc16
    refine l_offg hF ((wanted_of hF rfl rfl rfl rfl).trans (by rw [hb16]; rfl)) rfl rfl ?_; clear hF; intro a hF
    refine l_offg hF ((wanted_of hF rfl rfl rfl rfl).trans (by rw [hb16]; rfl)) rfl rfl ?_; clear hF; intro a hF
    refine l_offg hF ((wanted_of hF rfl rfl rfl rfl).trans (by rw [hb16]; rfl)) rfl rfl ?_; clear hF; intro a hF
    refine l_at hF rfl rfl rfl (x_pickF (hF.tmp 16 rfl) hb16 rfl) ?_; clear hF; intro a hF
    refine l_at hF rfl rfl rfl (x_move (hF.tmp 20 rfl)) ?_; clear hF; intro a hF
    refine l_offg hF ((wanted_of hF rfl rfl rfl rfl).trans rfl) rfl rfl ?_; clear hF; intro a hF
    refine l_offg hF ((wanted_of hF rfl rfl rfl rfl).trans rfl) rfl rfl ?_; clear hF; intro a hF
    refine l_offg hF ((wanted_of hF rfl rfl rfl rfl).trans rfl) rfl rfl ?_; clear hF; intro a hF
    refine l_offg hF ((wanted_of hF rfl rfl rfl rfl).trans rfl) rfl rfl ?_; clear hF; intro a hF
    refine l_at hF rfl rfl rfl (x_pickF (hF.tmp 21 rfl) rfl rfl) ?_; clear hF; intro a hF
    refine l_at hF rfl rfl rfl (x_assign (hF.tmp 26 rfl)) ?_; clear hF; intro a hF
    refine wpList_nil ?_
    refine hK2 _ _ ?_
    refine wp_ret ?_
    try simp only [Exit.then, Exit.inBlock]
    refine fin_ret hF (res1 (v := .bool false) hF rfl rfl) ⟨?_, hH.mods⟩
    congr 2; unfold bareT; first | (simp [hc6, hc11, hc16]; done) | (simp [hc6, hc11, hc16]; omega) | (simp [hc6, hc11, hc16]; intros; omega) | (rw [Bool.eq_iff_iff]; simp [hc6, hc11, hc16]; first | omega | (intros; omega))
  ·have hc11 := hb11; try simp only [Bool.or_eq_true, Bool.and_eq_true, Bool.or_eq_false_iff, Bool.and_eq_false_iff, Bool.not_eq_true', Bool.not_eq_false', decide_eq_true_eq, decide_eq_false_iff_not, Bool.not_true, Bool.not_false] at hc11
   refine l_offg hF ((wanted_of hF rfl rfl rfl rfl).trans (by rw [hb11]; rfl)) rfl rfl ?_; clear hF; intro a hF
   refine l_offg hF ((wanted_of hF rfl rfl rfl rfl).trans (by rw [hb11]; rfl)) rfl rfl ?_; clear hF; intro a hF
   refine l_offg hF ((wanted_of hF rfl rfl rfl rfl).trans (by rw [hb11]; rfl)) rfl rfl ?_; clear hF; intro a hF
   refine l_at hF rfl rfl rfl (x_pickF (hF.tmp 11 rfl) hb11 rfl) ?_; clear hF; intro a hF
   refine l_at hF rfl rfl rfl (x_move (hF.tmp 15 rfl)) ?_; clear hF; intro a hF
   refine l_offg hF ((wanted_of hF rfl rfl rfl rfl).trans rfl) rfl rfl ?_; clear hF; intro a hF
   refine l_offg hF ((wanted_of hF rfl rfl rfl rfl).trans rfl) rfl rfl ?_; clear hF; intro a hF
   refine l_offg hF ((wanted_of hF rfl rfl rfl rfl).trans rfl) rfl rfl ?_; clear hF; intro a hF
   refine l_at hF rfl rfl rfl (x_pickF (hF.tmp 16 rfl) rfl rfl) ?_; clear hF; intro a hF
   refine l_at hF rfl rfl rfl (x_move (hF.tmp 20 rfl)) ?_; clear hF; intro a hF
   refine l_offg hF ((wanted_of hF rfl rfl rfl rfl).trans rfl) rfl rfl ?_; clear hF; intro a hF
   refine l_offg hF ((wanted_of hF rfl rfl rfl rfl).trans rfl) rfl rfl ?_; clear hF; intro a hF
   refine l_offg hF ((wanted_of hF rfl rfl rfl rfl).trans rfl) rfl rfl ?_; clear hF; intro a hF
   refine l_offg hF ((wanted_of hF rfl rfl rfl rfl).trans rfl) rfl rfl ?_; clear hF; intro a hF
   refine l_at hF rfl rfl rfl (x_pickF (hF.tmp 21 rfl) rfl rfl) ?_; clear hF; intro a hF
   refine l_at hF rfl rfl rfl (x_assign (hF.tmp 26 rfl)) ?_; clear hF; intro a hF
   refine wpList_nil ?_
   refine hK2 _ _ ?_
   refine wp_ret ?_
   try simp only [Exit.then, Exit.inBlock]
   refine fin_ret hF (res1 (v := .bool false) hF rfl rfl) ⟨?_, hH.mods⟩
   congr 2; unfold bareT; first | (simp [hc6, hc11]; done) | (simp [hc6, hc11]; omega) | (simp [hc6, hc11]; intros; omega) | (rw [Bool.eq_iff_iff]; simp [hc6, hc11]; first | omega | (intros; omega))
 ·have hc6 := hb6; try simp only [Bool.or_eq_true, Bool.and_eq_true, Bool.or_eq_false_iff, Bool.and_eq_false_iff, Bool.not_eq_true', Bool.not_eq_false', decide_eq_true_eq, decide_eq_false_iff_not, Bool.not_true, Bool.not_false] at hc6
  refine l_offg hF ((wanted_of hF rfl rfl rfl rfl).trans (by rw [hb6]; rfl)) rfl rfl ?_; clear hF; intro a hF
  refine l_offg hF ((wanted_of hF rfl rfl rfl rfl).trans (by rw [hb6]; rfl)) rfl rfl ?_; clear hF; intro a hF
  refine l_offg hF ((wanted_of hF rfl rfl rfl rfl).trans (by rw [hb6]; rfl)) rfl rfl ?_; clear hF; intro a hF
  refine l_at hF rfl rfl rfl (x_pickF (hF.tmp 6 rfl) hb6 rfl) ?_; clear hF; intro a hF
  refine l_at hF rfl rfl rfl (x_move (hF.tmp 10 rfl)) ?_; clear hF; intro a hF
  refine l_offg hF ((wanted_of hF rfl rfl rfl rfl).trans rfl) rfl rfl ?_; clear hF; intro a hF
  refine l_offg hF ((wanted_of hF rfl rfl rfl rfl).trans rfl) rfl rfl ?_; clear hF; intro a hF
  refine l_offg hF ((wanted_of hF rfl rfl rfl rfl).trans rfl) rfl rfl ?_; clear hF; intro a hF
  refine l_at hF rfl rfl rfl (x_pickF (hF.tmp 11 rfl) rfl rfl) ?_; clear hF; intro a hF
  refine l_at hF rfl rfl rfl (x_move (hF.tmp 15 rfl)) ?_; clear hF; intro a hF
  refine l_offg hF ((wanted_of hF rfl rfl rfl rfl).trans rfl) rfl rfl ?_; clear hF; intro a hF
  refine l_offg hF ((wanted_of hF rfl rfl rfl rfl).trans rfl) rfl rfl ?_; clear hF; intro a hF
  refine l_offg hF ((wanted_of hF rfl rfl rfl rfl).trans rfl) rfl rfl ?_; clear hF; intro a hF
  refine l_at hF rfl rfl rfl (x_pickF (hF.tmp 16 rfl) rfl rfl) ?_; clear hF; intro a hF
  refine l_at hF rfl rfl rfl (x_move (hF.tmp 20 rfl)) ?_; clear hF; intro a hF
  refine l_offg hF ((wanted_of hF rfl rfl rfl rfl).trans rfl) rfl rfl ?_; clear hF; intro a hF
  refine l_offg hF ((wanted_of hF rfl rfl rfl rfl).trans rfl) rfl rfl ?_; clear hF; intro a hF
  refine l_offg hF ((wanted_of hF rfl rfl rfl rfl).trans rfl) rfl rfl ?_; clear hF; intro a hF
  refine l_offg hF ((wanted_of hF rfl rfl rfl rfl).trans rfl) rfl rfl ?_; clear hF; intro a hF
  refine l_at hF rfl rfl rfl (x_pickF (hF.tmp 21 rfl) rfl rfl) ?_; clear hF; intro a hF
  refine l_at hF rfl rfl rfl (x_assign (hF.tmp 26 rfl)) ?_; clear hF; intro a hF
  refine wpList_nil ?_
  refine hK2 _ _ ?_
  refine wp_ret ?_
  try simp only [Exit.then, Exit.inBlock]
  refine fin_ret hF (res1 (v := .bool false) hF rfl rfl) ⟨?_, hH.mods⟩
  congr 2; unfold bareT; first | (simp [hc6]; done) | (simp [hc6]; omega) | (simp [hc6]; intros; omega) | (rw [Bool.eq_iff_iff]; simp [hc6]; first | omega | (intros; omega))
set_option maxRecDepth 100000 in
set_option maxHeartbeats 1000000 in
theorem overO_calls (w0 : World) {pp : Bool} (hL : LibAt pp w0) {o : OpD} {oko0 : Nat → Prop} {Ao0 : Option Addr} {co0 : Nat} (hro0 : Rd StE w0 oko0 Ao0 o.timer.steps co0) (hb : OpB o) : Calls Tryd.prog 23 #[.agg #[.int .i64 o.kind, .string (strOfNums o.key), .int .i64 o.step.1, .string (strOfNums o.step.2.1), .string (strOfNums o.step.2.2.1), .int .i64 o.step.2.2.2, .string (strOfNums o.timer.name), .int .i64 o.timer.ver, .int .u64 o.timer.tick, .int .u64 o.timer.every, .slice Ao0 o.timer.steps.length co0]] w0 fun e w' => e = .returned (.bool (overO o)) ∧ Mods (fun _ => False) w0 w' := by
 refine calls_of_wp Tryd.func23 rfl ?_
 have hF := Fr.enter #[.agg #[.int .i64 o.kind, .string (strOfNums o.key), .int .i64 o.step.1, .string (strOfNums o.step.2.1), .string (strOfNums o.step.2.2.1), .int .i64 o.step.2.2.2, .string (strOfNums o.timer.name), .int .i64 o.timer.ver, .int .u64 o.timer.tick, .int .u64 o.timer.every, .slice Ao0 o.timer.steps.length co0]] 69 (slotsOf [.agg #[.int .i64 o.kind, .string (strOfNums o.key), .int .i64 o.step.1, .string (strOfNums o.step.2.1), .string (strOfNums o.step.2.2.1), .int .i64 o.step.2.2.2, .string (strOfNums o.timer.name), .int .i64 o.timer.ver, .int .u64 o.timer.tick, .int .u64 o.timer.every, .slice Ao0 o.timer.steps.length co0]] 0) (Nat.le_of_ble_eq_true rfl) (fun i v h => by have h2 := (get_slotsOf _ 0 i v h).2; simpa only [List.getElem?_toArray, Nat.sub_zero] using h2)
 have hH := Hp.nil (fun _ => False) w0
 rw [Tryd.ntmps23]
 revert hF; generalize (⟨(#[.agg #[.int .i64 o.kind, .string (strOfNums o.key), .int .i64 o.step.1, .string (strOfNums o.step.2.1), .string (strOfNums o.step.2.2.1), .int .i64 o.step.2.2.2, .string (strOfNums o.timer.name), .int .i64 o.timer.ver, .int .u64 o.timer.tick, .int .u64 o.timer.every, .slice Ao0 o.timer.steps.length co0]] : Array Value) ++ Array.replicate (69 - (#[.agg #[.int .i64 o.kind, .string (strOfNums o.key), .int .i64 o.step.1, .string (strOfNums o.step.2.1), .string (strOfNums o.step.2.2.1), .int .i64 o.step.2.2.2, .string (strOfNums o.timer.name), .int .i64 o.timer.ver, .int .u64 o.timer.tick, .int .u64 o.timer.every, .slice Ao0 o.timer.steps.length co0]] : Array Value).size) undef, []⟩ : Act) = a; intro hF
 have hH := hH.arg 900 hro0.all (fun _ h => ⟨h, fun h => h⟩)
 have hleo0 := hro0.le; unfold maxLen at hleo0
 have hH := hH.libN 990 hL
 refine wp_seq_k fun khK1 hK1 => ?_
 refine wp_region_lit ?_
 refine wpList_plain rfl fun K hK => ?_
 refine w_box 1 hF hH rfl (hF.tmp 0 rfl) ?_
 clear hF hH; intro a w b1 hF hH
 refine hK _ _ ?_; clear hK K
 refine l_at hF rfl rfl rfl (x_assign rfl) ?_; clear hF; intro a hF
 refine wpList_nil ?_
 refine hK1 _ _ ?_
 refine wp_seq_k fun khK2 hK2 => ?_
 refine wp_region_lit ?_
 refine l_at hF rfl rfl rfl (x_faddr Tryd.underlying55 rfl ty53 (by decide) (hF.tmp 1 rfl) rfl) ?_; clear hF; intro a hF
 refine l_at hF rfl rfl rfl (x_loadn (cs := #[.int .i64 o.step.1, .string (strOfNums o.step.2.1), .string (strOfNums o.step.2.2.1), .int .i64 o.step.2.2.2]) ty53 (hF.tmp 5 rfl) rfl (blk_sub (hH.at 1 rfl) 2 4 rfl)) ?_; clear hF; intro a hF
 refine l_at hF rfl rfl rfl (x_buildS (cells := #[.int .i64 0, .string (strOfNums []), .string (strOfNums []), .int .i64 0]) (places := #[(0, 1), (1, 1), (2, 1), (3, 1)]) Tryd.underlying53 ty53 (by kernel_rfl) Array.map_empty rfl) ?_; clear hF; intro a hF
 refine l_at hF rfl rfl rfl (st_eqs (x := o.step) (y := zS) hb.step.1 zS_B.1 hb.step.2.1 zS_B.2.1 (hF.tmp 6 rfl) (hF.tmp 7 rfl)) ?_; clear hF; intro a hF
 refine l_at hF rfl rfl rfl (x_assign (hF.tmp 8 rfl)) ?_; clear hF; intro a hF
 refine wpList_nil ?_
 refine hK2 _ _ ?_
 refine wp_seq_k fun khK3 hK3 => ?_
 refine wp_seq_k fun khK4 hK4 => ?_
 refine wp_region_lit ?_
 refine l_at hF rfl rfl rfl (x_faddr Tryd.underlying55 rfl ty50 (by decide) (hF.tmp 1 rfl) rfl) ?_; clear hF; intro a hF
 refine l_at hF rfl rfl rfl (x_load1 ty50 (hF.tmp 9 rfl) (blk_cell (hH.at 1 rfl) 0 rfl)) ?_; clear hF; intro a hF
 refine wpList_nil ?_
 refine hK4 _ _ ?_
 refine wp_block ?_
 refine wp_seq_k fun khK5 hK5 => ?_
 refine wp_seq_k fun khK6 hK6 => ?_
 refine wp_region_lit ?_
 refine l_at hF rfl rfl rfl (x_eql (hF.tmp 10 rfl) rfl) ?_; clear hF; intro a hF
 refine l_at hF rfl rfl rfl (x_assign (hF.tmp 12 rfl)) ?_; clear hF; intro a hF
 refine wpList_nil ?_
 refine hK6 _ _ ?_
 refine wp_cond_split (hF.tmp 11 rfl) (fun hc11 => ?_) (fun hc11 => ?_)
 ·have hk11_1 := hc11; try simp only [Bool.or_eq_true, Bool.and_eq_true, Bool.or_eq_false_iff, Bool.and_eq_false_iff, Bool.not_eq_true', Bool.not_eq_false', decide_eq_true_eq, decide_eq_false_iff_not, Bool.not_true, Bool.not_false] at hc11
  refine wp_skip ?_
  refine hK5 _ _ ?_
  refine wp_cond_true ((hF.tmp 11 rfl).trans (by rw [hk11_1])) ?_
  refine wp_seq_k fun khK7 hK7 => ?_
  refine wp_region_lit ?_
  refine l_at hF rfl rfl rfl (x_faddr Tryd.underlying55 rfl ty9 (by decide) (hF.tmp 1 rfl) rfl) ?_; clear hF; intro a hF
  refine l_at hF rfl rfl rfl (x_load1 ty9 (hF.tmp 14 rfl) (blk_cell (hH.at 1 rfl) 1 rfl)) ?_; clear hF; intro a hF
  refine l_at hF rfl rfl rfl (x_nen0 (xs := o.key) (hF.tmp 15 rfl) (show _ = Value.string (strOfNums ([] : List Int)) by kernel_rfl)) ?_; clear hF; intro a hF
  refine l_at hF rfl rfl rfl (x_move (hF.tmp 16 rfl)) ?_; clear hF; intro a hF
  refine split_bool hF 17 rfl (fun hb17 => ?_) (fun hb17 => ?_)
  ·have hc17 := hb17; try simp only [Bool.or_eq_true, Bool.and_eq_true, Bool.or_eq_false_iff, Bool.and_eq_false_iff, Bool.not_eq_true', Bool.not_eq_false', decide_eq_true_eq, decide_eq_false_iff_not, Bool.not_true, Bool.not_false] at hc17
   refine l_atg hF ((wanted_of hF rfl rfl rfl rfl).trans (by rw [hb17]; rfl)) rfl rfl (x_faddr Tryd.underlying55 rfl ty9 (by decide) (hF.tmp 1 rfl) rfl) ?_; clear hF; intro a hF
   refine l_atg hF ((wanted_of hF rfl rfl rfl rfl).trans (by rw [hb17]; rfl)) rfl rfl (x_load1 ty9 (hF.tmp 18 rfl) (blk_cell (hH.at 1 rfl) 1 rfl)) ?_; clear hF; intro a hF
   refine l_atg hF ((wanted_of hF rfl rfl rfl rfl).trans (by rw [hb17]; rfl)) rfl rfl (x_len_sn (xs := o.key) Tryd.underlying9 (hF.tmp 19 rfl)) ?_; clear hF; intro a hF
   refine l_atg hF ((wanted_of hF rfl rfl rfl rfl).trans (by rw [hb17]; rfl)) rfl rfl (x_leq (hF.tmp 20 rfl) rfl) ?_; clear hF; intro a hF
   refine l_at hF rfl rfl rfl (x_pickT (hF.tmp 17 rfl) hb17 (hF.tmp 21 rfl)) ?_; clear hF; intro a hF
   refine l_at hF rfl rfl rfl (x_move (hF.tmp 22 rfl)) ?_; clear hF; intro a hF
   refine split_bool hF 23 rfl (fun hb23 => ?_) (fun hb23 => ?_)
   ·have hc23 := hb23; try simp only [Bool.or_eq_true, Bool.and_eq_true, Bool.or_eq_false_iff, Bool.and_eq_false_iff, Bool.not_eq_true', Bool.not_eq_false', decide_eq_true_eq, decide_eq_false_iff_not, Bool.not_true, Bool.not_false] at hc23
    refine l_atg hF ((wanted_of hF rfl rfl rfl rfl).trans (by rw [hb23]; rfl)) rfl rfl (x_move (hF.tmp 3 rfl)) ?_; clear hF; intro a hF
    refine l_at hF rfl rfl rfl (x_pickT (hF.tmp 23 rfl) hb23 (hF.tmp 24 rfl)) ?_; clear hF; intro a hF
    refine l_at hF rfl rfl rfl (x_move (hF.tmp 25 rfl)) ?_; clear hF; intro a hF
    refine split_bool hF 26 rfl (fun hb26 => ?_) (fun hb26 => ?_)
    ·have hc26 := hb26; try simp only [Bool.or_eq_true, Bool.and_eq_true, Bool.or_eq_false_iff, Bool.and_eq_false_iff, Bool.not_eq_true', Bool.not_eq_false', decide_eq_true_eq, decide_eq_false_iff_not, Bool.not_true, Bool.not_false] at hc26
     refine l_atg hF ((wanted_of hF rfl rfl rfl rfl).trans (by rw [hb26]; rfl)) rfl rfl (x_faddr Tryd.underlying55 rfl ty39 (by decide) (hF.tmp 1 rfl) rfl) ?_; clear hF; intro a hF
     refine l_atg hF ((wanted_of hF rfl rfl rfl rfl).trans (by rw [hb26]; rfl)) rfl rfl (x_loadn (cs := #[.string (strOfNums o.timer.name), .int .i64 o.timer.ver, .int .u64 o.timer.tick, .int .u64 o.timer.every, .slice Ao0 o.timer.steps.length co0]) ty39 (hF.tmp 27 rfl) rfl (blk_sub (hH.at 1 rfl) 6 5 rfl)) ?_; clear hF; intro a hF
     refine wpList_on ((wanted_of hF rfl rfl rfl rfl).trans (by rw [hb26]; rfl)) fun K hK => ?_
     refine w_call hF (x_enter Tryd.func58 (by kernel_rfl) rfl (by simp only [List.map_toArray, List.map_cons, List.map_nil, hF.tmp 28 rfl] <;> rfl)) (obare_calls (t := o.timer) _ ((hH.rd 900 rfl))) rfl rfl ?_
     rintro _ w ⟨rfl, hm_⟩; refine ⟨_, rfl, ?_⟩; clear hF; intro a hF; have hH := hH.same hm_
     refine hK _ _ ?_; clear hK K
     refine l_at hF rfl rfl rfl (x_pickT (hF.tmp 26 rfl) hb26 (hF.tmp 29 rfl)) ?_; clear hF; intro a hF
     refine l_at hF rfl rfl rfl (x_assign (hF.tmp 30 rfl)) ?_; clear hF; intro a hF
     refine wpList_nil ?_
     refine hK7 _ _ ?_
     refine wp_ret ?_
     try simp only [Exit.then, Exit.inBlock]
     refine fin_ret hF (res1 (v := .bool (bareT o.timer)) hF rfl rfl) ⟨?_, hH.mods⟩
     congr 2; unfold overO nameI; first | (simp [hc11, hc17, hc23, hc26]; done) | (simp [hc11, hc17, hc23, hc26]; omega) | (simp [hc11, hc17, hc23, hc26]; intros; omega) | (rw [Bool.eq_iff_iff]; simp [hc11, hc17, hc23, hc26]; first | omega | (intros; omega))
    ·have hc26 := hb26; try simp only [Bool.or_eq_true, Bool.and_eq_true, Bool.or_eq_false_iff, Bool.and_eq_false_iff, Bool.not_eq_true', Bool.not_eq_false', decide_eq_true_eq, decide_eq_false_iff_not, Bool.not_true, Bool.not_false] at hc26
     refine l_offg hF ((wanted_of hF rfl rfl rfl rfl).trans (by rw [hb26]; rfl)) rfl rfl ?_; clear hF; intro a hF
     refine l_offg hF ((wanted_of hF rfl rfl rfl rfl).trans (by rw [hb26]; rfl)) rfl rfl ?_; clear hF; intro a hF
     refine l_offg hF ((wanted_of hF rfl rfl rfl rfl).trans (by rw [hb26]; rfl)) rfl rfl ?_; clear hF; intro a hF
     refine l_at hF rfl rfl rfl (x_pickF (hF.tmp 26 rfl) hb26 rfl) ?_; clear hF; intro a hF
     refine l_at hF rfl rfl rfl (x_assign (hF.tmp 30 rfl)) ?_; clear hF; intro a hF
     refine wpList_nil ?_
     refine hK7 _ _ ?_
     refine wp_ret ?_
     try simp only [Exit.then, Exit.inBlock]
     refine fin_ret hF (res1 (v := .bool false) hF rfl rfl) ⟨?_, hH.mods⟩
     congr 2; unfold overO nameI; first | (simp [hc11, hc17, hc23, hc26]; done) | (simp [hc11, hc17, hc23, hc26]; omega) | (simp [hc11, hc17, hc23, hc26]; intros; omega) | (rw [Bool.eq_iff_iff]; simp [hc11, hc17, hc23, hc26]; first | omega | (intros; omega))
   ·have hc23 := hb23; try simp only [Bool.or_eq_true, Bool.and_eq_true, Bool.or_eq_false_iff, Bool.and_eq_false_iff, Bool.not_eq_true', Bool.not_eq_false', decide_eq_true_eq, decide_eq_false_iff_not, Bool.not_true, Bool.not_false] at hc23
    refine l_offg hF ((wanted_of hF rfl rfl rfl rfl).trans (by rw [hb23]; rfl)) rfl rfl ?_; clear hF; intro a hF
    refine l_at hF rfl rfl rfl (x_pickF (hF.tmp 23 rfl) hb23 rfl) ?_; clear hF; intro a hF
    refine l_at hF rfl rfl rfl (x_move (hF.tmp 25 rfl)) ?_; clear hF; intro a hF
    refine l_offg hF ((wanted_of hF rfl rfl rfl rfl).trans rfl) rfl rfl ?_; clear hF; intro a hF
    refine l_offg hF ((wanted_of hF rfl rfl rfl rfl).trans rfl) rfl rfl ?_; clear hF; intro a hF
    refine l_offg hF ((wanted_of hF rfl rfl rfl rfl).trans rfl) rfl rfl ?_; clear hF; intro a hF
    refine l_at hF rfl rfl rfl (x_pickF (hF.tmp 26 rfl) rfl rfl) ?_; clear hF; intro a hF
    refine l_at hF rfl rfl rfl (x_assign (hF.tmp 30 rfl)) ?_; clear hF; intro a hF
    refine wpList_nil ?_
    refine hK7 _ _ ?_
    refine wp_ret ?_
    try simp only [Exit.then, Exit.inBlock]
    refine fin_ret hF (res1 (v := .bool false) hF rfl rfl) ⟨?_, hH.mods⟩
    congr 2; unfold overO nameI; first | (simp [hc11, hc17, hc23]; done) | (simp [hc11, hc17, hc23]; omega) | (simp [hc11, hc17, hc23]; intros; omega) | (rw [Bool.eq_iff_iff]; simp [hc11, hc17, hc23]; first | omega | (intros; omega))
  ·have hc17 := hb17; try simp only [Bool.or_eq_true, Bool.and_eq_true, Bool.or_eq_false_iff, Bool.and_eq_false_iff, Bool.not_eq_true', Bool.not_eq_false', decide_eq_true_eq, decide_eq_false_iff_not, Bool.not_true, Bool.not_false] at hc17
   refine l_offg hF ((wanted_of hF rfl rfl rfl rfl).trans (by rw [hb17]; rfl)) rfl rfl ?_; clear hF; intro a hF
   refine l_offg hF ((wanted_of hF rfl rfl rfl rfl).trans (by rw [hb17]; rfl)) rfl rfl ?_; clear hF; intro a hF
   refine l_offg hF ((wanted_of hF rfl rfl rfl rfl).trans (by rw [hb17]; rfl)) rfl rfl ?_; clear hF; intro a hF
   refine l_offg hF ((wanted_of hF rfl rfl rfl rfl).trans (by rw [hb17]; rfl)) rfl rfl ?_; clear hF; intro a hF
   refine l_at hF rfl rfl rfl (x_pickF (hF.tmp 17 rfl) hb17 rfl) ?_; clear hF; intro a hF
   refine l_at hF rfl rfl rfl (x_move (hF.tmp 22 rfl)) ?_; clear hF; intro a hF
   refine l_offg hF ((wanted_of hF rfl rfl rfl rfl).trans rfl) rfl rfl ?_; clear hF; intro a hF
   refine l_at hF rfl rfl rfl (x_pickF (hF.tmp 23 rfl) rfl rfl) ?_; clear hF; intro a hF
   refine l_at hF rfl rfl rfl (x_move (hF.tmp 25 rfl)) ?_; clear hF; intro a hF
   refine l_offg hF ((wanted_of hF rfl rfl rfl rfl).trans rfl) rfl rfl ?_; clear hF; intro a hF
   refine l_offg hF ((wanted_of hF rfl rfl rfl rfl).trans rfl) rfl rfl ?_; clear hF; intro a hF
   refine l_offg hF ((wanted_of hF rfl rfl rfl rfl).trans rfl) rfl rfl ?_; clear hF; intro a hF
   refine l_at hF rfl rfl rfl (x_pickF (hF.tmp 26 rfl) rfl rfl) ?_; clear hF; intro a hF
   refine l_at hF rfl rfl rfl (x_assign (hF.tmp 30 rfl)) ?_; clear hF; intro a hF
   refine wpList_nil ?_
   refine hK7 _ _ ?_
   refine wp_ret ?_
   try simp only [Exit.then, Exit.inBlock]
   refine fin_ret hF (res1 (v := .bool false) hF rfl rfl) ⟨?_, hH.mods⟩
   congr 2; unfold overO nameI; first | (simp [hc11, hc17]; done) | (simp [hc11, hc17]; omega) | (simp [hc11, hc17]; intros; omega) | (rw [Bool.eq_iff_iff]; simp [hc11, hc17]; first | omega | (intros; omega))
 ·have hk11_2 := hc11; try simp only [Bool.or_eq_true, Bool.and_eq_true, Bool.or_eq_false_iff, Bool.and_eq_false_iff, Bool.not_eq_true', Bool.not_eq_false', decide_eq_true_eq, decide_eq_false_iff_not, Bool.not_true, Bool.not_false] at hc11
  refine wp_region_lit ?_
  refine l_at hF rfl rfl rfl (x_eql (hF.tmp 10 rfl) rfl) ?_; clear hF; intro a hF
  refine l_at hF rfl rfl rfl (x_assign (hF.tmp 13 rfl)) ?_; clear hF; intro a hF
  refine wpList_nil ?_
  refine hK5 _ _ ?_
  refine wp_cond_split (hF.tmp 11 rfl) (fun hc11 => ?_) (fun hc11 => ?_)
  ·have hk11_3 := hc11; try simp only [Bool.or_eq_true, Bool.and_eq_true, Bool.or_eq_false_iff, Bool.and_eq_false_iff, Bool.not_eq_true', Bool.not_eq_false', decide_eq_true_eq, decide_eq_false_iff_not, Bool.not_true, Bool.not_false] at hc11
   refine wp_seq_k fun khK8 hK8 => ?_
   refine wp_region_lit ?_
   refine l_at hF rfl rfl rfl (x_faddr Tryd.underlying55 rfl ty9 (by decide) (hF.tmp 1 rfl) rfl) ?_; clear hF; intro a hF
   refine l_at hF rfl rfl rfl (x_load1 ty9 (hF.tmp 14 rfl) (blk_cell (hH.at 1 rfl) 1 rfl)) ?_; clear hF; intro a hF
   refine l_at hF rfl rfl rfl (x_nen0 (xs := o.key) (hF.tmp 15 rfl) (show _ = Value.string (strOfNums ([] : List Int)) by kernel_rfl)) ?_; clear hF; intro a hF
   refine l_at hF rfl rfl rfl (x_move (hF.tmp 16 rfl)) ?_; clear hF; intro a hF
   refine split_bool hF 17 rfl (fun hb17 => ?_) (fun hb17 => ?_)
   ·have hc17 := hb17; try simp only [Bool.or_eq_true, Bool.and_eq_true, Bool.or_eq_false_iff, Bool.and_eq_false_iff, Bool.not_eq_true', Bool.not_eq_false', decide_eq_true_eq, decide_eq_false_iff_not, Bool.not_true, Bool.not_false] at hc17
    refine l_atg hF ((wanted_of hF rfl rfl rfl rfl).trans (by rw [hb17]; rfl)) rfl rfl (x_faddr Tryd.underlying55 rfl ty9 (by decide) (hF.tmp 1 rfl) rfl) ?_; clear hF; intro a hF
    refine l_atg hF ((wanted_of hF rfl rfl rfl rfl).trans (by rw [hb17]; rfl)) rfl rfl (x_load1 ty9 (hF.tmp 18 rfl) (blk_cell (hH.at 1 rfl) 1 rfl)) ?_; clear hF; intro a hF
    refine l_atg hF ((wanted_of hF rfl rfl rfl rfl).trans (by rw [hb17]; rfl)) rfl rfl (x_len_sn (xs := o.key) Tryd.underlying9 (hF.tmp 19 rfl)) ?_; clear hF; intro a hF
    refine l_atg hF ((wanted_of hF rfl rfl rfl rfl).trans (by rw [hb17]; rfl)) rfl rfl (x_leq (hF.tmp 20 rfl) rfl) ?_; clear hF; intro a hF
    refine l_at hF rfl rfl rfl (x_pickT (hF.tmp 17 rfl) hb17 (hF.tmp 21 rfl)) ?_; clear hF; intro a hF
    refine l_at hF rfl rfl rfl (x_move (hF.tmp 22 rfl)) ?_; clear hF; intro a hF
    refine split_bool hF 23 rfl (fun hb23 => ?_) (fun hb23 => ?_)
    ·have hc23 := hb23; try simp only [Bool.or_eq_true, Bool.and_eq_true, Bool.or_eq_false_iff, Bool.and_eq_false_iff, Bool.not_eq_true', Bool.not_eq_false', decide_eq_true_eq, decide_eq_false_iff_not, Bool.not_true, Bool.not_false] at hc23
     refine l_atg hF ((wanted_of hF rfl rfl rfl rfl).trans (by rw [hb23]; rfl)) rfl rfl (x_move (hF.tmp 3 rfl)) ?_; clear hF; intro a hF
     refine l_at hF rfl rfl rfl (x_pickT (hF.tmp 23 rfl) hb23 (hF.tmp 24 rfl)) ?_; clear hF; intro a hF
     refine l_at hF rfl rfl rfl (x_move (hF.tmp 25 rfl)) ?_; clear hF; intro a hF
     refine split_bool hF 26 rfl (fun hb26 => ?_) (fun hb26 => ?_)
     ·have hc26 := hb26; try simp only [Bool.or_eq_true, Bool.and_eq_true, Bool.or_eq_false_iff, Bool.and_eq_false_iff, Bool.not_eq_true', Bool.not_eq_false', decide_eq_true_eq, decide_eq_false_iff_not, Bool.not_true, Bool.not_false] at hc26
      refine l_atg hF ((wanted_of hF rfl rfl rfl rfl).trans (by rw [hb26]; rfl)) rfl rfl (x_faddr Tryd.underlying55 rfl ty39 (by decide) (hF.tmp 1 rfl) rfl) ?_; clear hF; intro a hF
      refine l_atg hF ((wanted_of hF rfl rfl rfl rfl).trans (by rw [hb26]; rfl)) rfl rfl (x_loadn (cs := #[.string (strOfNums o.timer.name), .int .i64 o.timer.ver, .int .u64 o.timer.tick, .int .u64 o.timer.every, .slice Ao0 o.timer.steps.length co0]) ty39 (hF.tmp 27 rfl) rfl (blk_sub (hH.at 1 rfl) 6 5 rfl)) ?_; clear hF; intro a hF
      refine wpList_on ((wanted_of hF rfl rfl rfl rfl).trans (by rw [hb26]; rfl)) fun K hK => ?_
      refine w_call hF (x_enter Tryd.func58 (by kernel_rfl) rfl (by simp only [List.map_toArray, List.map_cons, List.map_nil, hF.tmp 28 rfl] <;> rfl)) (obare_calls (t := o.timer) _ ((hH.rd 900 rfl))) rfl rfl ?_
      rintro _ w ⟨rfl, hm_⟩; refine ⟨_, rfl, ?_⟩; clear hF; intro a hF; have hH := hH.same hm_
      refine hK _ _ ?_; clear hK K
      refine l_at hF rfl rfl rfl (x_pickT (hF.tmp 26 rfl) hb26 (hF.tmp 29 rfl)) ?_; clear hF; intro a hF
      refine l_at hF rfl rfl rfl (x_assign (hF.tmp 30 rfl)) ?_; clear hF; intro a hF
      refine wpList_nil ?_
      refine hK8 _ _ ?_
      refine wp_ret ?_
      try simp only [Exit.then, Exit.inBlock]
      refine fin_ret hF (res1 (v := .bool (bareT o.timer)) hF rfl rfl) ⟨?_, hH.mods⟩
      congr 2; unfold overO nameI; first | (simp [hc11, hc11, hc17, hc23, hc26]; done) | (simp [hc11, hc11, hc17, hc23, hc26]; omega) | (simp [hc11, hc11, hc17, hc23, hc26]; intros; omega) | (rw [Bool.eq_iff_iff]; simp [hc11, hc11, hc17, hc23, hc26]; first | omega | (intros; omega))
     ·have hc26 := hb26; try simp only [Bool.or_eq_true, Bool.and_eq_true, Bool.or_eq_false_iff, Bool.and_eq_false_iff, Bool.not_eq_true', Bool.not_eq_false', decide_eq_true_eq, decide_eq_false_iff_not, Bool.not_true, Bool.not_false] at hc26
      refine l_offg hF ((wanted_of hF rfl rfl rfl rfl).trans (by rw [hb26]; rfl)) rfl rfl ?_; clear hF; intro a hF
      refine l_offg hF ((wanted_of hF rfl rfl rfl rfl).trans (by rw [hb26]; rfl)) rfl rfl ?_; clear hF; intro a hF
      refine l_offg hF ((wanted_of hF rfl rfl rfl rfl).trans (by rw [hb26]; rfl)) rfl rfl ?_; clear hF; intro a hF
      refine l_at hF rfl rfl rfl (x_pickF (hF.tmp 26 rfl) hb26 rfl) ?_; clear hF; intro a hF
      refine l_at hF rfl rfl rfl (x_assign (hF.tmp 30 rfl)) ?_; clear hF; intro a hF
      refine wpList_nil ?_
      refine hK8 _ _ ?_
      refine wp_ret ?_
      try simp only [Exit.then, Exit.inBlock]
      refine fin_ret hF (res1 (v := .bool false) hF rfl rfl) ⟨?_, hH.mods⟩
      congr 2; unfold overO nameI; first | (simp [hc11, hc11, hc17, hc23, hc26]; done) | (simp [hc11, hc11, hc17, hc23, hc26]; omega) | (simp [hc11, hc11, hc17, hc23, hc26]; intros; omega) | (rw [Bool.eq_iff_iff]; simp [hc11, hc11, hc17, hc23, hc26]; first | omega | (intros; omega))
    ·have hc23 := hb23; try simp only [Bool.or_eq_true, Bool.and_eq_true, Bool.or_eq_false_iff, Bool.and_eq_false_iff, Bool.not_eq_true', Bool.not_eq_false', decide_eq_true_eq, decide_eq_false_iff_not, Bool.not_true, Bool.not_false] at hc23
     refine l_offg hF ((wanted_of hF rfl rfl rfl rfl).trans (by rw [hb23]; rfl)) rfl rfl ?_; clear hF; intro a hF
     refine l_at hF rfl rfl rfl (x_pickF (hF.tmp 23 rfl) hb23 rfl) ?_; clear hF; intro a hF
     refine l_at hF rfl rfl rfl (x_move (hF.tmp 25 rfl)) ?_; clear hF; intro a hF
     refine l_offg hF ((wanted_of hF rfl rfl rfl rfl).trans rfl) rfl rfl ?_; clear hF; intro a hF
     refine l_offg hF ((wanted_of hF rfl rfl rfl rfl).trans rfl) rfl rfl ?_; clear hF; intro a hF
     refine l_offg hF ((wanted_of hF rfl rfl rfl rfl).trans rfl) rfl rfl ?_; clear hF; intro a hF
     refine l_at hF rfl rfl rfl (x_pickF (hF.tmp 26 rfl) rfl rfl) ?_; clear hF; intro a hF
     refine l_at hF rfl rfl rfl (x_assign (hF.tmp 30 rfl)) ?_; clear hF; intro a hF
     refine wpList_nil ?_
     refine hK8 _ _ ?_
     refine wp_ret ?_
     try simp only [Exit.then, Exit.inBlock]
     refine fin_ret hF (res1 (v := .bool false) hF rfl rfl) ⟨?_, hH.mods⟩
     congr 2; unfold overO nameI; first | (simp [hc11, hc11, hc17, hc23]; done) | (simp [hc11, hc11, hc17, hc23]; omega) | (simp [hc11, hc11, hc17, hc23]; intros; omega) | (rw [Bool.eq_iff_iff]; simp [hc11, hc11, hc17, hc23]; first | omega | (intros; omega))
   ·have hc17 := hb17; try simp only [Bool.or_eq_true, Bool.and_eq_true, Bool.or_eq_false_iff, Bool.and_eq_false_iff, Bool.not_eq_true', Bool.not_eq_false', decide_eq_true_eq, decide_eq_false_iff_not, Bool.not_true, Bool.not_false] at hc17
    refine l_offg hF ((wanted_of hF rfl rfl rfl rfl).trans (by rw [hb17]; rfl)) rfl rfl ?_; clear hF; intro a hF
    refine l_offg hF ((wanted_of hF rfl rfl rfl rfl).trans (by rw [hb17]; rfl)) rfl rfl ?_; clear hF; intro a hF
    refine l_offg hF ((wanted_of hF rfl rfl rfl rfl).trans (by rw [hb17]; rfl)) rfl rfl ?_; clear hF; intro a hF
    refine l_offg hF ((wanted_of hF rfl rfl rfl rfl).trans (by rw [hb17]; rfl)) rfl rfl ?_; clear hF; intro a hF
    refine l_at hF rfl rfl rfl (x_pickF (hF.tmp 17 rfl) hb17 rfl) ?_; clear hF; intro a hF
    refine l_at hF rfl rfl rfl (x_move (hF.tmp 22 rfl)) ?_; clear hF; intro a hF
    refine l_offg hF ((wanted_of hF rfl rfl rfl rfl).trans rfl) rfl rfl ?_; clear hF; intro a hF
    refine l_at hF rfl rfl rfl (x_pickF (hF.tmp 23 rfl) rfl rfl) ?_; clear hF; intro a hF
    refine l_at hF rfl rfl rfl (x_move (hF.tmp 25 rfl)) ?_; clear hF; intro a hF
    refine l_offg hF ((wanted_of hF rfl rfl rfl rfl).trans rfl) rfl rfl ?_; clear hF; intro a hF
    refine l_offg hF ((wanted_of hF rfl rfl rfl rfl).trans rfl) rfl rfl ?_; clear hF; intro a hF
    refine l_offg hF ((wanted_of hF rfl rfl rfl rfl).trans rfl) rfl rfl ?_; clear hF; intro a hF
    refine l_at hF rfl rfl rfl (x_pickF (hF.tmp 26 rfl) rfl rfl) ?_; clear hF; intro a hF
    refine l_at hF rfl rfl rfl (x_assign (hF.tmp 30 rfl)) ?_; clear hF; intro a hF
    refine wpList_nil ?_
    refine hK8 _ _ ?_
    refine wp_ret ?_
    try simp only [Exit.then, Exit.inBlock]
    refine fin_ret hF (res1 (v := .bool false) hF rfl rfl) ⟨?_, hH.mods⟩
    congr 2; unfold overO nameI; first | (simp [hc11, hc11, hc17]; done) | (simp [hc11, hc11, hc17]; omega) | (simp [hc11, hc11, hc17]; intros; omega) | (rw [Bool.eq_iff_iff]; simp [hc11, hc11, hc17]; first | omega | (intros; omega))
  ·have hk11_4 := hc11; try simp only [Bool.or_eq_true, Bool.and_eq_true, Bool.or_eq_false_iff, Bool.and_eq_false_iff, Bool.not_eq_true', Bool.not_eq_false', decide_eq_true_eq, decide_eq_false_iff_not, Bool.not_true, Bool.not_false] at hc11
   refine wp_seq_k fun khK9 hK9 => ?_
   refine wp_region_lit ?_
   refine l_at hF rfl rfl rfl (x_eql (hF.tmp 10 rfl) rfl) ?_; clear hF; intro a hF
   refine l_at hF rfl rfl rfl (x_assign (hF.tmp 32 rfl)) ?_; clear hF; intro a hF
   refine wpList_nil ?_
   refine hK9 _ _ ?_
   refine wp_cond_split (hF.tmp 31 rfl) (fun hc31 => ?_) (fun hc31 => ?_)
   ·have hk31_5 := hc31; try simp only [Bool.or_eq_true, Bool.and_eq_true, Bool.or_eq_false_iff, Bool.and_eq_false_iff, Bool.not_eq_true', Bool.not_eq_false', decide_eq_true_eq, decide_eq_false_iff_not, Bool.not_true, Bool.not_false] at hc31
    refine wp_seq_k fun khK10 hK10 => ?_
    refine wp_region_lit ?_
    refine l_at hF rfl rfl rfl (x_faddr Tryd.underlying55 rfl ty9 (by decide) (hF.tmp 1 rfl) rfl) ?_; clear hF; intro a hF
    refine l_at hF rfl rfl rfl (x_load1 ty9 (hF.tmp 33 rfl) (blk_cell (hH.at 1 rfl) 1 rfl)) ?_; clear hF; intro a hF
    refine l_at hF rfl rfl rfl (x_eqn0 (xs := o.key) (hF.tmp 34 rfl) (show _ = Value.string (strOfNums ([] : List Int)) by kernel_rfl)) ?_; clear hF; intro a hF
    refine l_at hF rfl rfl rfl (x_move (hF.tmp 35 rfl)) ?_; clear hF; intro a hF
    refine split_bool hF 36 rfl (fun hb36 => ?_) (fun hb36 => ?_)
    ·have hc36 := hb36; try simp only [Bool.or_eq_true, Bool.and_eq_true, Bool.or_eq_false_iff, Bool.and_eq_false_iff, Bool.not_eq_true', Bool.not_eq_false', decide_eq_true_eq, decide_eq_false_iff_not, Bool.not_true, Bool.not_false] at hc36
     refine l_atg hF ((wanted_of hF rfl rfl rfl rfl).trans (by rw [hb36]; rfl)) rfl rfl (x_faddr Tryd.underlying55 rfl ty39 (by decide) (hF.tmp 1 rfl) rfl) ?_; clear hF; intro a hF
     refine l_atg hF ((wanted_of hF rfl rfl rfl rfl).trans (by rw [hb36]; rfl)) rfl rfl (x_loadn (cs := #[.string (strOfNums o.timer.name), .int .i64 o.timer.ver, .int .u64 o.timer.tick, .int .u64 o.timer.every, .slice Ao0 o.timer.steps.length co0]) ty39 (hF.tmp 37 rfl) rfl (blk_sub (hH.at 1 rfl) 6 5 rfl)) ?_; clear hF; intro a hF
     refine wpList_on ((wanted_of hF rfl rfl rfl rfl).trans (by rw [hb36]; rfl)) fun K hK => ?_
     refine w_call hF (x_enter Tryd.func58 (by kernel_rfl) rfl (by simp only [List.map_toArray, List.map_cons, List.map_nil, hF.tmp 38 rfl] <;> rfl)) (obare_calls (t := o.timer) _ ((hH.rd 900 rfl))) rfl rfl ?_
     rintro _ w ⟨rfl, hm_⟩; refine ⟨_, rfl, ?_⟩; clear hF; intro a hF; have hH := hH.same hm_
     refine hK _ _ ?_; clear hK K
     refine l_at hF rfl rfl rfl (x_pickT (hF.tmp 36 rfl) hb36 (hF.tmp 39 rfl)) ?_; clear hF; intro a hF
     refine l_at hF rfl rfl rfl (x_move (hF.tmp 40 rfl)) ?_; clear hF; intro a hF
     refine split_bool hF 41 rfl (fun hb41 => ?_) (fun hb41 => ?_)
     ·have hc41 := hb41; try simp only [Bool.or_eq_true, Bool.and_eq_true, Bool.or_eq_false_iff, Bool.and_eq_false_iff, Bool.not_eq_true', Bool.not_eq_false', decide_eq_true_eq, decide_eq_false_iff_not, Bool.not_true, Bool.not_false] at hc41
      refine l_atg hF ((wanted_of hF rfl rfl rfl rfl).trans (by rw [hb41]; rfl)) rfl rfl (x_faddr Tryd.underlying55 rfl ty53 (by decide) (hF.tmp 1 rfl) rfl) ?_; clear hF; intro a hF
      refine l_atg hF ((wanted_of hF rfl rfl rfl rfl).trans (by rw [hb41]; rfl)) rfl rfl (x_loadn (cs := #[.int .i64 o.step.1, .string (strOfNums o.step.2.1), .string (strOfNums o.step.2.2.1), .int .i64 o.step.2.2.2]) ty53 (hF.tmp 42 rfl) rfl (blk_sub (hH.at 1 rfl) 2 4 rfl)) ?_; clear hF; intro a hF
      refine wpList_on ((wanted_of hF rfl rfl rfl rfl).trans (by rw [hb41]; rfl)) fun K hK => ?_
      refine w_call hF (x_enter Tryd.func59 (by kernel_rfl) rfl (by simp only [List.map_toArray, List.map_cons, List.map_nil, hF.tmp 43 rfl] <;> rfl)) (right_calls _ o.step) rfl rfl ?_
      rintro _ w ⟨rfl, hm_⟩; refine ⟨_, rfl, ?_⟩; clear hF; intro a hF; have hH := hH.same hm_
      refine hK _ _ ?_; clear hK K
      refine l_at hF rfl rfl rfl (x_pickT (hF.tmp 41 rfl) hb41 (hF.tmp 44 rfl)) ?_; clear hF; intro a hF
      refine l_at hF rfl rfl rfl (x_assign (hF.tmp 45 rfl)) ?_; clear hF; intro a hF
      refine wpList_nil ?_
      refine hK10 _ _ ?_
      refine wp_ret ?_
      try simp only [Exit.then, Exit.inBlock]
      refine fin_ret hF (res1 (v := .bool (rightS o.step)) hF rfl rfl) ⟨?_, hH.mods⟩
      congr 2; unfold overO nameI; first | (simp [hc11, hc11, hc31, hc36, hc41]; done) | (simp [hc11, hc11, hc31, hc36, hc41]; omega) | (simp [hc11, hc11, hc31, hc36, hc41]; intros; omega) | (rw [Bool.eq_iff_iff]; simp [hc11, hc11, hc31, hc36, hc41]; first | omega | (intros; omega))
     ·have hc41 := hb41; try simp only [Bool.or_eq_true, Bool.and_eq_true, Bool.or_eq_false_iff, Bool.and_eq_false_iff, Bool.not_eq_true', Bool.not_eq_false', decide_eq_true_eq, decide_eq_false_iff_not, Bool.not_true, Bool.not_false] at hc41
      refine l_offg hF ((wanted_of hF rfl rfl rfl rfl).trans (by rw [hb41]; rfl)) rfl rfl ?_; clear hF; intro a hF
      refine l_offg hF ((wanted_of hF rfl rfl rfl rfl).trans (by rw [hb41]; rfl)) rfl rfl ?_; clear hF; intro a hF
      refine l_offg hF ((wanted_of hF rfl rfl rfl rfl).trans (by rw [hb41]; rfl)) rfl rfl ?_; clear hF; intro a hF
      refine l_at hF rfl rfl rfl (x_pickF (hF.tmp 41 rfl) hb41 rfl) ?_; clear hF; intro a hF
      refine l_at hF rfl rfl rfl (x_assign (hF.tmp 45 rfl)) ?_; clear hF; intro a hF
      refine wpList_nil ?_
      refine hK10 _ _ ?_
      refine wp_ret ?_
      try simp only [Exit.then, Exit.inBlock]
      refine fin_ret hF (res1 (v := .bool false) hF rfl rfl) ⟨?_, hH.mods⟩
      congr 2; unfold overO nameI; first | (simp [hc11, hc11, hc31, hc36, hc41]; done) | (simp [hc11, hc11, hc31, hc36, hc41]; omega) | (simp [hc11, hc11, hc31, hc36, hc41]; intros; omega) | (rw [Bool.eq_iff_iff]; simp [hc11, hc11, hc31, hc36, hc41]; first | omega | (intros; omega))
    ·have hc36 := hb36; try simp only [Bool.or_eq_true, Bool.and_eq_true, Bool.or_eq_false_iff, Bool.and_eq_false_iff, Bool.not_eq_true', Bool.not_eq_false', decide_eq_true_eq, decide_eq_false_iff_not, Bool.not_true, Bool.not_false] at hc36
     refine l_offg hF ((wanted_of hF rfl rfl rfl rfl).trans (by rw [hb36]; rfl)) rfl rfl ?_; clear hF; intro a hF
     refine l_offg hF ((wanted_of hF rfl rfl rfl rfl).trans (by rw [hb36]; rfl)) rfl rfl ?_; clear hF; intro a hF
     refine l_offg hF ((wanted_of hF rfl rfl rfl rfl).trans (by rw [hb36]; rfl)) rfl rfl ?_; clear hF; intro a hF
     refine l_at hF rfl rfl rfl (x_pickF (hF.tmp 36 rfl) hb36 rfl) ?_; clear hF; intro a hF
     refine l_at hF rfl rfl rfl (x_move (hF.tmp 40 rfl)) ?_; clear hF; intro a hF
     refine l_offg hF ((wanted_of hF rfl rfl rfl rfl).trans rfl) rfl rfl ?_; clear hF; intro a hF
     refine l_offg hF ((wanted_of hF rfl rfl rfl rfl).trans rfl) rfl rfl ?_; clear hF; intro a hF
     refine l_offg hF ((wanted_of hF rfl rfl rfl rfl).trans rfl) rfl rfl ?_; clear hF; intro a hF
     refine l_at hF rfl rfl rfl (x_pickF (hF.tmp 41 rfl) rfl rfl) ?_; clear hF; intro a hF
     refine l_at hF rfl rfl rfl (x_assign (hF.tmp 45 rfl)) ?_; clear hF; intro a hF
     refine wpList_nil ?_
     refine hK10 _ _ ?_
     refine wp_ret ?_
     try simp only [Exit.then, Exit.inBlock]
     refine fin_ret hF (res1 (v := .bool false) hF rfl rfl) ⟨?_, hH.mods⟩
     congr 2; unfold overO nameI; first | (simp [hc11, hc11, hc31, hc36]; done) | (simp [hc11, hc11, hc31, hc36]; omega) | (simp [hc11, hc11, hc31, hc36]; intros; omega) | (rw [Bool.eq_iff_iff]; simp [hc11, hc11, hc31, hc36]; first | omega | (intros; omega))
   ·have hk31_6 := hc31; try simp only [Bool.or_eq_true, Bool.and_eq_true, Bool.or_eq_false_iff, Bool.and_eq_false_iff, Bool.not_eq_true', Bool.not_eq_false', decide_eq_true_eq, decide_eq_false_iff_not, Bool.not_true, Bool.not_false] at hc31
    refine wp_seq_k fun khK11 hK11 => ?_
    refine wp_region_lit ?_
    refine l_at hF rfl rfl rfl (x_eql (hF.tmp 10 rfl) rfl) ?_; clear hF; intro a hF
    refine l_at hF rfl rfl rfl (x_assign (hF.tmp 47 rfl)) ?_; clear hF; intro a hF
    refine wpList_nil ?_
    refine hK11 _ _ ?_
    refine wp_cond_split (hF.tmp 46 rfl) (fun hc46 => ?_) (fun hc46 => ?_)
    ·have hk46_7 := hc46; try simp only [Bool.or_eq_true, Bool.and_eq_true, Bool.or_eq_false_iff, Bool.and_eq_false_iff, Bool.not_eq_true', Bool.not_eq_false', decide_eq_true_eq, decide_eq_false_iff_not, Bool.not_true, Bool.not_false] at hc46
     refine wp_seq_k fun khK12 hK12 => ?_
     refine wp_region_lit ?_
     refine l_at hF rfl rfl rfl (x_faddr Tryd.underlying55 rfl ty39 (by decide) (hF.tmp 1 rfl) rfl) ?_; clear hF; intro a hF
     refine l_at hF rfl rfl rfl (x_loadn (cs := #[.string (strOfNums o.timer.name), .int .i64 o.timer.ver, .int .u64 o.timer.tick, .int .u64 o.timer.every, .slice Ao0 o.timer.steps.length co0]) ty39 (hF.tmp 48 rfl) rfl (blk_sub (hH.at 1 rfl) 6 5 rfl)) ?_; clear hF; intro a hF
     refine wpList_plain rfl fun K hK => ?_
     refine w_alloc 4 hF hH rfl ty39 ?_
     clear hF hH; intro a w b4 hF hH
     refine hK _ _ ?_; clear hK K
     refine wpList_plain rfl fun K hK => ?_
     refine w_storeA 4 hH ty39 rfl (hF.tmp 4 rfl) (hF.tmp 49 rfl) rfl (by simp [Value.cells, Value.oneCell']) rfl ?_
     clear hH; intro w hH
     refine hK _ _ ?_; clear hK K
     refine wpList_nil ?_
     refine hK12 _ _ ?_
     refine wp_seq_k fun khK13 hK13 => ?_
     refine wp_region_lit ?_
     refine l_at hF rfl rfl rfl (x_faddr Tryd.underlying39 rfl ty3 (by decide) (hF.tmp 4 rfl) rfl) ?_; clear hF; intro a hF
     refine l_at hF rfl rfl rfl (x_load1 ty3 (hF.tmp 50 rfl) (blk_cell (hH.at 4 rfl) 1 rfl)) ?_; clear hF; intro a hF
     refine l_at hF rfl rfl rfl (x_add (hF.tmp 51 rfl) rfl rfl) ?_; clear hF; intro a hF
     refine l_at hF rfl rfl rfl (x_faddr Tryd.underlying39 rfl ty3 (by decide) (hF.tmp 4 rfl) rfl) ?_; clear hF; intro a hF
     refine wpList_plain rfl fun K hK => ?_
     refine w_store 4 hH ty3 rfl (hF.tmp 53 rfl) (hF.tmp 52 rfl) rfl (one1 rfl rfl) (by first | decide | exact Nat.le_of_ble_eq_true rfl) ?_
     clear hH; intro w hH
     refine hK _ _ ?_; clear hK K
     refine wpList_nil ?_
     refine hK13 _ _ ?_
     refine wp_seq_k fun khK14 hK14 => ?_
     refine wp_region_lit ?_
     refine l_at hF rfl rfl rfl (x_faddr Tryd.underlying55 rfl ty9 (by decide) (hF.tmp 1 rfl) rfl) ?_; clear hF; intro a hF
     refine l_at hF rfl rfl rfl (x_load1 ty9 (hF.tmp 54 rfl) (blk_cell (hH.at 1 rfl) 1 rfl)) ?_; clear hF; intro a hF
     refine l_at hF rfl rfl rfl (x_eqn0 (xs := o.key) (hF.tmp 55 rfl) (show _ = Value.string (strOfNums ([] : List Int)) by kernel_rfl)) ?_; clear hF; intro a hF
     refine l_at hF rfl rfl rfl (x_move (hF.tmp 56 rfl)) ?_; clear hF; intro a hF
     refine split_bool hF 57 rfl (fun hb57 => ?_) (fun hb57 => ?_)
     ·have hc57 := hb57; try simp only [Bool.or_eq_true, Bool.and_eq_true, Bool.or_eq_false_iff, Bool.and_eq_false_iff, Bool.not_eq_true', Bool.not_eq_false', decide_eq_true_eq, decide_eq_false_iff_not, Bool.not_true, Bool.not_false] at hc57
      refine l_atg hF ((wanted_of hF rfl rfl rfl rfl).trans (by rw [hb57]; rfl)) rfl rfl (x_move (hF.tmp 3 rfl)) ?_; clear hF; intro a hF
      refine l_at hF rfl rfl rfl (x_pickT (hF.tmp 57 rfl) hb57 (hF.tmp 58 rfl)) ?_; clear hF; intro a hF
      refine l_at hF rfl rfl rfl (x_move (hF.tmp 59 rfl)) ?_; clear hF; intro a hF
      refine split_bool hF 60 rfl (fun hb60 => ?_) (fun hb60 => ?_)
      ·have hc60 := hb60; try simp only [Bool.or_eq_true, Bool.and_eq_true, Bool.or_eq_false_iff, Bool.and_eq_false_iff, Bool.not_eq_true', Bool.not_eq_false', decide_eq_true_eq, decide_eq_false_iff_not, Bool.not_true, Bool.not_false] at hc60
       refine l_atg hF ((wanted_of hF rfl rfl rfl rfl).trans (by rw [hb60]; rfl)) rfl rfl (x_faddr Tryd.underlying39 rfl ty3 (by decide) (hF.tmp 4 rfl) rfl) ?_; clear hF; intro a hF
       refine l_atg hF ((wanted_of hF rfl rfl rfl rfl).trans (by rw [hb60]; rfl)) rfl rfl (x_load1 ty3 (hF.tmp 61 rfl) (blk_cell (hH.at 4 rfl) 1 rfl)) ?_; clear hF; intro a hF
       refine l_atg hF ((wanted_of hF rfl rfl rfl rfl).trans (by rw [hb60]; rfl)) rfl rfl (x_eql (hF.tmp 62 rfl) rfl) ?_; clear hF; intro a hF
       refine l_at hF rfl rfl rfl (x_pickT (hF.tmp 60 rfl) hb60 (hF.tmp 63 rfl)) ?_; clear hF; intro a hF
       refine l_at hF rfl rfl rfl (x_move (hF.tmp 64 rfl)) ?_; clear hF; intro a hF
       refine split_bool hF 65 rfl (fun hb65 => ?_) (fun hb65 => ?_)
       ·have hc65 := hb65; try simp only [Bool.or_eq_true, Bool.and_eq_true, Bool.or_eq_false_iff, Bool.and_eq_false_iff, Bool.not_eq_true', Bool.not_eq_false', decide_eq_true_eq, decide_eq_false_iff_not, Bool.not_true, Bool.not_false] at hc65
        refine l_atg hF ((wanted_of hF rfl rfl rfl rfl).trans (by rw [hb65]; rfl)) rfl rfl (x_loadn ty39 (hF.tmp 4 rfl) rfl (blk_whole (hH.at 4 rfl))) ?_; clear hF; intro a hF
        refine wpList_on ((wanted_of hF rfl rfl rfl rfl).trans (by rw [hb65]; rfl)) fun K hK => ?_
        refine w_call hF (x_enter Tryd.func60 (by kernel_rfl) rfl (by simp only [List.map_toArray, List.map_cons, List.map_nil, hF.tmp 66 rfl] <;> rfl)) (rightT_calls (t := verUp o.timer) _ (hH.holds 990 _ rfl) ((hH.rd 900 rfl)) (verUp_B hb.timer)) rfl rfl ?_
        rintro _ w ⟨rfl, hm_⟩; refine ⟨_, rfl, ?_⟩; clear hF; intro a hF; have hH := hH.same hm_
        refine hK _ _ ?_; clear hK K
        refine l_at hF rfl rfl rfl (x_pickT (hF.tmp 65 rfl) hb65 (hF.tmp 67 rfl)) ?_; clear hF; intro a hF
        refine l_at hF rfl rfl rfl (x_assign (hF.tmp 68 rfl)) ?_; clear hF; intro a hF
        refine wpList_nil ?_
        refine hK14 _ _ ?_
        refine wp_ret ?_
        try simp only [Exit.then, Exit.inBlock]
        refine fin_ret hF (res1 (v := .bool (rightT (verUp o.timer))) hF rfl rfl) ⟨?_, hH.mods⟩
        congr 2; unfold overO nameI; first | (simp [hc11, hc11, hc31, hc46, hc57, hc60, hc65]; done) | (simp [hc11, hc11, hc31, hc46, hc57, hc60, hc65]; omega) | (simp [hc11, hc11, hc31, hc46, hc57, hc60, hc65]; intros; omega) | (rw [Bool.eq_iff_iff]; simp [hc11, hc11, hc31, hc46, hc57, hc60, hc65]; first | omega | (intros; omega))
       ·have hc65 := hb65; try simp only [Bool.or_eq_true, Bool.and_eq_true, Bool.or_eq_false_iff, Bool.and_eq_false_iff, Bool.not_eq_true', Bool.not_eq_false', decide_eq_true_eq, decide_eq_false_iff_not, Bool.not_true, Bool.not_false] at hc65
        refine l_offg hF ((wanted_of hF rfl rfl rfl rfl).trans (by rw [hb65]; rfl)) rfl rfl ?_; clear hF; intro a hF
        refine l_offg hF ((wanted_of hF rfl rfl rfl rfl).trans (by rw [hb65]; rfl)) rfl rfl ?_; clear hF; intro a hF
        refine l_at hF rfl rfl rfl (x_pickF (hF.tmp 65 rfl) hb65 rfl) ?_; clear hF; intro a hF
        refine l_at hF rfl rfl rfl (x_assign (hF.tmp 68 rfl)) ?_; clear hF; intro a hF
        refine wpList_nil ?_
        refine hK14 _ _ ?_
        refine wp_ret ?_
        try simp only [Exit.then, Exit.inBlock]
        refine fin_ret hF (res1 (v := .bool false) hF rfl rfl) ⟨?_, hH.mods⟩
        congr 2; unfold overO nameI; first | (simp [hc11, hc11, hc31, hc46, hc57, hc60, hc65]; done) | (simp [hc11, hc11, hc31, hc46, hc57, hc60, hc65]; omega) | (simp [hc11, hc11, hc31, hc46, hc57, hc60, hc65]; intros; omega) | (rw [Bool.eq_iff_iff]; simp [hc11, hc11, hc31, hc46, hc57, hc60, hc65]; first | omega | (intros; omega))
      ·have hc60 := hb60; try simp only [Bool.or_eq_true, Bool.and_eq_true, Bool.or_eq_false_iff, Bool.and_eq_false_iff, Bool.not_eq_true', Bool.not_eq_false', decide_eq_true_eq, decide_eq_false_iff_not, Bool.not_true, Bool.not_false] at hc60
       refine l_offg hF ((wanted_of hF rfl rfl rfl rfl).trans (by rw [hb60]; rfl)) rfl rfl ?_; clear hF; intro a hF
       refine l_offg hF ((wanted_of hF rfl rfl rfl rfl).trans (by rw [hb60]; rfl)) rfl rfl ?_; clear hF; intro a hF
       refine l_offg hF ((wanted_of hF rfl rfl rfl rfl).trans (by rw [hb60]; rfl)) rfl rfl ?_; clear hF; intro a hF
       refine l_at hF rfl rfl rfl (x_pickF (hF.tmp 60 rfl) hb60 rfl) ?_; clear hF; intro a hF
       refine l_at hF rfl rfl rfl (x_move (hF.tmp 64 rfl)) ?_; clear hF; intro a hF
       refine l_offg hF ((wanted_of hF rfl rfl rfl rfl).trans rfl) rfl rfl ?_; clear hF; intro a hF
       refine l_offg hF ((wanted_of hF rfl rfl rfl rfl).trans rfl) rfl rfl ?_; clear hF; intro a hF
       refine l_at hF rfl rfl rfl (x_pickF (hF.tmp 65 rfl) rfl rfl) ?_; clear hF; intro a hF
       refine l_at hF rfl rfl rfl (x_assign (hF.tmp 68 rfl)) ?_; clear hF; intro a hF
       refine wpList_nil ?_
       refine hK14 _ _ ?_
       refine wp_ret ?_
       try simp only [Exit.then, Exit.inBlock]
       refine fin_ret hF (res1 (v := .bool false) hF rfl rfl) ⟨?_, hH.mods⟩
       congr 2; unfold overO nameI; first | (simp [hc11, hc11, hc31, hc46, hc57, hc60]; done) | (simp [hc11, hc11, hc31, hc46, hc57, hc60]; omega) | (simp [hc11, hc11, hc31, hc46, hc57, hc60]; intros; omega) | (rw [Bool.eq_iff_iff]; simp [hc11, hc11, hc31, hc46, hc57, hc60]; first | omega | (intros; omega))
     ·have hc57 := hb57; try simp only [Bool.or_eq_true, Bool.and_eq_true, Bool.or_eq_false_iff, Bool.and_eq_false_iff, Bool.not_eq_true', Bool.not_eq_false', decide_eq_true_eq, decide_eq_false_iff_not, Bool.not_true, Bool.not_false] at hc57
      refine l_offg hF ((wanted_of hF rfl rfl rfl rfl).trans (by rw [hb57]; rfl)) rfl rfl ?_; clear hF; intro a hF
      refine l_at hF rfl rfl rfl (x_pickF (hF.tmp 57 rfl) hb57 rfl) ?_; clear hF; intro a hF
      refine l_at hF rfl rfl rfl (x_move (hF.tmp 59 rfl)) ?_; clear hF; intro a hF
      refine l_offg hF ((wanted_of hF rfl rfl rfl rfl).trans rfl) rfl rfl ?_; clear hF; intro a hF
      refine l_offg hF ((wanted_of hF rfl rfl rfl rfl).trans rfl) rfl rfl ?_; clear hF; intro a hF
      refine l_offg hF ((wanted_of hF rfl rfl rfl rfl).trans rfl) rfl rfl ?_; clear hF; intro a hF
      refine l_at hF rfl rfl rfl (x_pickF (hF.tmp 60 rfl) rfl rfl) ?_; clear hF; intro a hF
      refine l_at hF rfl rfl rfl (x_move (hF.tmp 64 rfl)) ?_; clear hF; intro a hF
      refine l_offg hF ((wanted_of hF rfl rfl rfl rfl).trans rfl) rfl rfl ?_; clear hF; intro a hF
      refine l_offg hF ((wanted_of hF rfl rfl rfl rfl).trans rfl) rfl rfl ?_; clear hF; intro a hF
      refine l_at hF rfl rfl rfl (x_pickF (hF.tmp 65 rfl) rfl rfl) ?_; clear hF; intro a hF
      refine l_at hF rfl rfl rfl (x_assign (hF.tmp 68 rfl)) ?_; clear hF; intro a hF
      refine wpList_nil ?_
      refine hK14 _ _ ?_
      refine wp_ret ?_
      try simp only [Exit.then, Exit.inBlock]
      refine fin_ret hF (res1 (v := .bool false) hF rfl rfl) ⟨?_, hH.mods⟩
      congr 2; unfold overO nameI; first | (simp [hc11, hc11, hc31, hc46, hc57]; done) | (simp [hc11, hc11, hc31, hc46, hc57]; omega) | (simp [hc11, hc11, hc31, hc46, hc57]; intros; omega) | (rw [Bool.eq_iff_iff]; simp [hc11, hc11, hc31, hc46, hc57]; first | omega | (intros; omega))
    ·have hk46_8 := hc46; try simp only [Bool.or_eq_true, Bool.and_eq_true, Bool.or_eq_false_iff, Bool.and_eq_false_iff, Bool.not_eq_true', Bool.not_eq_false', decide_eq_true_eq, decide_eq_false_iff_not, Bool.not_true, Bool.not_false] at hc46
     refine wp_skip ?_
     refine hK3 _ _ ?_
     refine wp_seq_k fun khK15 hK15 => ?_
     refine wp_region_lit ?_
     refine l_at hF rfl rfl rfl (x_assign rfl) ?_; clear hF; intro a hF
     refine wpList_nil ?_
     refine hK15 _ _ ?_
     refine wp_ret ?_
     try simp only [Exit.then, Exit.inBlock]
     refine fin_ret hF (res1 (v := .bool false) hF rfl rfl) ⟨?_, hH.mods⟩
     congr 2; unfold overO nameI; first | (simp [hc11, hc11, hc31, hc46]; done) | (simp [hc11, hc11, hc31, hc46]; omega) | (simp [hc11, hc11, hc31, hc46]; intros; omega) | (rw [Bool.eq_iff_iff]; simp [hc11, hc11, hc31, hc46]; first | omega | (intros; omega))
set_option maxRecDepth 100000 in
set_option maxHeartbeats 1000000 in
theorem lock_calls (w0 : World) {pp : Bool} (hL : LibAt pp w0) {o : OpD} {oko0 : Nat → Prop} {Ao0 : Option Addr} {co0 : Nat} (hro0 : Rd StE w0 oko0 Ao0 o.timer.steps co0) (hb : OpB o) : Calls Tryd.prog 84 #[.agg #[.int .i64 o.kind, .string (strOfNums o.key), .int .i64 o.step.1, .string (strOfNums o.step.2.1), .string (strOfNums o.step.2.2.1), .int .i64 o.step.2.2.2, .string (strOfNums o.timer.name), .int .i64 o.timer.ver, .int .u64 o.timer.tick, .int .u64 o.timer.every, .slice Ao0 o.timer.steps.length co0]] w0 fun e w' => e = .returned (.tuple #[.string (strOfNums (lockT o)), .bool (lockW o)]) ∧ Mods (fun _ => False) w0 w' := by
 refine calls_of_wp Tryd.func84 rfl ?_
 have hF := Fr.enter #[.agg #[.int .i64 o.kind, .string (strOfNums o.key), .int .i64 o.step.1, .string (strOfNums o.step.2.1), .string (strOfNums o.step.2.2.1), .int .i64 o.step.2.2.2, .string (strOfNums o.timer.name), .int .i64 o.timer.ver, .int .u64 o.timer.tick, .int .u64 o.timer.every, .slice Ao0 o.timer.steps.length co0]] 37 (slotsOf [.agg #[.int .i64 o.kind, .string (strOfNums o.key), .int .i64 o.step.1, .string (strOfNums o.step.2.1), .string (strOfNums o.step.2.2.1), .int .i64 o.step.2.2.2, .string (strOfNums o.timer.name), .int .i64 o.timer.ver, .int .u64 o.timer.tick, .int .u64 o.timer.every, .slice Ao0 o.timer.steps.length co0]] 0) (Nat.le_of_ble_eq_true rfl) (fun i v h => by have h2 := (get_slotsOf _ 0 i v h).2; simpa only [List.getElem?_toArray, Nat.sub_zero] using h2)
 have hH := Hp.nil (fun _ => False) w0
 rw [Tryd.ntmps84]
 revert hF; generalize (⟨(#[.agg #[.int .i64 o.kind, .string (strOfNums o.key), .int .i64 o.step.1, .string (strOfNums o.step.2.1), .string (strOfNums o.step.2.2.1), .int .i64 o.step.2.2.2, .string (strOfNums o.timer.name), .int .i64 o.timer.ver, .int .u64 o.timer.tick, .int .u64 o.timer.every, .slice Ao0 o.timer.steps.length co0]] : Array Value) ++ Array.replicate (37 - (#[.agg #[.int .i64 o.kind, .string (strOfNums o.key), .int .i64 o.step.1, .string (strOfNums o.step.2.1), .string (strOfNums o.step.2.2.1), .int .i64 o.step.2.2.2, .string (strOfNums o.timer.name), .int .i64 o.timer.ver, .int .u64 o.timer.tick, .int .u64 o.timer.every, .slice Ao0 o.timer.steps.length co0]] : Array Value).size) undef, []⟩ : Act) = a; intro hF
 have hH := hH.arg 900 hro0.all (fun _ h => ⟨h, fun h => h⟩)
 have hleo0 := hro0.le; unfold maxLen at hleo0
 have hH := hH.libN 990 hL
 refine wp_seq_k fun khK1 hK1 => ?_
 refine wp_region_lit ?_
 refine wpList_plain rfl fun K hK => ?_
 refine w_box 1 hF hH rfl (hF.tmp 0 rfl) ?_
 clear hF hH; intro a w b1 hF hH
 refine hK _ _ ?_; clear hK K
 refine l_at hF rfl rfl rfl (x_assign (show _ = Value.string (strOfNums ([] : List Int)) by kernel_rfl)) ?_; clear hF; intro a hF
 refine l_at hF rfl rfl rfl (x_assign rfl) ?_; clear hF; intro a hF
 refine wpList_nil ?_
 refine hK1 _ _ ?_
 refine wp_seq_k fun khK2 hK2 => ?_
 refine wp_seq_k fun khK3 hK3 => ?_
 refine wp_region_lit ?_
 refine l_at hF rfl rfl rfl (x_loadn ty55 (hF.tmp 1 rfl) rfl (blk_whole (hH.at 1 rfl))) ?_; clear hF; intro a hF
 refine wpList_plain rfl fun K hK => ?_
 refine w_call hF (x_enter Tryd.func23 (by kernel_rfl) rfl (by simp only [List.map_toArray, List.map_cons, List.map_nil, hF.tmp 4 rfl] <;> rfl)) (overO_calls (o := o) _ (hH.holds 990 _ rfl) ((hH.rd 900 rfl)) hb) rfl rfl ?_
 rintro _ w ⟨rfl, hm_⟩; refine ⟨_, rfl, ?_⟩; clear hF; intro a hF; have hH := hH.same hm_
 refine hK _ _ ?_; clear hK K
 refine l_at hF rfl rfl rfl (x_not (hF.tmp 5 rfl)) ?_; clear hF; intro a hF
 refine wpList_nil ?_
 refine hK3 _ _ ?_
 refine wp_cond_split (hF.tmp 6 rfl) (fun hc6 => ?_) (fun hc6 => ?_)
 ·have hk6_1 := hc6; try simp only [Bool.or_eq_true, Bool.and_eq_true, Bool.or_eq_false_iff, Bool.and_eq_false_iff, Bool.not_eq_true', Bool.not_eq_false', decide_eq_true_eq, decide_eq_false_iff_not, Bool.not_true, Bool.not_false] at hc6
  refine wp_seq_k fun khK4 hK4 => ?_
  refine wp_region_lit ?_
  refine l_at hF rfl rfl rfl (x_assign (show _ = Value.string (strOfNums ([] : List Int)) by kernel_rfl)) ?_; clear hF; intro a hF
  refine l_at hF rfl rfl rfl (x_assign rfl) ?_; clear hF; intro a hF
  refine wpList_nil ?_
  refine hK4 _ _ ?_
  refine wp_ret ?_
  try simp only [Exit.then, Exit.inBlock]
  have hv : ([] : List Int) = lockT o := by unfold lockT; simp [hc6]
  have hu : false = lockW o := by unfold lockW; simp [hc6]
  exact fin_ret hF (res2 hF rfl rfl rfl) ⟨by rw [← hv, ← hu] <;> rfl, hH.mods⟩
 ·have hk6_2 := hc6; try simp only [Bool.or_eq_true, Bool.and_eq_true, Bool.or_eq_false_iff, Bool.and_eq_false_iff, Bool.not_eq_true', Bool.not_eq_false', decide_eq_true_eq, decide_eq_false_iff_not, Bool.not_true, Bool.not_false] at hc6
  have ho : overO o = true := by simpa using hc6
  have hol := over_lens hb ho
  refine wp_skip ?_
  refine hK2 _ _ ?_
  refine wp_seq_k fun khK5 hK5 => ?_
  refine wp_seq_k fun khK6 hK6 => ?_
  refine wp_region_lit ?_
  refine l_at hF rfl rfl rfl (x_faddr Tryd.underlying55 rfl ty50 (by decide) (hF.tmp 1 rfl) rfl) ?_; clear hF; intro a hF
  refine l_at hF rfl rfl rfl (x_load1 ty50 (hF.tmp 7 rfl) (blk_cell (hH.at 1 rfl) 0 rfl)) ?_; clear hF; intro a hF
  refine wpList_nil ?_
  refine hK6 _ _ ?_
  refine wp_block ?_
  refine wp_seq_k fun khK7 hK7 => ?_
  refine wp_region_lit ?_
  refine l_at hF rfl rfl rfl (x_eql (hF.tmp 8 rfl) rfl) ?_; clear hF; intro a hF
  refine l_at hF rfl rfl rfl (x_assign (hF.tmp 10 rfl)) ?_; clear hF; intro a hF
  refine wpList_nil ?_
  refine hK7 _ _ ?_
  refine wp_cond_split (hF.tmp 9 rfl) (fun hc9 => ?_) (fun hc9 => ?_)
  ·have hk9_3 := hc9; try simp only [Bool.or_eq_true, Bool.and_eq_true, Bool.or_eq_false_iff, Bool.and_eq_false_iff, Bool.not_eq_true', Bool.not_eq_false', decide_eq_true_eq, decide_eq_false_iff_not, Bool.not_true, Bool.not_false] at hc9
   refine wp_seq_k fun khK8 hK8 => ?_
   refine wp_region_lit ?_
   refine l_at hF rfl rfl rfl (x_faddr Tryd.underlying55 rfl ty9 (by decide) (hF.tmp 1 rfl) rfl) ?_; clear hF; intro a hF
   refine l_at hF rfl rfl rfl (x_load1 ty9 (hF.tmp 11 rfl) (blk_cell (hH.at 1 rfl) 1 rfl)) ?_; clear hF; intro a hF
   refine l_at hF rfl rfl rfl (x_adds (xs := ([107] : List Int)) (ys := o.key) (show _ = Value.string (strOfNums ([107] : List Int)) by kernel_rfl) (hF.tmp 12 rfl) (by simp only [List.length_cons, List.length_nil]; omega)) ?_; clear hF; intro a hF
   refine l_at hF rfl rfl rfl (x_assign (hF.tmp 13 rfl)) ?_; clear hF; intro a hF
   refine l_at hF rfl rfl rfl (x_assign rfl) ?_; clear hF; intro a hF
   refine wpList_nil ?_
   refine hK8 _ _ ?_
   refine wp_ret ?_
   try simp only [Exit.then, Exit.inBlock]
   have hv : (([107] : List Int) ++ o.key) = lockT o := by unfold lockT; simp [hc6, hc9]
   have hu : false = lockW o := by unfold lockW; simp [hc6, hc9]
   exact fin_ret hF (res2 hF rfl rfl rfl) ⟨by rw [← hv, ← hu] <;> rfl, hH.mods⟩
  ·have hk9_4 := hc9; try simp only [Bool.or_eq_true, Bool.and_eq_true, Bool.or_eq_false_iff, Bool.and_eq_false_iff, Bool.not_eq_true', Bool.not_eq_false', decide_eq_true_eq, decide_eq_false_iff_not, Bool.not_true, Bool.not_false] at hc9
   refine wp_seq_k fun khK9 hK9 => ?_
   refine wp_region_lit ?_
   refine l_at hF rfl rfl rfl (x_eql (hF.tmp 8 rfl) rfl) ?_; clear hF; intro a hF
   refine l_at hF rfl rfl rfl (x_assign (hF.tmp 15 rfl)) ?_; clear hF; intro a hF
   refine wpList_nil ?_
   refine hK9 _ _ ?_
   refine wp_cond_split (hF.tmp 14 rfl) (fun hc14 => ?_) (fun hc14 => ?_)
   ·have hk14_5 := hc14; try simp only [Bool.or_eq_true, Bool.and_eq_true, Bool.or_eq_false_iff, Bool.and_eq_false_iff, Bool.not_eq_true', Bool.not_eq_false', decide_eq_true_eq, decide_eq_false_iff_not, Bool.not_true, Bool.not_false] at hc14
    refine wp_seq_k fun khK10 hK10 => ?_
    refine wp_region_lit ?_
    refine l_at hF rfl rfl rfl (x_faddr Tryd.underlying55 rfl ty9 (by decide) (hF.tmp 1 rfl) rfl) ?_; clear hF; intro a hF
    refine l_at hF rfl rfl rfl (x_load1 ty9 (hF.tmp 16 rfl) (blk_cell (hH.at 1 rfl) 1 rfl)) ?_; clear hF; intro a hF
    refine l_at hF rfl rfl rfl (x_adds (xs := ([116] : List Int)) (ys := o.key) (show _ = Value.string (strOfNums ([116] : List Int)) by kernel_rfl) (hF.tmp 17 rfl) (by simp only [List.length_cons, List.length_nil]; omega)) ?_; clear hF; intro a hF
    refine l_at hF rfl rfl rfl (x_assign (hF.tmp 18 rfl)) ?_; clear hF; intro a hF
    refine l_at hF rfl rfl rfl (x_assign rfl) ?_; clear hF; intro a hF
    refine wpList_nil ?_
    refine hK10 _ _ ?_
    refine wp_ret ?_
    try simp only [Exit.then, Exit.inBlock]
    have hv : (([116] : List Int) ++ o.key) = lockT o := by unfold lockT; simp [hc6, hc9, hc14]
    have hu : false = lockW o := by unfold lockW; simp [hc6, hc9, hc14]
    exact fin_ret hF (res2 hF rfl rfl rfl) ⟨by rw [← hv, ← hu] <;> rfl, hH.mods⟩
   ·have hk14_6 := hc14; try simp only [Bool.or_eq_true, Bool.and_eq_true, Bool.or_eq_false_iff, Bool.and_eq_false_iff, Bool.not_eq_true', Bool.not_eq_false', decide_eq_true_eq, decide_eq_false_iff_not, Bool.not_true, Bool.not_false] at hc14
    refine wp_seq_k fun khK11 hK11 => ?_
    refine wp_region_lit ?_
    refine l_at hF rfl rfl rfl (x_eql (hF.tmp 8 rfl) rfl) ?_; clear hF; intro a hF
    refine l_at hF rfl rfl rfl (x_assign (hF.tmp 20 rfl)) ?_; clear hF; intro a hF
    refine wpList_nil ?_
    refine hK11 _ _ ?_
    refine wp_cond_split (hF.tmp 19 rfl) (fun hc19 => ?_) (fun hc19 => ?_)
    ·have hk19_7 := hc19; try simp only [Bool.or_eq_true, Bool.and_eq_true, Bool.or_eq_false_iff, Bool.and_eq_false_iff, Bool.not_eq_true', Bool.not_eq_false', decide_eq_true_eq, decide_eq_false_iff_not, Bool.not_true, Bool.not_false] at hc19
     refine wp_seq_k fun khK12 hK12 => ?_
     refine wp_region_lit ?_
     refine l_at hF rfl rfl rfl (x_faddr Tryd.underlying55 rfl ty39 (by decide) (hF.tmp 1 rfl) rfl) ?_; clear hF; intro a hF
     refine l_at hF rfl rfl rfl (x_faddr Tryd.underlying39 rfl ty9 (by decide) (hF.tmp 21 rfl) rfl) ?_; clear hF; intro a hF
     refine l_at hF rfl rfl rfl (x_load1 ty9 (hF.tmp 22 rfl) (blk_cell (hH.at 1 rfl) 6 rfl)) ?_; clear hF; intro a hF
     refine l_at hF rfl rfl rfl (x_adds (xs := ([116] : List Int)) (ys := o.timer.name) (show _ = Value.string (strOfNums ([116] : List Int)) by kernel_rfl) (hF.tmp 23 rfl) (by simp only [List.length_cons, List.length_nil]; omega)) ?_; clear hF; intro a hF
     refine l_at hF rfl rfl rfl (x_assign (hF.tmp 24 rfl)) ?_; clear hF; intro a hF
     refine l_at hF rfl rfl rfl (x_assign rfl) ?_; clear hF; intro a hF
     refine wpList_nil ?_
     refine hK12 _ _ ?_
     refine wp_ret ?_
     try simp only [Exit.then, Exit.inBlock]
     have hv : (([116] : List Int) ++ o.timer.name) = lockT o := by unfold lockT; simp [hc6, hc9, hc14, hc19]
     have hu : true = lockW o := by unfold lockW; simp [hc6, hc9, hc14, hc19]
     exact fin_ret hF (res2 hF rfl rfl rfl) ⟨by rw [← hv, ← hu] <;> rfl, hH.mods⟩
    ·have hk19_8 := hc19; try simp only [Bool.or_eq_true, Bool.and_eq_true, Bool.or_eq_false_iff, Bool.and_eq_false_iff, Bool.not_eq_true', Bool.not_eq_false', decide_eq_true_eq, decide_eq_false_iff_not, Bool.not_true, Bool.not_false] at hc19
     refine wp_skip ?_
     refine hK5 _ _ ?_
     refine wp_seq_k fun khK13 hK13 => ?_
     refine wp_seq_k fun khK14 hK14 => ?_
     refine wp_region_lit ?_
     refine l_at hF rfl rfl rfl (x_faddr Tryd.underlying55 rfl ty53 (by decide) (hF.tmp 1 rfl) rfl) ?_; clear hF; intro a hF
     refine l_at hF rfl rfl rfl (x_faddr Tryd.underlying53 rfl ty51 (by decide) (hF.tmp 25 rfl) rfl) ?_; clear hF; intro a hF
     refine l_at hF rfl rfl rfl (x_load1 ty51 (hF.tmp 26 rfl) (blk_cell (hH.at 1 rfl) 2 rfl)) ?_; clear hF; intro a hF
     refine l_at hF rfl rfl rfl (x_eql (hF.tmp 27 rfl) rfl) ?_; clear hF; intro a hF
     refine wpList_nil ?_
     refine hK14 _ _ ?_
     refine wp_cond_split (hF.tmp 28 rfl) (fun hc28 => ?_) (fun hc28 => ?_)
     ·have hk28_9 := hc28; try simp only [Bool.or_eq_true, Bool.and_eq_true, Bool.or_eq_false_iff, Bool.and_eq_false_iff, Bool.not_eq_true', Bool.not_eq_false', decide_eq_true_eq, decide_eq_false_iff_not, Bool.not_true, Bool.not_false] at hc28
      refine wp_seq_k fun khK15 hK15 => ?_
      refine wp_region_lit ?_
      refine l_at hF rfl rfl rfl (x_faddr Tryd.underlying55 rfl ty53 (by decide) (hF.tmp 1 rfl) rfl) ?_; clear hF; intro a hF
      refine l_at hF rfl rfl rfl (x_faddr Tryd.underlying53 rfl ty9 (by decide) (hF.tmp 29 rfl) rfl) ?_; clear hF; intro a hF
      refine l_at hF rfl rfl rfl (x_load1 ty9 (hF.tmp 30 rfl) (blk_cell (hH.at 1 rfl) 3 rfl)) ?_; clear hF; intro a hF
      refine l_at hF rfl rfl rfl (x_adds (xs := ([116] : List Int)) (ys := o.step.2.1) (show _ = Value.string (strOfNums ([116] : List Int)) by kernel_rfl) (hF.tmp 31 rfl) (by simp only [List.length_cons, List.length_nil]; omega)) ?_; clear hF; intro a hF
      refine l_at hF rfl rfl rfl (x_assign (hF.tmp 32 rfl)) ?_; clear hF; intro a hF
      refine l_at hF rfl rfl rfl (x_assign rfl) ?_; clear hF; intro a hF
      refine wpList_nil ?_
      refine hK15 _ _ ?_
      refine wp_ret ?_
      try simp only [Exit.then, Exit.inBlock]
      have hv : (([116] : List Int) ++ o.step.2.1) = lockT o := by unfold lockT; simp [hc6, hc9, hc14, hc19, hc28]
      have hu : true = lockW o := by unfold lockW; simp [hc6, hc9, hc14, hc19, hc28]
      exact fin_ret hF (res2 hF rfl rfl rfl) ⟨by rw [← hv, ← hu] <;> rfl, hH.mods⟩
     ·have hk28_10 := hc28; try simp only [Bool.or_eq_true, Bool.and_eq_true, Bool.or_eq_false_iff, Bool.and_eq_false_iff, Bool.not_eq_true', Bool.not_eq_false', decide_eq_true_eq, decide_eq_false_iff_not, Bool.not_true, Bool.not_false] at hc28
      refine wp_skip ?_
      refine hK13 _ _ ?_
      refine wp_seq_k fun khK16 hK16 => ?_
      refine wp_region_lit ?_
      refine l_at hF rfl rfl rfl (x_faddr Tryd.underlying55 rfl ty53 (by decide) (hF.tmp 1 rfl) rfl) ?_; clear hF; intro a hF
      refine l_at hF rfl rfl rfl (x_faddr Tryd.underlying53 rfl ty9 (by decide) (hF.tmp 33 rfl) rfl) ?_; clear hF; intro a hF
      refine l_at hF rfl rfl rfl (x_load1 ty9 (hF.tmp 34 rfl) (blk_cell (hH.at 1 rfl) 3 rfl)) ?_; clear hF; intro a hF
      refine l_at hF rfl rfl rfl (x_adds (xs := ([107] : List Int)) (ys := o.step.2.1) (show _ = Value.string (strOfNums ([107] : List Int)) by kernel_rfl) (hF.tmp 35 rfl) (by simp only [List.length_cons, List.length_nil]; omega)) ?_; clear hF; intro a hF
      refine l_at hF rfl rfl rfl (x_assign (hF.tmp 36 rfl)) ?_; clear hF; intro a hF
      refine l_at hF rfl rfl rfl (x_assign rfl) ?_; clear hF; intro a hF
      refine wpList_nil ?_
      refine hK16 _ _ ?_
      refine wp_ret ?_
      try simp only [Exit.then, Exit.inBlock]
      have hv : (([107] : List Int) ++ o.step.2.1) = lockT o := by unfold lockT; simp [hc6, hc9, hc14, hc19, hc28]
      have hu : true = lockW o := by unfold lockW; simp [hc6, hc9, hc14, hc19, hc28]
      exact fin_ret hF (res2 hF rfl rfl rfl) ⟨by rw [← hv, ← hu] <;> rfl, hH.mods⟩
set_option maxRecDepth 100000 in
set_option maxHeartbeats 1000000 in
theorem ours_calls (w0 : World) {xs : List Int} (hb : Byte xs) (hl : 1 ≤ xs.length) : Calls Tryd.prog 85 #[.string (strOfNums xs)] w0 fun e w' => e = .returned (.bool (oursI xs)) ∧ Mods (fun _ => False) w0 w' := by
 refine calls_of_wp Tryd.func85 rfl ?_
 have hF := Fr.enter #[.string (strOfNums xs)] 6 (slotsOf [.string (strOfNums xs)] 0) (Nat.le_of_ble_eq_true rfl) (fun i v h => by have h2 := (get_slotsOf _ 0 i v h).2; simpa only [List.getElem?_toArray, Nat.sub_zero] using h2)
 have hH := Hp.nil (fun _ => False) w0
 rw [Tryd.ntmps85]
 revert hF; generalize (⟨(#[.string (strOfNums xs)] : Array Value) ++ Array.replicate (6 - (#[.string (strOfNums xs)] : Array Value).size) undef, []⟩ : Act) = a; intro hF
 refine wp_seq_k fun khK1 hK1 => ?_
 refine wp_region_lit ?_
 refine l_at hF rfl rfl rfl (x_assign rfl) ?_; clear hF; intro a hF
 refine wpList_nil ?_
 refine hK1 _ _ ?_
 refine wp_seq_k fun khK2 hK2 => ?_
 refine wp_region_lit ?_
 refine l_at hF rfl rfl rfl (x_move (hF.tmp 0 rfl)) ?_; clear hF; intro a hF
 refine l_at hF rfl rfl rfl (x_sliceS (xs := xs) Tryd.underlying9 (hF.tmp 3 rfl) rfl (by omega) (by omega)) ?_; clear hF; intro a hF
 refine l_at hF rfl rfl rfl (x_eqn (xs := (xs.take (Int.toNat 1))) (ys := ([64] : List Int)) (hF.tmp 4 rfl) (show _ = Value.string (strOfNums ([64] : List Int)) by kernel_rfl) (hb.take _) (byte_c [64] (by decide))) ?_; clear hF; intro a hF
 refine l_at hF rfl rfl rfl (x_assign (hF.tmp 5 rfl)) ?_; clear hF; intro a hF
 refine wpList_nil ?_
 refine hK2 _ _ ?_
 refine wp_ret ?_
 try simp only [Exit.then, Exit.inBlock]
 exact fin_ret hF (res1 hF rfl rfl) ⟨rfl, hH.mods⟩
set_option maxRecDepth 100000 in
set_option maxHeartbeats 1000000 in
theorem wrong1_calls (w0 : World) (s : StepD) (hb : StepB s) (hl : 1 ≤ s.2.1.length) : Calls Tryd.prog 87 #[.agg #[.int .i64 s.1, .string (strOfNums s.2.1), .string (strOfNums s.2.2.1), .int .i64 s.2.2.2]] w0 fun e w' => e = .returned (.bool (oursI s.2.1)) ∧ Mods (fun _ => False) w0 w' := by
 refine calls_of_wp Tryd.func87 rfl ?_
 have hF := Fr.enter #[.agg #[.int .i64 s.1, .string (strOfNums s.2.1), .string (strOfNums s.2.2.1), .int .i64 s.2.2.2]] 6 (slotsOf [.agg #[.int .i64 s.1, .string (strOfNums s.2.1), .string (strOfNums s.2.2.1), .int .i64 s.2.2.2]] 0) (Nat.le_of_ble_eq_true rfl) (fun i v h => by have h2 := (get_slotsOf _ 0 i v h).2; simpa only [List.getElem?_toArray, Nat.sub_zero] using h2)
 have hH := Hp.nil (fun _ => False) w0
 rw [Tryd.ntmps87]
 revert hF; generalize (⟨(#[.agg #[.int .i64 s.1, .string (strOfNums s.2.1), .string (strOfNums s.2.2.1), .int .i64 s.2.2.2]] : Array Value) ++ Array.replicate (6 - (#[.agg #[.int .i64 s.1, .string (strOfNums s.2.1), .string (strOfNums s.2.2.1), .int .i64 s.2.2.2]] : Array Value).size) undef, []⟩ : Act) = a; intro hF
 refine wp_seq_k fun khK1 hK1 => ?_
 refine wp_region_lit ?_
 refine wpList_plain rfl fun K hK => ?_
 refine w_box 1 hF hH rfl (hF.tmp 0 rfl) ?_
 clear hF hH; intro a w b1 hF hH
 refine hK _ _ ?_; clear hK K
 refine l_at hF rfl rfl rfl (x_assign rfl) ?_; clear hF; intro a hF
 refine wpList_nil ?_
 refine hK1 _ _ ?_
 refine wp_seq_k fun khK2 hK2 => ?_
 refine wp_region_lit ?_
 refine l_at hF rfl rfl rfl (x_faddr Tryd.underlying53 rfl ty9 (by decide) (hF.tmp 1 rfl) rfl) ?_; clear hF; intro a hF
 refine l_at hF rfl rfl rfl (x_load1 ty9 (hF.tmp 3 rfl) (blk_cell (hH.at 1 rfl) 1 rfl)) ?_; clear hF; intro a hF
 refine wpList_plain rfl fun K hK => ?_
 refine w_call hF (x_enter Tryd.func85 (by kernel_rfl) rfl (by simp only [List.map_toArray, List.map_cons, List.map_nil, hF.tmp 4 rfl] <;> rfl)) (ours_calls (xs := s.2.1) _ hb.1 hl) rfl rfl ?_
 rintro _ w ⟨rfl, hm_⟩; refine ⟨_, rfl, ?_⟩; clear hF; intro a hF; have hH := hH.same hm_
 refine hK _ _ ?_; clear hK K
 refine l_at hF rfl rfl rfl (x_assign (hF.tmp 5 rfl)) ?_; clear hF; intro a hF
 refine wpList_nil ?_
 refine hK2 _ _ ?_
 refine wp_ret ?_
 try simp only [Exit.then, Exit.inBlock]
 exact fin_ret hF (res1 hF rfl rfl) ⟨rfl, hH.mods⟩
set_option maxRecDepth 100000 in
set_option maxHeartbeats 1000000 in
theorem indexS_calls (w0 : World) {ok : Nat → Prop} {A : Option Addr} {xs : List StepD} {c : Nat} (hr : Rd StE w0 ok A xs c) (hbs : ∀ s ∈ xs, StepB s ∧ 1 ≤ s.2.1.length) : Calls Tryd.prog 104 #[.slice A xs.length c, .func (.func 87) #[] #[]] w0 fun e w' => ∃ i, e = .returned (.int .i64 i) ∧ decide ((0 : Int) ≤ i) = xs.any (fun s : StepD => oursI s.2.1) ∧ Mods (fun _ => False) w0 w' := by
 refine calls_of_wp Tryd.func104 rfl ?_
 have hF := Fr.enter #[.slice A xs.length c, .func (.func 87) #[] #[]] 19 (slotsOf [.slice A xs.length c, .func (.func 87) #[] #[]] 0) (Nat.le_of_ble_eq_true rfl) (fun i v h => by have h2 := (get_slotsOf _ 0 i v h).2; simpa only [List.getElem?_toArray, Nat.sub_zero] using h2)
 have hH := Hp.nil (fun _ => False) w0
 rw [Tryd.ntmps104]
 revert hF; generalize (⟨(#[.slice A xs.length c, .func (.func 87) #[] #[]] : Array Value) ++ Array.replicate (19 - (#[.slice A xs.length c, .func (.func 87) #[] #[]] : Array Value).size) undef, []⟩ : Act) = a; intro hF
 have hH := hH.arg 901 hr.all (fun _ h => ⟨h, fun h => h⟩)
 have hle901 := hr.le; unfold maxLen at hle901
 refine wp_seq_k fun khK1 hK1 => ?_
 refine wp_region_lit ?_
 refine l_at hF rfl rfl rfl (x_assign rfl) ?_; clear hF; intro a hF
 refine wpList_nil ?_
 refine hK1 _ _ ?_
 refine wp_seq_k fun khK2 hK2 => ?_
 refine wp_seq_k fun khK3 hK3 => ?_
 refine wp_region_lit ?_
 refine l_at hF rfl rfl rfl (x_move (hF.tmp 0 rfl)) ?_; clear hF; intro a hF
 refine l_at hF rfl rfl rfl (x_len_slice Tryd.underlying37 (hF.tmp 6 rfl)) ?_; clear hF; intro a hF
 refine l_at hF rfl rfl rfl (x_move rfl) ?_; clear hF; intro a hF
 refine wpList_nil ?_
 refine hK3 _ _ ?_
 refine wp_block ?_
 refine wp_loop_ghost (fun n_ a w => ∃ k : Nat, n_ = xs.length - k ∧ (k ≤ xs.length) ∧ ((xs.take k).any (fun s : StepD => oursI s.2.1) = false) ∧ Fr 19 a [(0, .slice A xs.length c), (1, .func (.func 87) #[] #[]), (7, .int .i64 (xs.length : Int)), (8, .int .i64 (k : Int))] ∧ Hp (fun _ => False) w0 w [(901, .rd_ StE A xs c (fun k => k < w0.heap.size))]) (xs.length) ?_ ?_
 ·exact ⟨0, rfl, by omega, rfl, ((((hF.bare.add hF 8 rfl).add hF 7 rfl).add hF 1 rfl).add hF 0 rfl), hH.sub _ (sub_cons (sub_nil _) 901 rfl)⟩
 ·rintro _ a w ⟨k, rfl, hq0_0, hq0_1, hF, hH⟩
  refine wp_seq_k fun khK4 hK4 => ?_
  refine wp_region_lit ?_
  refine l_at hF rfl rfl rfl (x_lss (hF.tmp 8 rfl) (hF.tmp 7 rfl)) ?_; clear hF; intro a hF
  refine wpList_nil ?_
  refine hK4 _ _ ?_
  refine wp_seq_k fun khK5 hK5 => ?_
  refine wp_cond_split (hF.tmp 9 rfl) (fun hc9 => ?_) (fun hc9 => ?_)
  ·have hk9_1 := hc9; try simp only [Bool.or_eq_true, Bool.and_eq_true, Bool.or_eq_false_iff, Bool.and_eq_false_iff, Bool.not_eq_true', Bool.not_eq_false', decide_eq_true_eq, decide_eq_false_iff_not, Bool.not_true, Bool.not_false] at hc9
   refine wp_skip ?_
   refine hK5 _ _ ?_
   refine wp_seq_k fun khK6 hK6 => ?_
   refine wp_block ?_
   refine wp_seq_k fun khK7 hK7 => ?_
   refine wp_region_lit ?_
   refine l_at hF rfl rfl rfl (x_move (hF.tmp 8 rfl)) ?_; clear hF; intro a hF
   refine l_at hF rfl rfl rfl (x_assign (hF.tmp 10 rfl)) ?_; clear hF; intro a hF
   refine wpList_nil ?_
   refine hK7 _ _ ?_
   refine wp_seq_k fun khK8 hK8 => ?_
   refine wp_region_lit ?_
   obtain ⟨hf1_0, hf1_1, hf1_2, hf1_3, hfw1⟩ := rd_st ((hH.rd 901 rfl)) (gst_some (xs := xs) (i := (k : Int)) (by omega) (by omega))
   have hH := hH.subcels 901 rfl 1499 hfw1 (Rd.inok ((hH.rd 901 rfl)) (by omega) _)
   have hH := hH.subcel 901 rfl 1500 hf1_0 (Rd.inok ((hH.rd 901 rfl)) (by omega) _)
   have hH := hH.subcel 901 rfl 1501 hf1_1 (Rd.inok ((hH.rd 901 rfl)) (by omega) _)
   have hH := hH.subcel 901 rfl 1502 hf1_2 (Rd.inok ((hH.rd 901 rfl)) (by omega) _)
   have hH := hH.subcel 901 rfl 1503 hf1_3 (Rd.inok ((hH.rd 901 rfl)) (by omega) _)
   refine l_at hF rfl rfl rfl (x_move (hF.tmp 1 rfl)) ?_; clear hF; intro a hF
   refine l_at hF rfl rfl rfl (x_move (hF.tmp 0 rfl)) ?_; clear hF; intro a hF
   refine l_at hF rfl rfl rfl (x_move (hF.tmp 5 rfl)) ?_; clear hF; intro a hF
   refine l_at hF rfl rfl rfl (x_iaddr_A Tryd.underlying37 ty53 ((hH.rd 901 rfl)) (hF.tmp 12 rfl) (hF.tmp 13 rfl) (by omega) (by omega) _) ?_; clear hF; intro a hF
   refine l_at hF rfl rfl rfl (x_loadn ty53 (hF.tmp 14 rfl) rfl (hH.holds 1499 _ rfl)) ?_; clear hF; intro a hF
   refine wpList_plain rfl fun K hK => ?_
   refine w_call hF (x_enterC (vs := #[.agg #[.int .i64 (gst xs (k : Int)).1, .string (strOfNums (gst xs (k : Int)).2.1), .string (strOfNums (gst xs (k : Int)).2.2.1), .int .i64 (gst xs (k : Int)).2.2.2]]) (caps := #[]) (args := #[.agg #[.int .i64 (gst xs (k : Int)).1, .string (strOfNums (gst xs (k : Int)).2.1), .string (strOfNums (gst xs (k : Int)).2.2.1), .int .i64 (gst xs (k : Int)).2.2.2]]) Tryd.func87 (by kernel_rfl) rfl (hF.tmp 11 rfl) (by simp only [List.map_toArray, List.map_cons, List.map_nil, hF.tmp 15 rfl] <;> rfl) rfl) (wrong1_calls _ (gst xs (k : Int)) (hbs _ (gst_mem (xs := xs) (j := k) (by omega))).1 (hbs _ (gst_mem (xs := xs) (j := k) (by omega))).2) rfl rfl ?_
   rintro _ w ⟨rfl, hm_⟩; refine ⟨_, rfl, ?_⟩; clear hF; intro a hF; have hH := hH.same hm_
   refine hK _ _ ?_; clear hK K
   refine wpList_nil ?_
   refine hK8 _ _ ?_
   refine wp_cond_split (hF.tmp 16 rfl) (fun hc16 => ?_) (fun hc16 => ?_)
   ·have hk16_2 := hc16; try simp only [Bool.or_eq_true, Bool.and_eq_true, Bool.or_eq_false_iff, Bool.and_eq_false_iff, Bool.not_eq_true', Bool.not_eq_false', decide_eq_true_eq, decide_eq_false_iff_not, Bool.not_true, Bool.not_false] at hc16
    have hz : decide ((0 : Int) ≤ (k : Int)) = xs.any (fun s : StepD => oursI s.2.1) := by rw [decide_eq_true (by omega), any_hit (p := (fun s : StepD => oursI s.2.1)) (gst_some (xs := xs) (i := (k : Int)) (by omega) (by omega)) hc16]
    refine wp_seq_k fun khK9 hK9 => ?_
    refine wp_region_lit ?_
    refine l_at hF rfl rfl rfl (x_move (hF.tmp 5 rfl)) ?_; clear hF; intro a hF
    refine l_at hF rfl rfl rfl (x_assign (hF.tmp 17 rfl)) ?_; clear hF; intro a hF
    refine wpList_nil ?_
    refine hK9 _ _ ?_
    refine wp_ret ?_
    try simp only [Exit.then, Exit.inBlock]
    exact fin_ret hF (res1 hF rfl rfl) ⟨_, rfl, hz, hH.mods⟩
   ·have hk16_3 := hc16; try simp only [Bool.or_eq_true, Bool.and_eq_true, Bool.or_eq_false_iff, Bool.and_eq_false_iff, Bool.not_eq_true', Bool.not_eq_false', decide_eq_true_eq, decide_eq_false_iff_not, Bool.not_true, Bool.not_false] at hc16
    have hno : (fun s : StepD => oursI s.2.1) (gst xs (k : Int)) = false := by first | exact hk16_2 | simpa using hc16
    refine wp_skip ?_
    refine hK6 _ _ ?_
    refine wp_region_lit ?_
    refine l_at hF rfl rfl rfl (x_add (hF.tmp 8 rfl) rfl (w64 (by omega) (by omega))) ?_; clear hF; intro a hF
    refine l_at hF rfl rfl rfl (x_move (hF.tmp 18 rfl)) ?_; clear hF; intro a hF
    refine wpList_nil ?_
    exact ⟨_, by omega, ⟨k + 1, rfl, by omega, any_take (gst_some (xs := xs) (i := (k : Int)) (by omega) (by omega)) hq0_1 hno, ((((hF.bare.add hF 8 rfl).add hF 7 rfl).add hF 1 rfl).add hF 0 rfl), hH.sub _ (sub_cons (sub_nil _) 901 rfl)⟩⟩
  ·have hk9_4 := hc9; try simp only [Bool.or_eq_true, Bool.and_eq_true, Bool.or_eq_false_iff, Bool.and_eq_false_iff, Bool.not_eq_true', Bool.not_eq_false', decide_eq_true_eq, decide_eq_false_iff_not, Bool.not_true, Bool.not_false] at hc9
   obtain rfl : k = xs.length := by omega
   rw [List.take_length] at hq0_1
   have hz : decide ((0 : Int) ≤ -1) = xs.any (fun s : StepD => oursI s.2.1) := by rw [hq0_1]; rfl
   refine wp_exit ?_
   refine hK2 _ _ ?_
   refine wp_seq_k fun khK10 hK10 => ?_
   refine wp_region_lit ?_
   refine l_at hF rfl rfl rfl (x_assign rfl) ?_; clear hF; intro a hF
   refine wpList_nil ?_
   refine hK10 _ _ ?_
   refine wp_ret ?_
   try simp only [Exit.then, Exit.inBlock]
   exact fin_ret hF (res1 hF rfl rfl) ⟨_, rfl, hz, hH.mods⟩
set_option maxRecDepth 100000 in
set_option maxHeartbeats 1000000 in
theorem containsS_calls (w0 : World) {ok : Nat → Prop} {A : Option Addr} {xs : List StepD} {c : Nat} (hr : Rd StE w0 ok A xs c) (hbs : ∀ s ∈ xs, StepB s ∧ 1 ≤ s.2.1.length) : Calls Tryd.prog 86 #[.slice A xs.length c, .func (.func 87) #[] #[]] w0 fun e w' => e = .returned (.bool (xs.any (fun s : StepD => oursI s.2.1))) ∧ Mods (fun _ => False) w0 w' := by
 refine calls_of_wp Tryd.func86 rfl ?_
 have hF := Fr.enter #[.slice A xs.length c, .func (.func 87) #[] #[]] 9 (slotsOf [.slice A xs.length c, .func (.func 87) #[] #[]] 0) (Nat.le_of_ble_eq_true rfl) (fun i v h => by have h2 := (get_slotsOf _ 0 i v h).2; simpa only [List.getElem?_toArray, Nat.sub_zero] using h2)
 have hH := Hp.nil (fun _ => False) w0
 rw [Tryd.ntmps86]
 revert hF; generalize (⟨(#[.slice A xs.length c, .func (.func 87) #[] #[]] : Array Value) ++ Array.replicate (9 - (#[.slice A xs.length c, .func (.func 87) #[] #[]] : Array Value).size) undef, []⟩ : Act) = a; intro hF
 have hH := hH.arg 901 hr.all (fun _ h => ⟨h, fun h => h⟩)
 have hle901 := hr.le; unfold maxLen at hle901
 refine wp_seq_k fun khK1 hK1 => ?_
 refine wp_region_lit ?_
 refine l_at hF rfl rfl rfl (x_assign rfl) ?_; clear hF; intro a hF
 refine wpList_nil ?_
 refine hK1 _ _ ?_
 refine wp_seq_k fun khK2 hK2 => ?_
 refine wp_region_lit ?_
 refine l_at hF rfl rfl rfl (x_move (hF.tmp 0 rfl)) ?_; clear hF; intro a hF
 refine l_at hF rfl rfl rfl (x_move (hF.tmp 1 rfl)) ?_; clear hF; intro a hF
 refine wpList_plain rfl fun K hK => ?_
 refine w_call hF (x_enter Tryd.func104 (by kernel_rfl) rfl (by simp only [List.map_toArray, List.map_cons, List.map_nil, hF.tmp 5 rfl, hF.tmp 6 rfl] <;> rfl)) (indexS_calls _ ((hH.rd 901 rfl)) hbs) rfl rfl ?_
 rintro _ w ⟨i_, rfl, hi_, hm_⟩; refine ⟨_, rfl, ?_⟩; clear hF; intro a hF; have hH := hH.same hm_
 refine hK _ _ ?_; clear hK K
 refine l_at hF rfl rfl rfl (x_geq (hF.tmp 7 rfl) rfl) ?_; clear hF; intro a hF
 refine l_at hF rfl rfl rfl (x_assign (hF.tmp 8 rfl)) ?_; clear hF; intro a hF
 refine wpList_nil ?_
 refine hK2 _ _ ?_
 refine wp_ret ?_
 try simp only [Exit.then, Exit.inBlock]
 exact fin_ret hF (res1 hF rfl rfl) ⟨by rw [← hi_] <;> rfl, hH.mods⟩
set_option maxRecDepth 100000 in
set_option maxHeartbeats 1000000 in
theorem wrong_calls (w0 : World) {pp : Bool} (hL : LibAt pp w0) {o : OpD} {oko0 : Nat → Prop} {Ao0 : Option Addr} {co0 : Nat} (hro0 : Rd StE w0 oko0 Ao0 o.timer.steps co0) (hb : OpB o) : Calls Tryd.prog 56 #[.agg #[.int .i64 o.kind, .string (strOfNums o.key), .int .i64 o.step.1, .string (strOfNums o.step.2.1), .string (strOfNums o.step.2.2.1), .int .i64 o.step.2.2.2, .string (strOfNums o.timer.name), .int .i64 o.timer.ver, .int .u64 o.timer.tick, .int .u64 o.timer.every, .slice Ao0 o.timer.steps.length co0]] w0 fun e w' => e = .returned (.bool (wrongO o)) ∧ Mods (fun _ => False) w0 w' := by
 refine calls_of_wp Tryd.func56 rfl ?_
 have hF := Fr.enter #[.agg #[.int .i64 o.kind, .string (strOfNums o.key), .int .i64 o.step.1, .string (strOfNums o.step.2.1), .string (strOfNums o.step.2.2.1), .int .i64 o.step.2.2.2, .string (strOfNums o.timer.name), .int .i64 o.timer.ver, .int .u64 o.timer.tick, .int .u64 o.timer.every, .slice Ao0 o.timer.steps.length co0]] 23 (slotsOf [.agg #[.int .i64 o.kind, .string (strOfNums o.key), .int .i64 o.step.1, .string (strOfNums o.step.2.1), .string (strOfNums o.step.2.2.1), .int .i64 o.step.2.2.2, .string (strOfNums o.timer.name), .int .i64 o.timer.ver, .int .u64 o.timer.tick, .int .u64 o.timer.every, .slice Ao0 o.timer.steps.length co0]] 0) (Nat.le_of_ble_eq_true rfl) (fun i v h => by have h2 := (get_slotsOf _ 0 i v h).2; simpa only [List.getElem?_toArray, Nat.sub_zero] using h2)
 have hH := Hp.nil (fun _ => False) w0
 rw [Tryd.ntmps56]
 revert hF; generalize (⟨(#[.agg #[.int .i64 o.kind, .string (strOfNums o.key), .int .i64 o.step.1, .string (strOfNums o.step.2.1), .string (strOfNums o.step.2.2.1), .int .i64 o.step.2.2.2, .string (strOfNums o.timer.name), .int .i64 o.timer.ver, .int .u64 o.timer.tick, .int .u64 o.timer.every, .slice Ao0 o.timer.steps.length co0]] : Array Value) ++ Array.replicate (23 - (#[.agg #[.int .i64 o.kind, .string (strOfNums o.key), .int .i64 o.step.1, .string (strOfNums o.step.2.1), .string (strOfNums o.step.2.2.1), .int .i64 o.step.2.2.2, .string (strOfNums o.timer.name), .int .i64 o.timer.ver, .int .u64 o.timer.tick, .int .u64 o.timer.every, .slice Ao0 o.timer.steps.length co0]] : Array Value).size) undef, []⟩ : Act) = a; intro hF
 have hH := hH.arg 900 hro0.all (fun _ h => ⟨h, fun h => h⟩)
 have hleo0 := hro0.le; unfold maxLen at hleo0
 have hH := hH.libN 990 hL
 refine wp_seq_k fun khK1 hK1 => ?_
 refine wp_region_lit ?_
 refine wpList_plain rfl fun K hK => ?_
 refine w_box 1 hF hH rfl (hF.tmp 0 rfl) ?_
 clear hF hH; intro a w b1 hF hH
 refine hK _ _ ?_; clear hK K
 refine l_at hF rfl rfl rfl (x_assign rfl) ?_; clear hF; intro a hF
 refine wpList_nil ?_
 refine hK1 _ _ ?_
 refine wp_seq_k fun khK2 hK2 => ?_
 refine wp_region_lit ?_
 refine l_at hF rfl rfl rfl (x_loadn ty55 (hF.tmp 1 rfl) rfl (blk_whole (hH.at 1 rfl))) ?_; clear hF; intro a hF
 refine wpList_plain rfl fun K hK => ?_
 refine w_call hF (x_enter Tryd.func84 (by kernel_rfl) rfl (by simp only [List.map_toArray, List.map_cons, List.map_nil, hF.tmp 6 rfl] <;> rfl)) (lock_calls (o := o) _ (hH.holds 990 _ rfl) ((hH.rd 900 rfl)) hb) rfl rfl ?_
 rintro _ w ⟨rfl, hm_⟩; refine ⟨_, rfl, ?_⟩; clear hF; intro a hF; have hH := hH.same hm_
 refine hK _ _ ?_; clear hK K
 refine l_at hF rfl rfl rfl (x_move (hF.tmp 7 rfl)) ?_; clear hF; intro a hF
 refine l_at hF rfl rfl rfl (x_extract (hF.tmp 5 rfl) rfl) ?_; clear hF; intro a hF
 refine l_at hF rfl rfl rfl (x_extract (hF.tmp 5 rfl) rfl) ?_; clear hF; intro a hF
 refine l_at hF rfl rfl rfl (x_assign (hF.tmp 8 rfl)) ?_; clear hF; intro a hF
 refine l_at hF rfl rfl rfl (x_assign (hF.tmp 9 rfl)) ?_; clear hF; intro a hF
 refine wpList_nil ?_
 refine hK2 _ _ ?_
 refine wp_seq_k fun khK3 hK3 => ?_
 refine wp_region_lit ?_
 refine l_at hF rfl rfl rfl (x_move (hF.tmp 3 rfl)) ?_; clear hF; intro a hF
 refine l_at hF rfl rfl rfl (x_eqn0 (xs := (lockT o)) (hF.tmp 10 rfl) (show _ = Value.string (strOfNums ([] : List Int)) by kernel_rfl)) ?_; clear hF; intro a hF
 refine l_at hF rfl rfl rfl (x_move (hF.tmp 11 rfl)) ?_; clear hF; intro a hF
 refine split_bool hF 12 rfl (fun hb12 => ?_) (fun hb12 => ?_)
 ·have hc12 := hb12; try simp only [Bool.or_eq_true, Bool.and_eq_true, Bool.or_eq_false_iff, Bool.and_eq_false_iff, Bool.not_eq_true', Bool.not_eq_false', decide_eq_true_eq, decide_eq_false_iff_not, Bool.not_true, Bool.not_false] at hc12
  refine l_offg hF ((wanted_of hF rfl rfl rfl rfl).trans (by rw [hb12]; rfl)) rfl rfl ?_; clear hF; intro a hF
  refine l_offg hF ((wanted_of hF rfl rfl rfl rfl).trans (by rw [hb12]; rfl)) rfl rfl ?_; clear hF; intro a hF
  refine l_offg hF ((wanted_of hF rfl rfl rfl rfl).trans (by rw [hb12]; rfl)) rfl rfl ?_; clear hF; intro a hF
  refine l_at hF rfl rfl rfl (x_pickT (hF.tmp 12 rfl) hb12 rfl) ?_; clear hF; intro a hF
  refine l_at hF rfl rfl rfl (x_move (hF.tmp 16 rfl)) ?_; clear hF; intro a hF
  refine l_offg hF ((wanted_of hF rfl rfl rfl rfl).trans rfl) rfl rfl ?_; clear hF; intro a hF
  refine l_offg hF ((wanted_of hF rfl rfl rfl rfl).trans rfl) rfl rfl ?_; clear hF; intro a hF
  refine l_offg hF ((wanted_of hF rfl rfl rfl rfl).trans rfl) rfl rfl ?_; clear hF; intro a hF
  refine l_offg hF ((wanted_of hF rfl rfl rfl rfl).trans rfl) rfl rfl ?_; clear hF; intro a hF
  refine l_at hF rfl rfl rfl (x_pickT (hF.tmp 17 rfl) rfl rfl) ?_; clear hF; intro a hF
  refine l_at hF rfl rfl rfl (x_assign (hF.tmp 22 rfl)) ?_; clear hF; intro a hF
  refine wpList_nil ?_
  refine hK3 _ _ ?_
  refine wp_ret ?_
  try simp only [Exit.then, Exit.inBlock]
  have hv : true = wrongO o := by unfold wrongO; cases o.timer.steps.any (fun s : StepD => oursI s.2.1) <;> simp [hc12, -List.drop_one, ← List.length_eq_zero_iff]
  exact fin_ret hF (res1 (v := .bool true) hF rfl rfl) ⟨by rw [hv], hH.mods⟩
 ·have hc12 := hb12; try simp only [Bool.or_eq_true, Bool.and_eq_true, Bool.or_eq_false_iff, Bool.and_eq_false_iff, Bool.not_eq_true', Bool.not_eq_false', decide_eq_true_eq, decide_eq_false_iff_not, Bool.not_true, Bool.not_false] at hc12
  have ho := over_of hc12
  have hll := lockT_len hb ho
  refine l_atg hF ((wanted_of hF rfl rfl rfl rfl).trans (by rw [hb12]; rfl)) rfl rfl (x_move (hF.tmp 3 rfl)) ?_; clear hF; intro a hF
  refine l_atg hF ((wanted_of hF rfl rfl rfl rfl).trans (by rw [hb12]; rfl)) rfl rfl (x_sliceSl (xs := (lockT o)) Tryd.underlying9 (hF.tmp 13 rfl) rfl (by omega) (by omega)) ?_; clear hF; intro a hF
  refine wpList_on ((wanted_of hF rfl rfl rfl rfl).trans (by rw [hb12]; rfl)) fun K hK => ?_
  refine w_call hF (x_enter Tryd.func85 (by kernel_rfl) rfl (by simp only [List.map_toArray, List.map_cons, List.map_nil, hF.tmp 14 rfl] <;> rfl)) (ours_calls (xs := (lockT o).drop 1) _ ((lockT_byte hb : Byte _).drop 1) (by rw [List.length_drop]; omega)) rfl rfl ?_
  rintro _ w ⟨rfl, hm_⟩; refine ⟨_, rfl, ?_⟩; clear hF; intro a hF; have hH := hH.same hm_
  refine hK _ _ ?_; clear hK K
  refine l_at hF rfl rfl rfl (x_pickF (hF.tmp 12 rfl) hb12 (hF.tmp 15 rfl)) ?_; clear hF; intro a hF
  refine l_at hF rfl rfl rfl (x_move (hF.tmp 16 rfl)) ?_; clear hF; intro a hF
  refine split_bool hF 17 rfl (fun hb17 => ?_) (fun hb17 => ?_)
  ·have hc17 := hb17; try simp only [Bool.or_eq_true, Bool.and_eq_true, Bool.or_eq_false_iff, Bool.and_eq_false_iff, Bool.not_eq_true', Bool.not_eq_false', decide_eq_true_eq, decide_eq_false_iff_not, Bool.not_true, Bool.not_false] at hc17
   refine l_offg hF ((wanted_of hF rfl rfl rfl rfl).trans (by rw [hb17]; rfl)) rfl rfl ?_; clear hF; intro a hF
   refine l_offg hF ((wanted_of hF rfl rfl rfl rfl).trans (by rw [hb17]; rfl)) rfl rfl ?_; clear hF; intro a hF
   refine l_offg hF ((wanted_of hF rfl rfl rfl rfl).trans (by rw [hb17]; rfl)) rfl rfl ?_; clear hF; intro a hF
   refine l_offg hF ((wanted_of hF rfl rfl rfl rfl).trans (by rw [hb17]; rfl)) rfl rfl ?_; clear hF; intro a hF
   refine l_at hF rfl rfl rfl (x_pickT (hF.tmp 17 rfl) hb17 rfl) ?_; clear hF; intro a hF
   refine l_at hF rfl rfl rfl (x_assign (hF.tmp 22 rfl)) ?_; clear hF; intro a hF
   refine wpList_nil ?_
   refine hK3 _ _ ?_
   refine wp_ret ?_
   try simp only [Exit.then, Exit.inBlock]
   have hv : true = wrongO o := by unfold wrongO; cases o.timer.steps.any (fun s : StepD => oursI s.2.1) <;> simp [hc12, hc17, -List.drop_one, ← List.length_eq_zero_iff]
   exact fin_ret hF (res1 (v := .bool true) hF rfl rfl) ⟨by rw [hv], hH.mods⟩
  ·have hc17 := hb17; try simp only [Bool.or_eq_true, Bool.and_eq_true, Bool.or_eq_false_iff, Bool.and_eq_false_iff, Bool.not_eq_true', Bool.not_eq_false', decide_eq_true_eq, decide_eq_false_iff_not, Bool.not_true, Bool.not_false] at hc17
   refine l_atg hF ((wanted_of hF rfl rfl rfl rfl).trans (by rw [hb17]; rfl)) rfl rfl (x_faddr Tryd.underlying55 rfl ty39 (by decide) (hF.tmp 1 rfl) rfl) ?_; clear hF; intro a hF
   refine l_atg hF ((wanted_of hF rfl rfl rfl rfl).trans (by rw [hb17]; rfl)) rfl rfl (x_faddr Tryd.underlying39 rfl ty37 (by decide) (hF.tmp 18 rfl) rfl) ?_; clear hF; intro a hF
   refine l_atg hF ((wanted_of hF rfl rfl rfl rfl).trans (by rw [hb17]; rfl)) rfl rfl (x_load1 ty37 (hF.tmp 19 rfl) (blk_cell (hH.at 1 rfl) 10 rfl)) ?_; clear hF; intro a hF
   refine wpList_on ((wanted_of hF rfl rfl rfl rfl).trans (by rw [hb17]; rfl)) fun K hK => ?_
   refine w_call hF (x_enter Tryd.func86 (by kernel_rfl) rfl (by simp only [List.map_toArray, List.map_cons, List.map_nil, hF.tmp 20 rfl] <;> rfl)) (containsS_calls _ ((hH.rd 900 rfl)) (fun s hs => ⟨hb.timer.steps s hs, (keys_len hb ho s hs).1⟩)) rfl rfl ?_
   rintro _ w ⟨rfl, hm_⟩; refine ⟨_, rfl, ?_⟩; clear hF; intro a hF; have hH := hH.same hm_
   refine hK _ _ ?_; clear hK K
   refine l_at hF rfl rfl rfl (x_pickF (hF.tmp 17 rfl) hb17 (hF.tmp 21 rfl)) ?_; clear hF; intro a hF
   refine l_at hF rfl rfl rfl (x_assign (hF.tmp 22 rfl)) ?_; clear hF; intro a hF
   refine wpList_nil ?_
   refine hK3 _ _ ?_
   refine wp_ret ?_
   try simp only [Exit.then, Exit.inBlock]
   have hv : (o.timer.steps.any (fun s : StepD => oursI s.2.1)) = wrongO o := by unfold wrongO; cases o.timer.steps.any (fun s : StepD => oursI s.2.1) <;> simp [hc12, hc17, -List.drop_one, ← List.length_eq_zero_iff]
   exact fin_ret hF (res1 (v := .bool (o.timer.steps.any (fun s : StepD => oursI s.2.1))) hF rfl rfl) ⟨by rw [hv], hH.mods⟩
set_option maxRecDepth 100000 in
set_option maxHeartbeats 1000000 in
theorem indexO_calls (w0 : World) {pp : Bool} (hL : LibAt pp w0) {ok : Nat → Prop} {A : Option Addr} {xs : List OpD} {c : Nat} (hr : Rd OpdE w0 ok A xs c) (hbs : ∀ o ∈ xs, OpB o) : Calls Tryd.prog 83 #[.slice A xs.length c, .func (.func 56) #[] #[]] w0 fun e w' => ∃ i, e = .returned (.int .i64 i) ∧ decide ((0 : Int) ≤ i) = xs.any wrongO ∧ Mods (fun _ => False) w0 w' := by
 refine calls_of_wp Tryd.func83 rfl ?_
 have hF := Fr.enter #[.slice A xs.length c, .func (.func 56) #[] #[]] 19 (slotsOf [.slice A xs.length c, .func (.func 56) #[] #[]] 0) (Nat.le_of_ble_eq_true rfl) (fun i v h => by have h2 := (get_slotsOf _ 0 i v h).2; simpa only [List.getElem?_toArray, Nat.sub_zero] using h2)
 have hH := Hp.nil (fun _ => False) w0
 rw [Tryd.ntmps83]
 revert hF; generalize (⟨(#[.slice A xs.length c, .func (.func 56) #[] #[]] : Array Value) ++ Array.replicate (19 - (#[.slice A xs.length c, .func (.func 56) #[] #[]] : Array Value).size) undef, []⟩ : Act) = a; intro hF
 have hH := hH.arg 901 hr.all (fun _ h => ⟨h, fun h => h⟩)
 have hle901 := hr.le; unfold maxLen at hle901
 have hH := hH.libN 990 hL
 refine wp_seq_k fun khK1 hK1 => ?_
 refine wp_region_lit ?_
 refine l_at hF rfl rfl rfl (x_assign rfl) ?_; clear hF; intro a hF
 refine wpList_nil ?_
 refine hK1 _ _ ?_
 refine wp_seq_k fun khK2 hK2 => ?_
 refine wp_seq_k fun khK3 hK3 => ?_
 refine wp_region_lit ?_
 refine l_at hF rfl rfl rfl (x_move (hF.tmp 0 rfl)) ?_; clear hF; intro a hF
 refine l_at hF rfl rfl rfl (x_len_slice Tryd.underlying43 (hF.tmp 6 rfl)) ?_; clear hF; intro a hF
 refine l_at hF rfl rfl rfl (x_move rfl) ?_; clear hF; intro a hF
 refine wpList_nil ?_
 refine hK3 _ _ ?_
 refine wp_block ?_
 refine wp_loop_ghost (fun n_ a w => ∃ k : Nat, n_ = xs.length - k ∧ (k ≤ xs.length) ∧ ((xs.take k).any wrongO = false) ∧ Fr 19 a [(0, .slice A xs.length c), (1, .func (.func 56) #[] #[]), (7, .int .i64 (xs.length : Int)), (8, .int .i64 (k : Int))] ∧ Hp (fun _ => False) w0 w [(901, .rd_ OpdE A xs c (fun k => k < w0.heap.size)), (990, .lib pp)]) (xs.length) ?_ ?_
 ·exact ⟨0, rfl, by omega, rfl, ((((hF.bare.add hF 8 rfl).add hF 7 rfl).add hF 1 rfl).add hF 0 rfl), hH.sub _ (sub_cons (sub_cons (sub_nil _) 990 rfl) 901 rfl)⟩
 ·rintro _ a w ⟨k, rfl, hq0_0, hq0_1, hF, hH⟩
  refine wp_seq_k fun khK4 hK4 => ?_
  refine wp_region_lit ?_
  refine l_at hF rfl rfl rfl (x_lss (hF.tmp 8 rfl) (hF.tmp 7 rfl)) ?_; clear hF; intro a hF
  refine wpList_nil ?_
  refine hK4 _ _ ?_
  refine wp_seq_k fun khK5 hK5 => ?_
  refine wp_cond_split (hF.tmp 9 rfl) (fun hc9 => ?_) (fun hc9 => ?_)
  ·have hk9_1 := hc9; try simp only [Bool.or_eq_true, Bool.and_eq_true, Bool.or_eq_false_iff, Bool.and_eq_false_iff, Bool.not_eq_true', Bool.not_eq_false', decide_eq_true_eq, decide_eq_false_iff_not, Bool.not_true, Bool.not_false] at hc9
   refine wp_skip ?_
   refine hK5 _ _ ?_
   refine wp_seq_k fun khK6 hK6 => ?_
   refine wp_block ?_
   refine wp_seq_k fun khK7 hK7 => ?_
   refine wp_region_lit ?_
   refine l_at hF rfl rfl rfl (x_move (hF.tmp 8 rfl)) ?_; clear hF; intro a hF
   refine l_at hF rfl rfl rfl (x_assign (hF.tmp 10 rfl)) ?_; clear hF; intro a hF
   refine wpList_nil ?_
   refine hK7 _ _ ?_
   refine wp_seq_k fun khK8 hK8 => ?_
   refine wp_region_lit ?_
   obtain ⟨fA1, fc1, hfr1, hf1_0, hf1_1, hf1_2, hf1_3, hf1_4, hf1_5, hf1_6, hf1_7, hf1_8, hf1_9, hf1_10, hfw1⟩ := rd_opd ((hH.rd 901 rfl)) (gopd_some (xs := xs) (i := (k : Int)) (by omega) (by omega))
   have hH := hH.subrd 901 rfl 1010 hfr1 (fun _ h => h)
   have hH := hH.subcels 901 rfl 1499 hfw1 (Rd.inok ((hH.rd 901 rfl)) (by omega) _)
   have hH := hH.subcel 901 rfl 1500 hf1_0 (Rd.inok ((hH.rd 901 rfl)) (by omega) _)
   have hH := hH.subcel 901 rfl 1501 hf1_1 (Rd.inok ((hH.rd 901 rfl)) (by omega) _)
   have hH := hH.subcel 901 rfl 1502 hf1_2 (Rd.inok ((hH.rd 901 rfl)) (by omega) _)
   have hH := hH.subcel 901 rfl 1503 hf1_3 (Rd.inok ((hH.rd 901 rfl)) (by omega) _)
   have hH := hH.subcel 901 rfl 1504 hf1_4 (Rd.inok ((hH.rd 901 rfl)) (by omega) _)
   have hH := hH.subcel 901 rfl 1505 hf1_5 (Rd.inok ((hH.rd 901 rfl)) (by omega) _)
   have hH := hH.subcel 901 rfl 1506 hf1_6 (Rd.inok ((hH.rd 901 rfl)) (by omega) _)
   have hH := hH.subcel 901 rfl 1507 hf1_7 (Rd.inok ((hH.rd 901 rfl)) (by omega) _)
   have hH := hH.subcel 901 rfl 1508 hf1_8 (Rd.inok ((hH.rd 901 rfl)) (by omega) _)
   have hH := hH.subcel 901 rfl 1509 hf1_9 (Rd.inok ((hH.rd 901 rfl)) (by omega) _)
   have hH := hH.subcel 901 rfl 1510 hf1_10 (Rd.inok ((hH.rd 901 rfl)) (by omega) _)
   refine l_at hF rfl rfl rfl (x_move (hF.tmp 1 rfl)) ?_; clear hF; intro a hF
   refine l_at hF rfl rfl rfl (x_move (hF.tmp 0 rfl)) ?_; clear hF; intro a hF
   refine l_at hF rfl rfl rfl (x_move (hF.tmp 5 rfl)) ?_; clear hF; intro a hF
   refine l_at hF rfl rfl rfl (x_iaddr_A Tryd.underlying43 ty55 ((hH.rd 901 rfl)) (hF.tmp 12 rfl) (hF.tmp 13 rfl) (by omega) (by omega) _) ?_; clear hF; intro a hF
   refine l_at hF rfl rfl rfl (x_loadn ty55 (hF.tmp 14 rfl) rfl (hH.holds 1499 _ rfl)) ?_; clear hF; intro a hF
   refine wpList_plain rfl fun K hK => ?_
   refine w_call hF (x_enterC (vs := #[.agg #[.int .i64 (gopd xs (k : Int)).kind, .string (strOfNums (gopd xs (k : Int)).key), .int .i64 (gopd xs (k : Int)).step.1, .string (strOfNums (gopd xs (k : Int)).step.2.1), .string (strOfNums (gopd xs (k : Int)).step.2.2.1), .int .i64 (gopd xs (k : Int)).step.2.2.2, .string (strOfNums (gopd xs (k : Int)).timer.name), .int .i64 (gopd xs (k : Int)).timer.ver, .int .u64 (gopd xs (k : Int)).timer.tick, .int .u64 (gopd xs (k : Int)).timer.every, .slice fA1 (gopd xs (k : Int)).timer.steps.length fc1]]) (caps := #[]) (args := #[.agg #[.int .i64 (gopd xs (k : Int)).kind, .string (strOfNums (gopd xs (k : Int)).key), .int .i64 (gopd xs (k : Int)).step.1, .string (strOfNums (gopd xs (k : Int)).step.2.1), .string (strOfNums (gopd xs (k : Int)).step.2.2.1), .int .i64 (gopd xs (k : Int)).step.2.2.2, .string (strOfNums (gopd xs (k : Int)).timer.name), .int .i64 (gopd xs (k : Int)).timer.ver, .int .u64 (gopd xs (k : Int)).timer.tick, .int .u64 (gopd xs (k : Int)).timer.every, .slice fA1 (gopd xs (k : Int)).timer.steps.length fc1]]) Tryd.func56 (by kernel_rfl) rfl (hF.tmp 11 rfl) (by simp only [List.map_toArray, List.map_cons, List.map_nil, hF.tmp 15 rfl] <;> rfl) rfl) (wrong_calls (o := (gopd xs (k : Int))) _ (hH.holds 990 _ rfl) ((hH.rd 1010 rfl)) (hbs _ (gopd_mem (xs := xs) (j := k) (by omega)))) rfl rfl ?_
   rintro _ w ⟨rfl, hm_⟩; refine ⟨_, rfl, ?_⟩; clear hF; intro a hF; have hH := hH.same hm_
   refine hK _ _ ?_; clear hK K
   refine wpList_nil ?_
   refine hK8 _ _ ?_
   refine wp_cond_split (hF.tmp 16 rfl) (fun hc16 => ?_) (fun hc16 => ?_)
   ·have hk16_2 := hc16; try simp only [Bool.or_eq_true, Bool.and_eq_true, Bool.or_eq_false_iff, Bool.and_eq_false_iff, Bool.not_eq_true', Bool.not_eq_false', decide_eq_true_eq, decide_eq_false_iff_not, Bool.not_true, Bool.not_false] at hc16
    have hz : decide ((0 : Int) ≤ (k : Int)) = xs.any wrongO := by rw [decide_eq_true (by omega), any_hit (p := wrongO) (gopd_some (xs := xs) (i := (k : Int)) (by omega) (by omega)) hc16]
    refine wp_seq_k fun khK9 hK9 => ?_
    refine wp_region_lit ?_
    refine l_at hF rfl rfl rfl (x_move (hF.tmp 5 rfl)) ?_; clear hF; intro a hF
    refine l_at hF rfl rfl rfl (x_assign (hF.tmp 17 rfl)) ?_; clear hF; intro a hF
    refine wpList_nil ?_
    refine hK9 _ _ ?_
    refine wp_ret ?_
    try simp only [Exit.then, Exit.inBlock]
    exact fin_ret hF (res1 hF rfl rfl) ⟨_, rfl, hz, hH.mods⟩
   ·have hk16_3 := hc16; try simp only [Bool.or_eq_true, Bool.and_eq_true, Bool.or_eq_false_iff, Bool.and_eq_false_iff, Bool.not_eq_true', Bool.not_eq_false', decide_eq_true_eq, decide_eq_false_iff_not, Bool.not_true, Bool.not_false] at hc16
    have hno : wrongO (gopd xs (k : Int)) = false := by first | exact hk16_2 | simpa using hc16
    refine wp_skip ?_
    refine hK6 _ _ ?_
    refine wp_region_lit ?_
    refine l_at hF rfl rfl rfl (x_add (hF.tmp 8 rfl) rfl (w64 (by omega) (by omega))) ?_; clear hF; intro a hF
    refine l_at hF rfl rfl rfl (x_move (hF.tmp 18 rfl)) ?_; clear hF; intro a hF
    refine wpList_nil ?_
    exact ⟨_, by omega, ⟨k + 1, rfl, by omega, any_take (gopd_some (xs := xs) (i := (k : Int)) (by omega) (by omega)) hq0_1 hno, ((((hF.bare.add hF 8 rfl).add hF 7 rfl).add hF 1 rfl).add hF 0 rfl), hH.sub _ (sub_cons (sub_cons (sub_nil _) 990 rfl) 901 rfl)⟩⟩
  ·have hk9_4 := hc9; try simp only [Bool.or_eq_true, Bool.and_eq_true, Bool.or_eq_false_iff, Bool.and_eq_false_iff, Bool.not_eq_true', Bool.not_eq_false', decide_eq_true_eq, decide_eq_false_iff_not, Bool.not_true, Bool.not_false] at hc9
   obtain rfl : k = xs.length := by omega
   rw [List.take_length] at hq0_1
   have hz : decide ((0 : Int) ≤ -1) = xs.any wrongO := by rw [hq0_1]; rfl
   refine wp_exit ?_
   refine hK2 _ _ ?_
   refine wp_seq_k fun khK10 hK10 => ?_
   refine wp_region_lit ?_
   refine l_at hF rfl rfl rfl (x_assign rfl) ?_; clear hF; intro a hF
   refine wpList_nil ?_
   refine hK10 _ _ ?_
   refine wp_ret ?_
   try simp only [Exit.then, Exit.inBlock]
   exact fin_ret hF (res1 hF rfl rfl) ⟨_, rfl, hz, hH.mods⟩
set_option maxRecDepth 100000 in
set_option maxHeartbeats 1000000 in
theorem containsO_calls (w0 : World) {pp : Bool} (hL : LibAt pp w0) {ok : Nat → Prop} {A : Option Addr} {xs : List OpD} {c : Nat} (hr : Rd OpdE w0 ok A xs c) (hbs : ∀ o ∈ xs, OpB o) : Calls Tryd.prog 55 #[.slice A xs.length c, .func (.func 56) #[] #[]] w0 fun e w' => e = .returned (.bool (xs.any wrongO)) ∧ Mods (fun _ => False) w0 w' := by
 refine calls_of_wp Tryd.func55 rfl ?_
 have hF := Fr.enter #[.slice A xs.length c, .func (.func 56) #[] #[]] 9 (slotsOf [.slice A xs.length c, .func (.func 56) #[] #[]] 0) (Nat.le_of_ble_eq_true rfl) (fun i v h => by have h2 := (get_slotsOf _ 0 i v h).2; simpa only [List.getElem?_toArray, Nat.sub_zero] using h2)
 have hH := Hp.nil (fun _ => False) w0
 rw [Tryd.ntmps55]
 revert hF; generalize (⟨(#[.slice A xs.length c, .func (.func 56) #[] #[]] : Array Value) ++ Array.replicate (9 - (#[.slice A xs.length c, .func (.func 56) #[] #[]] : Array Value).size) undef, []⟩ : Act) = a; intro hF
 have hH := hH.arg 901 hr.all (fun _ h => ⟨h, fun h => h⟩)
 have hle901 := hr.le; unfold maxLen at hle901
 have hH := hH.libN 990 hL
 refine wp_seq_k fun khK1 hK1 => ?_
 refine wp_region_lit ?_
 refine l_at hF rfl rfl rfl (x_assign rfl) ?_; clear hF; intro a hF
 refine wpList_nil ?_
 refine hK1 _ _ ?_
 refine wp_seq_k fun khK2 hK2 => ?_
 refine wp_region_lit ?_
 refine l_at hF rfl rfl rfl (x_move (hF.tmp 0 rfl)) ?_; clear hF; intro a hF
 refine l_at hF rfl rfl rfl (x_move (hF.tmp 1 rfl)) ?_; clear hF; intro a hF
 refine wpList_plain rfl fun K hK => ?_
 refine w_call hF (x_enter Tryd.func83 (by kernel_rfl) rfl (by simp only [List.map_toArray, List.map_cons, List.map_nil, hF.tmp 5 rfl, hF.tmp 6 rfl] <;> rfl)) (indexO_calls _ (hH.holds 990 _ rfl) ((hH.rd 901 rfl)) hbs) rfl rfl ?_
 rintro _ w ⟨i_, rfl, hi_, hm_⟩; refine ⟨_, rfl, ?_⟩; clear hF; intro a hF; have hH := hH.same hm_
 refine hK _ _ ?_; clear hK K
 refine l_at hF rfl rfl rfl (x_geq (hF.tmp 7 rfl) rfl) ?_; clear hF; intro a hF
 refine l_at hF rfl rfl rfl (x_assign (hF.tmp 8 rfl)) ?_; clear hF; intro a hF
 refine wpList_nil ?_
 refine hK2 _ _ ?_
 refine wp_ret ?_
 try simp only [Exit.then, Exit.inBlock]
 exact fin_ret hF (res1 hF rfl rfl) ⟨by rw [← hi_] <;> rfl, hH.mods⟩
set_option maxRecDepth 100000 in
set_option maxHeartbeats 1000000 in
theorem rightQ_calls (w0 : World) {pp : Bool} (hL : LibAt pp w0) {r : SReqD} {okr0 : Nat → Prop} {Ar0 : Option Addr} {cr0 : Nat} (hrr0 : Rd OpdE w0 okr0 Ar0 r.ops cr0) (hb : SReqB r) : Calls Tryd.prog 21 #[.agg #[.string (strOfNums r.client), .int .i64 r.num, .slice Ar0 r.ops.length cr0]] w0 fun e w' => e = .returned (.bool (rightQ r)) ∧ Mods (fun _ => False) w0 w' := by
 refine calls_of_wp Tryd.func21 rfl ?_
 have hF := Fr.enter #[.agg #[.string (strOfNums r.client), .int .i64 r.num, .slice Ar0 r.ops.length cr0]] 40 (slotsOf [.agg #[.string (strOfNums r.client), .int .i64 r.num, .slice Ar0 r.ops.length cr0]] 0) (Nat.le_of_ble_eq_true rfl) (fun i v h => by have h2 := (get_slotsOf _ 0 i v h).2; simpa only [List.getElem?_toArray, Nat.sub_zero] using h2)
 have hH := Hp.nil (fun _ => False) w0
 rw [Tryd.ntmps21]
 revert hF; generalize (⟨(#[.agg #[.string (strOfNums r.client), .int .i64 r.num, .slice Ar0 r.ops.length cr0]] : Array Value) ++ Array.replicate (40 - (#[.agg #[.string (strOfNums r.client), .int .i64 r.num, .slice Ar0 r.ops.length cr0]] : Array Value).size) undef, []⟩ : Act) = a; intro hF
 have hH := hH.arg 900 hrr0.all (fun _ h => ⟨h, fun h => h⟩)
 have hler0 := hrr0.le; unfold maxLen at hler0
 have hH := hH.libN 990 hL
 refine wp_seq_k fun khK1 hK1 => ?_
 refine wp_region_lit ?_
 refine wpList_plain rfl fun K hK => ?_
 refine w_box 1 hF hH rfl (hF.tmp 0 rfl) ?_
 clear hF hH; intro a w b1 hF hH
 refine hK _ _ ?_; clear hK K
 refine l_at hF rfl rfl rfl (x_assign rfl) ?_; clear hF; intro a hF
 refine wpList_nil ?_
 refine hK1 _ _ ?_
 refine wp_seq_k fun khK2 hK2 => ?_
 refine wp_region_lit ?_
 refine l_at hF rfl rfl rfl (x_faddr Tryd.underlying45 rfl ty9 (by decide) (hF.tmp 1 rfl) rfl) ?_; clear hF; intro a hF
 refine l_at hF rfl rfl rfl (x_load1 ty9 (hF.tmp 3 rfl) (blk_cell (hH.at 1 rfl) 0 rfl)) ?_; clear hF; intro a hF
 refine l_at hF rfl rfl rfl (x_nen0 (xs := r.client) (hF.tmp 4 rfl) (show _ = Value.string (strOfNums ([] : List Int)) by kernel_rfl)) ?_; clear hF; intro a hF
 refine l_at hF rfl rfl rfl (x_move (hF.tmp 5 rfl)) ?_; clear hF; intro a hF
 refine split_bool hF 6 rfl (fun hb6 => ?_) (fun hb6 => ?_)
 ·have hc6 := hb6; try simp only [Bool.or_eq_true, Bool.and_eq_true, Bool.or_eq_false_iff, Bool.and_eq_false_iff, Bool.not_eq_true', Bool.not_eq_false', decide_eq_true_eq, decide_eq_false_iff_not, Bool.not_true, Bool.not_false] at hc6
  refine l_atg hF ((wanted_of hF rfl rfl rfl rfl).trans (by rw [hb6]; rfl)) rfl rfl (x_faddr Tryd.underlying45 rfl ty9 (by decide) (hF.tmp 1 rfl) rfl) ?_; clear hF; intro a hF
  refine l_atg hF ((wanted_of hF rfl rfl rfl rfl).trans (by rw [hb6]; rfl)) rfl rfl (x_load1 ty9 (hF.tmp 7 rfl) (blk_cell (hH.at 1 rfl) 0 rfl)) ?_; clear hF; intro a hF
  refine l_atg hF ((wanted_of hF rfl rfl rfl rfl).trans (by rw [hb6]; rfl)) rfl rfl (x_len_sn (xs := r.client) Tryd.underlying9 (hF.tmp 8 rfl)) ?_; clear hF; intro a hF
  refine l_atg hF ((wanted_of hF rfl rfl rfl rfl).trans (by rw [hb6]; rfl)) rfl rfl (x_leq (hF.tmp 9 rfl) rfl) ?_; clear hF; intro a hF
  refine l_at hF rfl rfl rfl (x_pickT (hF.tmp 6 rfl) hb6 (hF.tmp 10 rfl)) ?_; clear hF; intro a hF
  refine l_at hF rfl rfl rfl (x_move (hF.tmp 11 rfl)) ?_; clear hF; intro a hF
  refine split_bool hF 12 rfl (fun hb12 => ?_) (fun hb12 => ?_)
  ·have hc12 := hb12; try simp only [Bool.or_eq_true, Bool.and_eq_true, Bool.or_eq_false_iff, Bool.and_eq_false_iff, Bool.not_eq_true', Bool.not_eq_false', decide_eq_true_eq, decide_eq_false_iff_not, Bool.not_true, Bool.not_false] at hc12
   refine l_atg hF ((wanted_of hF rfl rfl rfl rfl).trans (by rw [hb12]; rfl)) rfl rfl (x_faddr Tryd.underlying45 rfl ty3 (by decide) (hF.tmp 1 rfl) rfl) ?_; clear hF; intro a hF
   refine l_atg hF ((wanted_of hF rfl rfl rfl rfl).trans (by rw [hb12]; rfl)) rfl rfl (x_load1 ty3 (hF.tmp 13 rfl) (blk_cell (hH.at 1 rfl) 1 rfl)) ?_; clear hF; intro a hF
   refine l_atg hF ((wanted_of hF rfl rfl rfl rfl).trans (by rw [hb12]; rfl)) rfl rfl (x_geq (hF.tmp 14 rfl) rfl) ?_; clear hF; intro a hF
   refine l_at hF rfl rfl rfl (x_pickT (hF.tmp 12 rfl) hb12 (hF.tmp 15 rfl)) ?_; clear hF; intro a hF
   refine l_at hF rfl rfl rfl (x_move (hF.tmp 16 rfl)) ?_; clear hF; intro a hF
   refine split_bool hF 17 rfl (fun hb17 => ?_) (fun hb17 => ?_)
   ·have hc17 := hb17; try simp only [Bool.or_eq_true, Bool.and_eq_true, Bool.or_eq_false_iff, Bool.and_eq_false_iff, Bool.not_eq_true', Bool.not_eq_false', decide_eq_true_eq, decide_eq_false_iff_not, Bool.not_true, Bool.not_false] at hc17
    refine l_atg hF ((wanted_of hF rfl rfl rfl rfl).trans (by rw [hb17]; rfl)) rfl rfl (x_faddr Tryd.underlying45 rfl ty3 (by decide) (hF.tmp 1 rfl) rfl) ?_; clear hF; intro a hF
    refine l_atg hF ((wanted_of hF rfl rfl rfl rfl).trans (by rw [hb17]; rfl)) rfl rfl (x_load1 ty3 (hF.tmp 18 rfl) (blk_cell (hH.at 1 rfl) 1 rfl)) ?_; clear hF; intro a hF
    refine l_atg hF ((wanted_of hF rfl rfl rfl rfl).trans (by rw [hb17]; rfl)) rfl rfl (x_leq (hF.tmp 19 rfl) rfl) ?_; clear hF; intro a hF
    refine l_at hF rfl rfl rfl (x_pickT (hF.tmp 17 rfl) hb17 (hF.tmp 20 rfl)) ?_; clear hF; intro a hF
    refine l_at hF rfl rfl rfl (x_move (hF.tmp 21 rfl)) ?_; clear hF; intro a hF
    refine split_bool hF 22 rfl (fun hb22 => ?_) (fun hb22 => ?_)
    ·have hc22 := hb22; try simp only [Bool.or_eq_true, Bool.and_eq_true, Bool.or_eq_false_iff, Bool.and_eq_false_iff, Bool.not_eq_true', Bool.not_eq_false', decide_eq_true_eq, decide_eq_false_iff_not, Bool.not_true, Bool.not_false] at hc22
     refine l_atg hF ((wanted_of hF rfl rfl rfl rfl).trans (by rw [hb22]; rfl)) rfl rfl (x_faddr Tryd.underlying45 rfl ty43 (by decide) (hF.tmp 1 rfl) rfl) ?_; clear hF; intro a hF
     refine l_atg hF ((wanted_of hF rfl rfl rfl rfl).trans (by rw [hb22]; rfl)) rfl rfl (x_load1 ty43 (hF.tmp 23 rfl) (blk_cell (hH.at 1 rfl) 2 rfl)) ?_; clear hF; intro a hF
     refine l_atg hF ((wanted_of hF rfl rfl rfl rfl).trans (by rw [hb22]; rfl)) rfl rfl (x_len_slice Tryd.underlying43 (hF.tmp 24 rfl)) ?_; clear hF; intro a hF
     refine l_atg hF ((wanted_of hF rfl rfl rfl rfl).trans (by rw [hb22]; rfl)) rfl rfl (x_geq (hF.tmp 25 rfl) rfl) ?_; clear hF; intro a hF
     refine l_at hF rfl rfl rfl (x_pickT (hF.tmp 22 rfl) hb22 (hF.tmp 26 rfl)) ?_; clear hF; intro a hF
     refine l_at hF rfl rfl rfl (x_move (hF.tmp 27 rfl)) ?_; clear hF; intro a hF
     refine split_bool hF 28 rfl (fun hb28 => ?_) (fun hb28 => ?_)
     ·have hc28 := hb28; try simp only [Bool.or_eq_true, Bool.and_eq_true, Bool.or_eq_false_iff, Bool.and_eq_false_iff, Bool.not_eq_true', Bool.not_eq_false', decide_eq_true_eq, decide_eq_false_iff_not, Bool.not_true, Bool.not_false] at hc28
      refine l_atg hF ((wanted_of hF rfl rfl rfl rfl).trans (by rw [hb28]; rfl)) rfl rfl (x_faddr Tryd.underlying45 rfl ty43 (by decide) (hF.tmp 1 rfl) rfl) ?_; clear hF; intro a hF
      refine l_atg hF ((wanted_of hF rfl rfl rfl rfl).trans (by rw [hb28]; rfl)) rfl rfl (x_load1 ty43 (hF.tmp 29 rfl) (blk_cell (hH.at 1 rfl) 2 rfl)) ?_; clear hF; intro a hF
      refine l_atg hF ((wanted_of hF rfl rfl rfl rfl).trans (by rw [hb28]; rfl)) rfl rfl (x_len_slice Tryd.underlying43 (hF.tmp 30 rfl)) ?_; clear hF; intro a hF
      refine l_atg hF ((wanted_of hF rfl rfl rfl rfl).trans (by rw [hb28]; rfl)) rfl rfl (x_leq (hF.tmp 31 rfl) rfl) ?_; clear hF; intro a hF
      refine l_at hF rfl rfl rfl (x_pickT (hF.tmp 28 rfl) hb28 (hF.tmp 32 rfl)) ?_; clear hF; intro a hF
      refine l_at hF rfl rfl rfl (x_move (hF.tmp 33 rfl)) ?_; clear hF; intro a hF
      refine split_bool hF 34 rfl (fun hb34 => ?_) (fun hb34 => ?_)
      ·have hc34 := hb34; try simp only [Bool.or_eq_true, Bool.and_eq_true, Bool.or_eq_false_iff, Bool.and_eq_false_iff, Bool.not_eq_true', Bool.not_eq_false', decide_eq_true_eq, decide_eq_false_iff_not, Bool.not_true, Bool.not_false] at hc34
       refine l_atg hF ((wanted_of hF rfl rfl rfl rfl).trans (by rw [hb34]; rfl)) rfl rfl (x_faddr Tryd.underlying45 rfl ty43 (by decide) (hF.tmp 1 rfl) rfl) ?_; clear hF; intro a hF
       refine l_atg hF ((wanted_of hF rfl rfl rfl rfl).trans (by rw [hb34]; rfl)) rfl rfl (x_load1 ty43 (hF.tmp 35 rfl) (blk_cell (hH.at 1 rfl) 2 rfl)) ?_; clear hF; intro a hF
       refine wpList_on ((wanted_of hF rfl rfl rfl rfl).trans (by rw [hb34]; rfl)) fun K hK => ?_
       refine w_call hF (x_enter Tryd.func55 (by kernel_rfl) rfl (by simp only [List.map_toArray, List.map_cons, List.map_nil, hF.tmp 36 rfl] <;> rfl)) (containsO_calls _ (hH.holds 990 _ rfl) ((hH.rd 900 rfl)) hb.ops) rfl rfl ?_
       rintro _ w ⟨rfl, hm_⟩; refine ⟨_, rfl, ?_⟩; clear hF; intro a hF; have hH := hH.same hm_
       refine hK _ _ ?_; clear hK K
       refine l_atg hF ((wanted_of hF rfl rfl rfl rfl).trans (by rw [hb34]; rfl)) rfl rfl (x_not (hF.tmp 37 rfl)) ?_; clear hF; intro a hF
       refine l_at hF rfl rfl rfl (x_pickT (hF.tmp 34 rfl) hb34 (hF.tmp 38 rfl)) ?_; clear hF; intro a hF
       refine l_at hF rfl rfl rfl (x_assign (hF.tmp 39 rfl)) ?_; clear hF; intro a hF
       refine wpList_nil ?_
       refine hK2 _ _ ?_
       refine wp_ret ?_
       try simp only [Exit.then, Exit.inBlock]
       have hv : (!(r.ops.any wrongO)) = rightQ r := by unfold rightQ; cases r.ops.any wrongO <;> (rw [Bool.eq_iff_iff]; simp [hc6, hc12, hc17, hc22, hc28, hc34, -List.length_eq_zero_iff]; first | omega | (intros; omega) | skip)
       exact fin_ret hF (res1 (v := .bool (!(r.ops.any wrongO))) hF rfl rfl) ⟨by rw [hv], hH.mods⟩
      ·have hc34 := hb34; try simp only [Bool.or_eq_true, Bool.and_eq_true, Bool.or_eq_false_iff, Bool.and_eq_false_iff, Bool.not_eq_true', Bool.not_eq_false', decide_eq_true_eq, decide_eq_false_iff_not, Bool.not_true, Bool.not_false] at hc34
       refine l_offg hF ((wanted_of hF rfl rfl rfl rfl).trans (by rw [hb34]; rfl)) rfl rfl ?_; clear hF; intro a hF
       refine l_offg hF ((wanted_of hF rfl rfl rfl rfl).trans (by rw [hb34]; rfl)) rfl rfl ?_; clear hF; intro a hF
       refine l_offg hF ((wanted_of hF rfl rfl rfl rfl).trans (by rw [hb34]; rfl)) rfl rfl ?_; clear hF; intro a hF
       refine l_offg hF ((wanted_of hF rfl rfl rfl rfl).trans (by rw [hb34]; rfl)) rfl rfl ?_; clear hF; intro a hF
       refine l_at hF rfl rfl rfl (x_pickF (hF.tmp 34 rfl) hb34 rfl) ?_; clear hF; intro a hF
       refine l_at hF rfl rfl rfl (x_assign (hF.tmp 39 rfl)) ?_; clear hF; intro a hF
       refine wpList_nil ?_
       refine hK2 _ _ ?_
       refine wp_ret ?_
       try simp only [Exit.then, Exit.inBlock]
       have hv : false = rightQ r := by unfold rightQ; cases r.ops.any wrongO <;> (rw [Bool.eq_iff_iff]; simp [hc6, hc12, hc17, hc22, hc28, hc34, -List.length_eq_zero_iff]; first | omega | (intros; omega) | skip)
       exact fin_ret hF (res1 (v := .bool false) hF rfl rfl) ⟨by rw [hv], hH.mods⟩
     ·have hc28 := hb28; try simp only [Bool.or_eq_true, Bool.and_eq_true, Bool.or_eq_false_iff, Bool.and_eq_false_iff, Bool.not_eq_true', Bool.not_eq_false', decide_eq_true_eq, decide_eq_false_iff_not, Bool.not_true, Bool.not_false] at hc28
      refine l_offg hF ((wanted_of hF rfl rfl rfl rfl).trans (by rw [hb28]; rfl)) rfl rfl ?_; clear hF; intro a hF
      refine l_offg hF ((wanted_of hF rfl rfl rfl rfl).trans (by rw [hb28]; rfl)) rfl rfl ?_; clear hF; intro a hF
      refine l_offg hF ((wanted_of hF rfl rfl rfl rfl).trans (by rw [hb28]; rfl)) rfl rfl ?_; clear hF; intro a hF
      refine l_offg hF ((wanted_of hF rfl rfl rfl rfl).trans (by rw [hb28]; rfl)) rfl rfl ?_; clear hF; intro a hF
      refine l_at hF rfl rfl rfl (x_pickF (hF.tmp 28 rfl) hb28 rfl) ?_; clear hF; intro a hF
      refine l_at hF rfl rfl rfl (x_move (hF.tmp 33 rfl)) ?_; clear hF; intro a hF
      refine l_offg hF ((wanted_of hF rfl rfl rfl rfl).trans rfl) rfl rfl ?_; clear hF; intro a hF
      refine l_offg hF ((wanted_of hF rfl rfl rfl rfl).trans rfl) rfl rfl ?_; clear hF; intro a hF
      refine l_offg hF ((wanted_of hF rfl rfl rfl rfl).trans rfl) rfl rfl ?_; clear hF; intro a hF
      refine l_offg hF ((wanted_of hF rfl rfl rfl rfl).trans rfl) rfl rfl ?_; clear hF; intro a hF
      refine l_at hF rfl rfl rfl (x_pickF (hF.tmp 34 rfl) rfl rfl) ?_; clear hF; intro a hF
      refine l_at hF rfl rfl rfl (x_assign (hF.tmp 39 rfl)) ?_; clear hF; intro a hF
      refine wpList_nil ?_
      refine hK2 _ _ ?_
      refine wp_ret ?_
      try simp only [Exit.then, Exit.inBlock]
      have hv : false = rightQ r := by unfold rightQ; cases r.ops.any wrongO <;> (rw [Bool.eq_iff_iff]; simp [hc6, hc12, hc17, hc22, hc28, -List.length_eq_zero_iff]; first | omega | (intros; omega) | skip)
      exact fin_ret hF (res1 (v := .bool false) hF rfl rfl) ⟨by rw [hv], hH.mods⟩
    ·have hc22 := hb22; try simp only [Bool.or_eq_true, Bool.and_eq_true, Bool.or_eq_false_iff, Bool.and_eq_false_iff, Bool.not_eq_true', Bool.not_eq_false', decide_eq_true_eq, decide_eq_false_iff_not, Bool.not_true, Bool.not_false] at hc22
     refine l_offg hF ((wanted_of hF rfl rfl rfl rfl).trans (by rw [hb22]; rfl)) rfl rfl ?_; clear hF; intro a hF
     refine l_offg hF ((wanted_of hF rfl rfl rfl rfl).trans (by rw [hb22]; rfl)) rfl rfl ?_; clear hF; intro a hF
     refine l_offg hF ((wanted_of hF rfl rfl rfl rfl).trans (by rw [hb22]; rfl)) rfl rfl ?_; clear hF; intro a hF
     refine l_offg hF ((wanted_of hF rfl rfl rfl rfl).trans (by rw [hb22]; rfl)) rfl rfl ?_; clear hF; intro a hF
     refine l_at hF rfl rfl rfl (x_pickF (hF.tmp 22 rfl) hb22 rfl) ?_; clear hF; intro a hF
     refine l_at hF rfl rfl rfl (x_move (hF.tmp 27 rfl)) ?_; clear hF; intro a hF
     refine l_offg hF ((wanted_of hF rfl rfl rfl rfl).trans rfl) rfl rfl ?_; clear hF; intro a hF
     refine l_offg hF ((wanted_of hF rfl rfl rfl rfl).trans rfl) rfl rfl ?_; clear hF; intro a hF
     refine l_offg hF ((wanted_of hF rfl rfl rfl rfl).trans rfl) rfl rfl ?_; clear hF; intro a hF
     refine l_offg hF ((wanted_of hF rfl rfl rfl rfl).trans rfl) rfl rfl ?_; clear hF; intro a hF
     refine l_at hF rfl rfl rfl (x_pickF (hF.tmp 28 rfl) rfl rfl) ?_; clear hF; intro a hF
     refine l_at hF rfl rfl rfl (x_move (hF.tmp 33 rfl)) ?_; clear hF; intro a hF
     refine l_offg hF ((wanted_of hF rfl rfl rfl rfl).trans rfl) rfl rfl ?_; clear hF; intro a hF
     refine l_offg hF ((wanted_of hF rfl rfl rfl rfl).trans rfl) rfl rfl ?_; clear hF; intro a hF
     refine l_offg hF ((wanted_of hF rfl rfl rfl rfl).trans rfl) rfl rfl ?_; clear hF; intro a hF
     refine l_offg hF ((wanted_of hF rfl rfl rfl rfl).trans rfl) rfl rfl ?_; clear hF; intro a hF
     refine l_at hF rfl rfl rfl (x_pickF (hF.tmp 34 rfl) rfl rfl) ?_; clear hF; intro a hF
     refine l_at hF rfl rfl rfl (x_assign (hF.tmp 39 rfl)) ?_; clear hF; intro a hF
     refine wpList_nil ?_
     refine hK2 _ _ ?_
     refine wp_ret ?_
     try simp only [Exit.then, Exit.inBlock]
     have hv : false = rightQ r := by unfold rightQ; cases r.ops.any wrongO <;> (rw [Bool.eq_iff_iff]; simp [hc6, hc12, hc17, hc22, -List.length_eq_zero_iff]; first | omega | (intros; omega) | skip)
     exact fin_ret hF (res1 (v := .bool false) hF rfl rfl) ⟨by rw [hv], hH.mods⟩
   ·have hc17 := hb17; try simp only [Bool.or_eq_true, Bool.and_eq_true, Bool.or_eq_false_iff, Bool.and_eq_false_iff, Bool.not_eq_true', Bool.not_eq_false', decide_eq_true_eq, decide_eq_false_iff_not, Bool.not_true, Bool.not_false] at hc17
    refine l_offg hF ((wanted_of hF rfl rfl rfl rfl).trans (by rw [hb17]; rfl)) rfl rfl ?_; clear hF; intro a hF
    refine l_offg hF ((wanted_of hF rfl rfl rfl rfl).trans (by rw [hb17]; rfl)) rfl rfl ?_; clear hF; intro a hF
    refine l_offg hF ((wanted_of hF rfl rfl rfl rfl).trans (by rw [hb17]; rfl)) rfl rfl ?_; clear hF; intro a hF
    refine l_at hF rfl rfl rfl (x_pickF (hF.tmp 17 rfl) hb17 rfl) ?_; clear hF; intro a hF
    refine l_at hF rfl rfl rfl (x_move (hF.tmp 21 rfl)) ?_; clear hF; intro a hF
    refine l_offg hF ((wanted_of hF rfl rfl rfl rfl).trans rfl) rfl rfl ?_; clear hF; intro a hF
    refine l_offg hF ((wanted_of hF rfl rfl rfl rfl).trans rfl) rfl rfl ?_; clear hF; intro a hF
    refine l_offg hF ((wanted_of hF rfl rfl rfl rfl).trans rfl) rfl rfl ?_; clear hF; intro a hF
    refine l_offg hF ((wanted_of hF rfl rfl rfl rfl).trans rfl) rfl rfl ?_; clear hF; intro a hF
    refine l_at hF rfl rfl rfl (x_pickF (hF.tmp 22 rfl) rfl rfl) ?_; clear hF; intro a hF
    refine l_at hF rfl rfl rfl (x_move (hF.tmp 27 rfl)) ?_; clear hF; intro a hF
    refine l_offg hF ((wanted_of hF rfl rfl rfl rfl).trans rfl) rfl rfl ?_; clear hF; intro a hF
    refine l_offg hF ((wanted_of hF rfl rfl rfl rfl).trans rfl) rfl rfl ?_; clear hF; intro a hF
    refine l_offg hF ((wanted_of hF rfl rfl rfl rfl).trans rfl) rfl rfl ?_; clear hF; intro a hF
    refine l_offg hF ((wanted_of hF rfl rfl rfl rfl).trans rfl) rfl rfl ?_; clear hF; intro a hF
    refine l_at hF rfl rfl rfl (x_pickF (hF.tmp 28 rfl) rfl rfl) ?_; clear hF; intro a hF
    refine l_at hF rfl rfl rfl (x_move (hF.tmp 33 rfl)) ?_; clear hF; intro a hF
    refine l_offg hF ((wanted_of hF rfl rfl rfl rfl).trans rfl) rfl rfl ?_; clear hF; intro a hF
    refine l_offg hF ((wanted_of hF rfl rfl rfl rfl).trans rfl) rfl rfl ?_; clear hF; intro a hF
    refine l_offg hF ((wanted_of hF rfl rfl rfl rfl).trans rfl) rfl rfl ?_; clear hF; intro a hF
    refine l_offg hF ((wanted_of hF rfl rfl rfl rfl).trans rfl) rfl rfl ?_; clear hF; intro a hF
    refine l_at hF rfl rfl rfl (x_pickF (hF.tmp 34 rfl) rfl rfl) ?_; clear hF; intro a hF
    refine l_at hF rfl rfl rfl (x_assign (hF.tmp 39 rfl)) ?_; clear hF; intro a hF
    refine wpList_nil ?_
    refine hK2 _ _ ?_
    refine wp_ret ?_
    try simp only [Exit.then, Exit.inBlock]
    have hv : false = rightQ r := by unfold rightQ; cases r.ops.any wrongO <;> (rw [Bool.eq_iff_iff]; simp [hc6, hc12, hc17, -List.length_eq_zero_iff]; first | omega | (intros; omega) | skip)
    exact fin_ret hF (res1 (v := .bool false) hF rfl rfl) ⟨by rw [hv], hH.mods⟩
  ·have hc12 := hb12; try simp only [Bool.or_eq_true, Bool.and_eq_true, Bool.or_eq_false_iff, Bool.and_eq_false_iff, Bool.not_eq_true', Bool.not_eq_false', decide_eq_true_eq, decide_eq_false_iff_not, Bool.not_true, Bool.not_false] at hc12
   refine l_offg hF ((wanted_of hF rfl rfl rfl rfl).trans (by rw [hb12]; rfl)) rfl rfl ?_; clear hF; intro a hF
   refine l_offg hF ((wanted_of hF rfl rfl rfl rfl).trans (by rw [hb12]; rfl)) rfl rfl ?_; clear hF; intro a hF
   refine l_offg hF ((wanted_of hF rfl rfl rfl rfl).trans (by rw [hb12]; rfl)) rfl rfl ?_; clear hF; intro a hF
   refine l_at hF rfl rfl rfl (x_pickF (hF.tmp 12 rfl) hb12 rfl) ?_; clear hF; intro a hF
   refine l_at hF rfl rfl rfl (x_move (hF.tmp 16 rfl)) ?_; clear hF; intro a hF
   refine l_offg hF ((wanted_of hF rfl rfl rfl rfl).trans rfl) rfl rfl ?_; clear hF; intro a hF
   refine l_offg hF ((wanted_of hF rfl rfl rfl rfl).trans rfl) rfl rfl ?_; clear hF; intro a hF
   refine l_offg hF ((wanted_of hF rfl rfl rfl rfl).trans rfl) rfl rfl ?_; clear hF; intro a hF
   refine l_at hF rfl rfl rfl (x_pickF (hF.tmp 17 rfl) rfl rfl) ?_; clear hF; intro a hF
   refine l_at hF rfl rfl rfl (x_move (hF.tmp 21 rfl)) ?_; clear hF; intro a hF
   refine l_offg hF ((wanted_of hF rfl rfl rfl rfl).trans rfl) rfl rfl ?_; clear hF; intro a hF
   refine l_offg hF ((wanted_of hF rfl rfl rfl rfl).trans rfl) rfl rfl ?_; clear hF; intro a hF
   refine l_offg hF ((wanted_of hF rfl rfl rfl rfl).trans rfl) rfl rfl ?_; clear hF; intro a hF
   refine l_offg hF ((wanted_of hF rfl rfl rfl rfl).trans rfl) rfl rfl ?_; clear hF; intro a hF
   refine l_at hF rfl rfl rfl (x_pickF (hF.tmp 22 rfl) rfl rfl) ?_; clear hF; intro a hF
   refine l_at hF rfl rfl rfl (x_move (hF.tmp 27 rfl)) ?_; clear hF; intro a hF
   refine l_offg hF ((wanted_of hF rfl rfl rfl rfl).trans rfl) rfl rfl ?_; clear hF; intro a hF
   refine l_offg hF ((wanted_of hF rfl rfl rfl rfl).trans rfl) rfl rfl ?_; clear hF; intro a hF
   refine l_offg hF ((wanted_of hF rfl rfl rfl rfl).trans rfl) rfl rfl ?_; clear hF; intro a hF
   refine l_offg hF ((wanted_of hF rfl rfl rfl rfl).trans rfl) rfl rfl ?_; clear hF; intro a hF
   refine l_at hF rfl rfl rfl (x_pickF (hF.tmp 28 rfl) rfl rfl) ?_; clear hF; intro a hF
   refine l_at hF rfl rfl rfl (x_move (hF.tmp 33 rfl)) ?_; clear hF; intro a hF
   refine l_offg hF ((wanted_of hF rfl rfl rfl rfl).trans rfl) rfl rfl ?_; clear hF; intro a hF
   refine l_offg hF ((wanted_of hF rfl rfl rfl rfl).trans rfl) rfl rfl ?_; clear hF; intro a hF
   refine l_offg hF ((wanted_of hF rfl rfl rfl rfl).trans rfl) rfl rfl ?_; clear hF; intro a hF
   refine l_offg hF ((wanted_of hF rfl rfl rfl rfl).trans rfl) rfl rfl ?_; clear hF; intro a hF
   refine l_at hF rfl rfl rfl (x_pickF (hF.tmp 34 rfl) rfl rfl) ?_; clear hF; intro a hF
   refine l_at hF rfl rfl rfl (x_assign (hF.tmp 39 rfl)) ?_; clear hF; intro a hF
   refine wpList_nil ?_
   refine hK2 _ _ ?_
   refine wp_ret ?_
   try simp only [Exit.then, Exit.inBlock]
   have hv : false = rightQ r := by unfold rightQ; cases r.ops.any wrongO <;> (rw [Bool.eq_iff_iff]; simp [hc6, hc12, -List.length_eq_zero_iff]; first | omega | (intros; omega) | skip)
   exact fin_ret hF (res1 (v := .bool false) hF rfl rfl) ⟨by rw [hv], hH.mods⟩
 ·have hc6 := hb6; try simp only [Bool.or_eq_true, Bool.and_eq_true, Bool.or_eq_false_iff, Bool.and_eq_false_iff, Bool.not_eq_true', Bool.not_eq_false', decide_eq_true_eq, decide_eq_false_iff_not, Bool.not_true, Bool.not_false] at hc6
  refine l_offg hF ((wanted_of hF rfl rfl rfl rfl).trans (by rw [hb6]; rfl)) rfl rfl ?_; clear hF; intro a hF
  refine l_offg hF ((wanted_of hF rfl rfl rfl rfl).trans (by rw [hb6]; rfl)) rfl rfl ?_; clear hF; intro a hF
  refine l_offg hF ((wanted_of hF rfl rfl rfl rfl).trans (by rw [hb6]; rfl)) rfl rfl ?_; clear hF; intro a hF
  refine l_offg hF ((wanted_of hF rfl rfl rfl rfl).trans (by rw [hb6]; rfl)) rfl rfl ?_; clear hF; intro a hF
  refine l_at hF rfl rfl rfl (x_pickF (hF.tmp 6 rfl) hb6 rfl) ?_; clear hF; intro a hF
  refine l_at hF rfl rfl rfl (x_move (hF.tmp 11 rfl)) ?_; clear hF; intro a hF
  refine l_offg hF ((wanted_of hF rfl rfl rfl rfl).trans rfl) rfl rfl ?_; clear hF; intro a hF
  refine l_offg hF ((wanted_of hF rfl rfl rfl rfl).trans rfl) rfl rfl ?_; clear hF; intro a hF
  refine l_offg hF ((wanted_of hF rfl rfl rfl rfl).trans rfl) rfl rfl ?_; clear hF; intro a hF
  refine l_at hF rfl rfl rfl (x_pickF (hF.tmp 12 rfl) rfl rfl) ?_; clear hF; intro a hF
  refine l_at hF rfl rfl rfl (x_move (hF.tmp 16 rfl)) ?_; clear hF; intro a hF
  refine l_offg hF ((wanted_of hF rfl rfl rfl rfl).trans rfl) rfl rfl ?_; clear hF; intro a hF
  refine l_offg hF ((wanted_of hF rfl rfl rfl rfl).trans rfl) rfl rfl ?_; clear hF; intro a hF
  refine l_offg hF ((wanted_of hF rfl rfl rfl rfl).trans rfl) rfl rfl ?_; clear hF; intro a hF
  refine l_at hF rfl rfl rfl (x_pickF (hF.tmp 17 rfl) rfl rfl) ?_; clear hF; intro a hF
  refine l_at hF rfl rfl rfl (x_move (hF.tmp 21 rfl)) ?_; clear hF; intro a hF
  refine l_offg hF ((wanted_of hF rfl rfl rfl rfl).trans rfl) rfl rfl ?_; clear hF; intro a hF
  refine l_offg hF ((wanted_of hF rfl rfl rfl rfl).trans rfl) rfl rfl ?_; clear hF; intro a hF
  refine l_offg hF ((wanted_of hF rfl rfl rfl rfl).trans rfl) rfl rfl ?_; clear hF; intro a hF
  refine l_offg hF ((wanted_of hF rfl rfl rfl rfl).trans rfl) rfl rfl ?_; clear hF; intro a hF
  refine l_at hF rfl rfl rfl (x_pickF (hF.tmp 22 rfl) rfl rfl) ?_; clear hF; intro a hF
  refine l_at hF rfl rfl rfl (x_move (hF.tmp 27 rfl)) ?_; clear hF; intro a hF
  refine l_offg hF ((wanted_of hF rfl rfl rfl rfl).trans rfl) rfl rfl ?_; clear hF; intro a hF
  refine l_offg hF ((wanted_of hF rfl rfl rfl rfl).trans rfl) rfl rfl ?_; clear hF; intro a hF
  refine l_offg hF ((wanted_of hF rfl rfl rfl rfl).trans rfl) rfl rfl ?_; clear hF; intro a hF
  refine l_offg hF ((wanted_of hF rfl rfl rfl rfl).trans rfl) rfl rfl ?_; clear hF; intro a hF
  refine l_at hF rfl rfl rfl (x_pickF (hF.tmp 28 rfl) rfl rfl) ?_; clear hF; intro a hF
  refine l_at hF rfl rfl rfl (x_move (hF.tmp 33 rfl)) ?_; clear hF; intro a hF
  refine l_offg hF ((wanted_of hF rfl rfl rfl rfl).trans rfl) rfl rfl ?_; clear hF; intro a hF
  refine l_offg hF ((wanted_of hF rfl rfl rfl rfl).trans rfl) rfl rfl ?_; clear hF; intro a hF
  refine l_offg hF ((wanted_of hF rfl rfl rfl rfl).trans rfl) rfl rfl ?_; clear hF; intro a hF
  refine l_offg hF ((wanted_of hF rfl rfl rfl rfl).trans rfl) rfl rfl ?_; clear hF; intro a hF
  refine l_at hF rfl rfl rfl (x_pickF (hF.tmp 34 rfl) rfl rfl) ?_; clear hF; intro a hF
  refine l_at hF rfl rfl rfl (x_assign (hF.tmp 39 rfl)) ?_; clear hF; intro a hF
  refine wpList_nil ?_
  refine hK2 _ _ ?_
  refine wp_ret ?_
  try simp only [Exit.then, Exit.inBlock]
  have hv : false = rightQ r := by unfold rightQ; cases r.ops.any wrongO <;> (rw [Bool.eq_iff_iff]; simp [hc6, -List.length_eq_zero_iff]; first | omega | (intros; omega) | skip)
  exact fin_ret hF (res1 (v := .bool false) hF rfl rfl) ⟨by rw [hv], hH.mods⟩
set_option maxRecDepth 100000 in
set_option maxHeartbeats 1000000 in
theorem op_calls (w0 : World) {pp : Bool} (hL : LibAt pp w0) {o : OpD} {oko0 : Nat → Prop} {Ao0 : Option Addr} {co0 : Nat} (hro0 : Rd StE w0 oko0 Ao0 o.timer.steps co0) (hb : OpB o) (ho : overO o = true) : Calls Tryd.prog 74 #[.agg #[.int .i64 o.kind, .string (strOfNums o.key), .int .i64 o.step.1, .string (strOfNums o.step.2.1), .string (strOfNums o.step.2.2.1), .int .i64 o.step.2.2.2, .string (strOfNums o.timer.name), .int .i64 o.timer.ver, .int .u64 o.timer.tick, .int .u64 o.timer.every, .slice Ao0 o.timer.steps.length co0]] w0 fun e w' => ∃ v, e = .returned v ∧ Mods (fun _ => False) w0 w' ∧ RowOut (.int .u8) 5 w0 w' v (opI o) := by
 refine calls_of_wp Tryd.func74 rfl ?_
 have hF := Fr.enter #[.agg #[.int .i64 o.kind, .string (strOfNums o.key), .int .i64 o.step.1, .string (strOfNums o.step.2.1), .string (strOfNums o.step.2.2.1), .int .i64 o.step.2.2.2, .string (strOfNums o.timer.name), .int .i64 o.timer.ver, .int .u64 o.timer.tick, .int .u64 o.timer.every, .slice Ao0 o.timer.steps.length co0]] 49 (slotsOf [.agg #[.int .i64 o.kind, .string (strOfNums o.key), .int .i64 o.step.1, .string (strOfNums o.step.2.1), .string (strOfNums o.step.2.2.1), .int .i64 o.step.2.2.2, .string (strOfNums o.timer.name), .int .i64 o.timer.ver, .int .u64 o.timer.tick, .int .u64 o.timer.every, .slice Ao0 o.timer.steps.length co0]] 0) (Nat.le_of_ble_eq_true rfl) (fun i v h => by have h2 := (get_slotsOf _ 0 i v h).2; simpa only [List.getElem?_toArray, Nat.sub_zero] using h2)
 have hH := Hp.nil (fun _ => False) w0
 rw [Tryd.ntmps74]
 revert hF; generalize (⟨(#[.agg #[.int .i64 o.kind, .string (strOfNums o.key), .int .i64 o.step.1, .string (strOfNums o.step.2.1), .string (strOfNums o.step.2.2.1), .int .i64 o.step.2.2.2, .string (strOfNums o.timer.name), .int .i64 o.timer.ver, .int .u64 o.timer.tick, .int .u64 o.timer.every, .slice Ao0 o.timer.steps.length co0]] : Array Value) ++ Array.replicate (49 - (#[.agg #[.int .i64 o.kind, .string (strOfNums o.key), .int .i64 o.step.1, .string (strOfNums o.step.2.1), .string (strOfNums o.step.2.2.1), .int .i64 o.step.2.2.2, .string (strOfNums o.timer.name), .int .i64 o.timer.ver, .int .u64 o.timer.tick, .int .u64 o.timer.every, .slice Ao0 o.timer.steps.length co0]] : Array Value).size) undef, []⟩ : Act) = a; intro hF
 have hH := hH.arg 900 hro0.all (fun _ h => ⟨h, fun h => h⟩)
 have hleo0 := hro0.le; unfold maxLen at hleo0
 have hH := hH.libN 990 hL
 refine wp_seq_k fun khK1 hK1 => ?_
 refine wp_region_lit ?_
 refine wpList_plain rfl fun K hK => ?_
 refine w_box 1 hF hH rfl (hF.tmp 0 rfl) ?_
 clear hF hH; intro a w b1 hF hH
 refine hK _ _ ?_; clear hK K
 refine l_at hF rfl rfl rfl (x_assign rfl) ?_; clear hF; intro a hF
 refine wpList_nil ?_
 refine hK1 _ _ ?_
 refine wp_seq_k fun khK2 hK2 => ?_
 refine wp_region_lit ?_
 refine l_at hF rfl rfl rfl (x_faddr Tryd.underlying55 rfl ty9 (by decide) (hF.tmp 1 rfl) rfl) ?_; clear hF; intro a hF
 refine l_at hF rfl rfl rfl (x_load1 ty9 (hF.tmp 7 rfl) (blk_cell (hH.at 1 rfl) 1 rfl)) ?_; clear hF; intro a hF
 refine wpList_plain rfl fun K hK => ?_
 refine w_s2b 9 (xs := o.key) hF hH rfl Tryd.underlying9 Tryd.underlying28 Tryd.underlying5 (hF.tmp 8 rfl) hb.key (by have := over_lens hb ho; omega) ?_
 clear hF hH; intro a w b9 c9 hb9_ hF hH
 refine hK _ _ ?_; clear hK K
 refine l_at hF rfl rfl rfl (x_buildS (cells := #[.int .i64 2, .slice (some ⟨b9, 0, none⟩) o.key.length c9]) (places := #[(0, 1), (1, 1)]) Tryd.underlying99 ty99 (by kernel_rfl) (by simp only [List.map_toArray, List.map_cons, List.map_nil, hF.tmp 9 rfl] <;> rfl) rfl) ?_; clear hF; intro a hF
 refine wpList_plain rfl fun K hK => ?_
 refine w_alloc 3 hF hH rfl ty99 ?_
 clear hF hH; intro a w b3 hF hH
 refine hK _ _ ?_; clear hK K
 refine wpList_plain rfl fun K hK => ?_
 refine w_storeA 3 hH ty99 rfl (hF.tmp 3 rfl) (hF.tmp 10 rfl) rfl (by simp [Value.cells, Value.oneCell']) rfl ?_
 clear hH; intro w hH
 refine hK _ _ ?_; clear hK K
 refine wpList_nil ?_
 refine hK2 _ _ ?_
 refine wp_seq_k fun khK3 hK3 => ?_
 refine wp_seq_k fun khK4 hK4 => ?_
 refine wp_region_lit ?_
 refine l_at hF rfl rfl rfl (x_faddr Tryd.underlying55 rfl ty50 (by decide) (hF.tmp 1 rfl) rfl) ?_; clear hF; intro a hF
 refine l_at hF rfl rfl rfl (x_load1 ty50 (hF.tmp 11 rfl) (blk_cell (hH.at 1 rfl) 0 rfl)) ?_; clear hF; intro a hF
 refine wpList_nil ?_
 refine hK4 _ _ ?_
 refine wp_block ?_
 refine wp_seq_k fun khK5 hK5 => ?_
 refine wp_region_lit ?_
 refine l_at hF rfl rfl rfl (x_eql (hF.tmp 12 rfl) rfl) ?_; clear hF; intro a hF
 refine l_at hF rfl rfl rfl (x_assign (hF.tmp 14 rfl)) ?_; clear hF; intro a hF
 refine wpList_nil ?_
 refine hK5 _ _ ?_
 refine wp_cond_split (hF.tmp 13 rfl) (fun hc13 => ?_) (fun hc13 => ?_)
 ·have hk13_1 := hc13; try simp only [Bool.or_eq_true, Bool.and_eq_true, Bool.or_eq_false_iff, Bool.and_eq_false_iff, Bool.not_eq_true', Bool.not_eq_false', decide_eq_true_eq, decide_eq_false_iff_not, Bool.not_true, Bool.not_false] at hc13
  refine wp_seq_k fun khK6 hK6 => ?_
  refine wp_region_lit ?_
  refine l_at hF rfl rfl rfl (x_faddr Tryd.underlying99 rfl ty3 (by decide) (hF.tmp 3 rfl) rfl) ?_; clear hF; intro a hF
  refine wpList_plain rfl fun K hK => ?_
  refine w_store 3 hH ty3 rfl (hF.tmp 15 rfl) rfl rfl (one1 rfl rfl) (by first | decide | exact Nat.le_of_ble_eq_true rfl) ?_
  clear hH; intro w hH
  refine hK _ _ ?_; clear hK K
  refine wpList_nil ?_
  refine hK6 _ _ ?_
  refine wp_region_lit ?_
  refine l_at hF rfl rfl rfl (x_faddr Tryd.underlying55 rfl ty53 (by decide) (hF.tmp 1 rfl) rfl) ?_; clear hF; intro a hF
  refine l_at hF rfl rfl rfl (x_loadn (cs := #[.int .i64 o.step.1, .string (strOfNums o.step.2.1), .string (strOfNums o.step.2.2.1), .int .i64 o.step.2.2.2]) ty53 (hF.tmp 17 rfl) rfl (blk_sub (hH.at 1 rfl) 2 4 rfl)) ?_; clear hF; intro a hF
  refine wpList_plain rfl fun K hK => ?_
  refine w_lit1 19 StE o.step #[.int .i64 o.step.1, .string (strOfNums o.step.2.1), .string (strOfNums o.step.2.2.1), .int .i64 o.step.2.2.2] (fun _ => False) hF hH rfl Tryd.underlying37 ty53 (by simp only [List.map_toArray, List.map_cons, List.map_nil, hF.tmp 18 rfl] <;> rfl) (by decide) (by kernel_rfl) (st_mk o.step) (fun kb hk => hk.elim) ?_
  clear hF hH; intro a w b19 hF hb19_ hH
  refine hK _ _ ?_; clear hK K
  refine wpList_plain rfl fun K hK => ?_
  refine w_call hF (x_enter Tryd.func47 (by kernel_rfl) rfl (by simp only [List.map_toArray, List.map_cons, List.map_nil, hF.tmp 19 rfl] <;> rfl)) (aenc_calls (xs := [o.step]) _ (hH.holds 990 _ rfl) ((hH.rd 19 rfl)) (fun s hs => by rw [List.mem_singleton] at hs; subst hs; exact hb.step)) rfl rfl ?_
  rintro _ w ⟨vr20, rfl, hm_, hr_⟩; refine ⟨_, rfl, ?_⟩; clear hF; intro a hF; have hH := Hp.rowOut hH 20 hm_ hr_; obtain ⟨Ar20, cr20, rfl⟩ := (hH.row 20 rfl).form
  refine hK _ _ ?_; clear hK K
  refine l_at hF rfl rfl rfl (x_move (hF.tmp 20 rfl)) ?_; clear hF; intro a hF
  refine l_at hF rfl rfl rfl (x_extract (hF.tmp 16 rfl) rfl) ?_; clear hF; intro a hF
  have hH := hH.freeze 20 rfl (fun kb => (Value.slice Ar20 (encT [o.step]).length cr20).ownBlock = some kb) (fun kb => ⟨fun h => .inr h, fun h => h.resolve_left id⟩)
  refine l_at hF rfl rfl rfl (x_extract (hF.tmp 16 rfl) rfl) ?_; clear hF; intro a hF
  refine l_at hF rfl rfl rfl (x_faddr Tryd.underlying99 rfl ty28 (by decide) (hF.tmp 3 rfl) rfl) ?_; clear hF; intro a hF
  refine wpList_plain rfl fun K hK => ?_
  refine w_store 3 hH ty28 rfl (hF.tmp 23 rfl) (hF.tmp 21 rfl) rfl (one1 rfl rfl) (by first | decide | exact Nat.le_of_ble_eq_true rfl) ?_
  clear hH; intro w hH
  refine hK _ _ ?_; clear hK K
  refine wpList_nil ?_
  refine hK3 _ _ ?_
  refine wp_seq_k fun khK7 hK7 => ?_
  refine wp_region_lit ?_
  refine l_at hF rfl rfl rfl (x_faddr Tryd.underlying55 rfl ty50 (by decide) (hF.tmp 1 rfl) rfl) ?_; clear hF; intro a hF
  refine l_at hF rfl rfl rfl (x_load1 ty50 (hF.tmp 38 rfl) (blk_cell (hH.at 1 rfl) 0 rfl)) ?_; clear hF; intro a hF
  refine l_at hF rfl rfl rfl (x_conv Tryd.underlying5 ⟨_, Tryd.underlying50⟩ (hF.tmp 39 rfl) (wu8 (by have := (op_kind hb ho); omega) (by have := (op_kind hb ho); omega))) ?_; clear hF; intro a hF
  refine wpList_plain rfl fun K hK => ?_
  refine w_lit 41 (enc := Value.int .u8) (h1 := fun _ => rfl) ([o.kind]) hF hH rfl Tryd.underlying28 ty5 (by simp only [List.map_toArray, List.map_cons, List.map_nil, hF.tmp 40 rfl]; rfl) rfl (by decide) (by decide) (by kernel_rfl) ?_
  clear hF hH; intro a w b41 hF hH
  refine hK _ _ ?_; clear hK K
  have hH := hH.freeze 41 rfl (fun kb => (Value.slice (some ⟨b41, 0, none⟩) ([o.kind]).length ([o.kind]).length).ownBlock = some kb) (fun kb => ⟨fun h => .inr h, fun h => h.resolve_left id⟩)
  refine l_at hF rfl rfl rfl (x_buildS (cells := #[.int .i64 1, .slice (some ⟨b41, 0, none⟩) ([o.kind]).length ([o.kind]).length]) (places := #[(0, 1), (1, 1)]) Tryd.underlying99 ty99 (by kernel_rfl) (by simp only [List.map_toArray, List.map_cons, List.map_nil, hF.tmp 41 rfl] <;> rfl) rfl) ?_; clear hF; intro a hF
  refine l_at hF rfl rfl rfl (x_loadn ty99 (hF.tmp 3 rfl) rfl (blk_whole (hH.at 3 rfl))) ?_; clear hF; intro a hF
  refine wpList_plain rfl fun K hK => ?_
  refine w_litE 44 FE ([((1, [o.kind]) : Fld), ((3, (encT [o.step])) : Fld)]) #[.int .i64 1, .slice (some ⟨b41, 0, none⟩) ([o.kind]).length ([o.kind]).length, .int .i64 3, .slice Ar20 (encT [o.step]).length cr20] (fun kb => (fun kb => (Value.slice (some ⟨b41, 0, none⟩) ([o.kind]).length ([o.kind]).length).ownBlock = some kb) kb ∨ (fun kb => (Value.slice Ar20 (encT [o.step]).length cr20).ownBlock = some kb) kb) hF hH rfl Tryd.underlying100 ty99 (by simp only [List.map_toArray, List.map_cons, List.map_nil, hF.tmp 42 rfl, hF.tmp 43 rfl] <;> rfl) rfl (by decide) (by decide) (by kernel_rfl) ((Elems.single (fld_mk (f := ((1, [o.kind]) : Fld)) (((hH.rd 41 rfl)).move (fun _ _ _ => rfl) (fun k h _ => .inl h)))).append (Elems.single (fld_mk (f := ((3, (encT [o.step])) : Fld)) (((hH.rd 20 rfl)).move (fun _ _ _ => rfl) (fun k h _ => .inr h))))) (fun kb hk => hk.elim (fun h => ⟨41, _, rfl, h⟩) (fun h => ⟨20, _, rfl, h⟩)) ?_
  clear hF hH; intro a w b44 hF hH
  refine hK _ _ ?_; clear hK K
  refine wpList_plain rfl fun K hK => ?_
  refine w_call hF (x_enter Tryd.func42 (by kernel_rfl) rfl (by simp only [List.map_toArray, List.map_cons, List.map_nil, hF.tmp 44 rfl] <;> rfl)) (enc_at (Row.rd (ok' := fun k_ => (fun kb => (fun kb => (Value.slice (some ⟨b41, 0, none⟩) ([o.kind]).length ([o.kind]).length).ownBlock = some kb) kb ∨ (fun kb => (Value.slice Ar20 (encT [o.step]).length cr20).ownBlock = some kb) kb) k_ ∨ (.slice (some ⟨b44, 0, none⟩) ([((1, [o.kind]) : Fld), ((3, (encT [o.step])) : Fld)]).length ([((1, [o.kind]) : Fld), ((3, (encT [o.step])) : Fld)]).length : Value).ownBlock = some k_) (hH.row 44 rfl) (fun _ hk_ _ => .inl hk_) (fun _ hk_ => .inr hk_)) (by rw [opF_2 hc13]; exact op_encR hb ho)) rfl rfl ?_
  rintro _ w ⟨vr45, rfl, hm_, hr_⟩; refine ⟨_, rfl, ?_⟩; clear hF; intro a hF; have hH := Hp.rowOut hH 45 hm_ hr_; obtain ⟨Ar45, cr45, rfl⟩ := (hH.row 45 rfl).form
  refine hK _ _ ?_; clear hK K
  refine l_at hF rfl rfl rfl (x_move (hF.tmp 45 rfl)) ?_; clear hF; intro a hF
  refine l_at hF rfl rfl rfl (x_extract (hF.tmp 37 rfl) rfl) ?_; clear hF; intro a hF
  refine l_at hF rfl rfl rfl (x_extract (hF.tmp 37 rfl) rfl) ?_; clear hF; intro a hF
  refine l_at hF rfl rfl rfl (x_assign (hF.tmp 46 rfl)) ?_; clear hF; intro a hF
  refine l_at hF rfl rfl rfl (x_assign (hF.tmp 47 rfl)) ?_; clear hF; intro a hF
  refine wpList_nil ?_
  refine hK7 _ _ ?_
  refine wp_seq_k fun khK8 hK8 => ?_
  refine wp_region_lit ?_
  refine l_at hF rfl rfl rfl (x_move (hF.tmp 5 rfl)) ?_; clear hF; intro a hF
  refine l_at hF rfl rfl rfl (x_assign (hF.tmp 48 rfl)) ?_; clear hF; intro a hF
  refine wpList_nil ?_
  refine hK8 _ _ ?_
  refine wp_ret ?_
  try simp only [Exit.then, Exit.inBlock]
  exact fin_ret hF (res1 hF rfl rfl) ⟨_, rfl, hH.mods, Hp.out hH 45 rfl⟩
 ·have hk13_2 := hc13; try simp only [Bool.or_eq_true, Bool.and_eq_true, Bool.or_eq_false_iff, Bool.and_eq_false_iff, Bool.not_eq_true', Bool.not_eq_false', decide_eq_true_eq, decide_eq_false_iff_not, Bool.not_true, Bool.not_false] at hc13
  refine wp_seq_k fun khK9 hK9 => ?_
  refine wp_region_lit ?_
  refine l_at hF rfl rfl rfl (x_eql (hF.tmp 12 rfl) rfl) ?_; clear hF; intro a hF
  refine l_at hF rfl rfl rfl (x_assign (hF.tmp 25 rfl)) ?_; clear hF; intro a hF
  refine wpList_nil ?_
  refine hK9 _ _ ?_
  refine wp_cond_split (hF.tmp 24 rfl) (fun hc24 => ?_) (fun hc24 => ?_)
  ·have hk24_3 := hc24; try simp only [Bool.or_eq_true, Bool.and_eq_true, Bool.or_eq_false_iff, Bool.and_eq_false_iff, Bool.not_eq_true', Bool.not_eq_false', decide_eq_true_eq, decide_eq_false_iff_not, Bool.not_true, Bool.not_false] at hc24
   refine wp_seq_k fun khK10 hK10 => ?_
   refine wp_region_lit ?_
   refine l_at hF rfl rfl rfl (x_faddr Tryd.underlying99 rfl ty3 (by decide) (hF.tmp 3 rfl) rfl) ?_; clear hF; intro a hF
   refine wpList_plain rfl fun K hK => ?_
   refine w_store 3 hH ty3 rfl (hF.tmp 26 rfl) rfl rfl (one1 rfl rfl) (by first | decide | exact Nat.le_of_ble_eq_true rfl) ?_
   clear hH; intro w hH
   refine hK _ _ ?_; clear hK K
   refine wpList_nil ?_
   refine hK10 _ _ ?_
   refine wp_seq_k fun khK11 hK11 => ?_
   refine wp_region_lit ?_
   refine l_at hF rfl rfl rfl (x_faddr Tryd.underlying55 rfl ty39 (by decide) (hF.tmp 1 rfl) rfl) ?_; clear hF; intro a hF
   refine l_at hF rfl rfl rfl (x_loadn (cs := #[.string (strOfNums o.timer.name), .int .i64 o.timer.ver, .int .u64 o.timer.tick, .int .u64 o.timer.every, .slice Ao0 o.timer.steps.length co0]) ty39 (hF.tmp 27 rfl) rfl (blk_sub (hH.at 1 rfl) 6 5 rfl)) ?_; clear hF; intro a hF
   refine wpList_plain rfl fun K hK => ?_
   refine w_alloc 4 hF hH rfl ty39 ?_
   clear hF hH; intro a w b4 hF hH
   refine hK _ _ ?_; clear hK K
   refine wpList_plain rfl fun K hK => ?_
   refine w_storeA 4 hH ty39 rfl (hF.tmp 4 rfl) (hF.tmp 28 rfl) rfl (by simp [Value.cells, Value.oneCell']) rfl ?_
   clear hH; intro w hH
   refine hK _ _ ?_; clear hK K
   refine wpList_nil ?_
   refine hK11 _ _ ?_
   refine wp_seq_k fun khK12 hK12 => ?_
   refine wp_region_lit ?_
   refine l_at hF rfl rfl rfl (x_faddr Tryd.underlying39 rfl ty3 (by decide) (hF.tmp 4 rfl) rfl) ?_; clear hF; intro a hF
   refine wpList_plain rfl fun K hK => ?_
   refine w_store 4 hH ty3 rfl (hF.tmp 29 rfl) rfl rfl (one1 rfl rfl) (by first | decide | exact Nat.le_of_ble_eq_true rfl) ?_
   clear hH; intro w hH
   refine hK _ _ ?_; clear hK K
   refine wpList_nil ?_
   refine hK12 _ _ ?_
   refine wp_region_lit ?_
   refine l_at hF rfl rfl rfl (x_loadn ty39 (hF.tmp 4 rfl) rfl (blk_whole (hH.at 4 rfl))) ?_; clear hF; intro a hF
   refine l_at hF rfl rfl rfl (x_buildS (cells := #[.int .i64 3, .string (strOfNums []), .string (strOfNums []), .string (strOfNums o.timer.name), .int .i64 1, .int .u64 o.timer.tick, .int .u64 o.timer.every, .slice Ao0 o.timer.steps.length co0]) (places := #[(0, 1), (1, 1), (2, 1), (3, 5)]) Tryd.underlying41 ty41 (by kernel_rfl) (by simp only [List.map_toArray, List.map_cons, List.map_nil, hF.tmp 31 rfl] <;> rfl) rfl) ?_; clear hF; intro a hF
   refine wpList_plain rfl fun K hK => ?_
   refine w_call hF (x_enter Tryd.func15 (by kernel_rfl) rfl (by simp only [List.map_toArray, List.map_cons, List.map_nil, hF.tmp 32 rfl] <;> rfl)) (encC_calls (c := armC o) _ (hH.holds 990 _ rfl) ((hH.rd 900 rfl)) (armC_B hb)) rfl rfl ?_
   rintro _ w ⟨vr33, rfl, hm_, hr_⟩; refine ⟨_, rfl, ?_⟩; clear hF; intro a hF; have hH := Hp.rowOut hH 33 hm_ hr_; obtain ⟨Ar33, cr33, rfl⟩ := (hH.row 33 rfl).form
   refine hK _ _ ?_; clear hK K
   refine l_at hF rfl rfl rfl (x_move (hF.tmp 33 rfl)) ?_; clear hF; intro a hF
   refine l_at hF rfl rfl rfl (x_extract (hF.tmp 30 rfl) rfl) ?_; clear hF; intro a hF
   have hH := hH.freeze 33 rfl (fun kb => (Value.slice Ar33 (encC (armC o)).length cr33).ownBlock = some kb) (fun kb => ⟨fun h => .inr h, fun h => h.resolve_left id⟩)
   refine l_at hF rfl rfl rfl (x_extract (hF.tmp 30 rfl) rfl) ?_; clear hF; intro a hF
   refine l_at hF rfl rfl rfl (x_faddr Tryd.underlying99 rfl ty28 (by decide) (hF.tmp 3 rfl) rfl) ?_; clear hF; intro a hF
   refine wpList_plain rfl fun K hK => ?_
   refine w_store 3 hH ty28 rfl (hF.tmp 36 rfl) (hF.tmp 34 rfl) rfl (one1 rfl rfl) (by first | decide | exact Nat.le_of_ble_eq_true rfl) ?_
   clear hH; intro w hH
   refine hK _ _ ?_; clear hK K
   refine wpList_nil ?_
   refine hK3 _ _ ?_
   refine wp_seq_k fun khK13 hK13 => ?_
   refine wp_region_lit ?_
   refine l_at hF rfl rfl rfl (x_faddr Tryd.underlying55 rfl ty50 (by decide) (hF.tmp 1 rfl) rfl) ?_; clear hF; intro a hF
   refine l_at hF rfl rfl rfl (x_load1 ty50 (hF.tmp 38 rfl) (blk_cell (hH.at 1 rfl) 0 rfl)) ?_; clear hF; intro a hF
   refine l_at hF rfl rfl rfl (x_conv Tryd.underlying5 ⟨_, Tryd.underlying50⟩ (hF.tmp 39 rfl) (wu8 (by have := (op_kind hb ho); omega) (by have := (op_kind hb ho); omega))) ?_; clear hF; intro a hF
   refine wpList_plain rfl fun K hK => ?_
   refine w_lit 41 (enc := Value.int .u8) (h1 := fun _ => rfl) ([o.kind]) hF hH rfl Tryd.underlying28 ty5 (by simp only [List.map_toArray, List.map_cons, List.map_nil, hF.tmp 40 rfl]; rfl) rfl (by decide) (by decide) (by kernel_rfl) ?_
   clear hF hH; intro a w b41 hF hH
   refine hK _ _ ?_; clear hK K
   have hH := hH.freeze 41 rfl (fun kb => (Value.slice (some ⟨b41, 0, none⟩) ([o.kind]).length ([o.kind]).length).ownBlock = some kb) (fun kb => ⟨fun h => .inr h, fun h => h.resolve_left id⟩)
   refine l_at hF rfl rfl rfl (x_buildS (cells := #[.int .i64 1, .slice (some ⟨b41, 0, none⟩) ([o.kind]).length ([o.kind]).length]) (places := #[(0, 1), (1, 1)]) Tryd.underlying99 ty99 (by kernel_rfl) (by simp only [List.map_toArray, List.map_cons, List.map_nil, hF.tmp 41 rfl] <;> rfl) rfl) ?_; clear hF; intro a hF
   refine l_at hF rfl rfl rfl (x_loadn ty99 (hF.tmp 3 rfl) rfl (blk_whole (hH.at 3 rfl))) ?_; clear hF; intro a hF
   refine wpList_plain rfl fun K hK => ?_
   refine w_litE 44 FE ([((1, [o.kind]) : Fld), ((4, (encC (armC o))) : Fld)]) #[.int .i64 1, .slice (some ⟨b41, 0, none⟩) ([o.kind]).length ([o.kind]).length, .int .i64 4, .slice Ar33 (encC (armC o)).length cr33] (fun kb => (fun kb => (Value.slice (some ⟨b41, 0, none⟩) ([o.kind]).length ([o.kind]).length).ownBlock = some kb) kb ∨ (fun kb => (Value.slice Ar33 (encC (armC o)).length cr33).ownBlock = some kb) kb) hF hH rfl Tryd.underlying100 ty99 (by simp only [List.map_toArray, List.map_cons, List.map_nil, hF.tmp 42 rfl, hF.tmp 43 rfl] <;> rfl) rfl (by decide) (by decide) (by kernel_rfl) ((Elems.single (fld_mk (f := ((1, [o.kind]) : Fld)) (((hH.rd 41 rfl)).move (fun _ _ _ => rfl) (fun k h _ => .inl h)))).append (Elems.single (fld_mk (f := ((4, (encC (armC o))) : Fld)) (((hH.rd 33 rfl)).move (fun _ _ _ => rfl) (fun k h _ => .inr h))))) (fun kb hk => hk.elim (fun h => ⟨41, _, rfl, h⟩) (fun h => ⟨33, _, rfl, h⟩)) ?_
   clear hF hH; intro a w b44 hF hH
   refine hK _ _ ?_; clear hK K
   refine wpList_plain rfl fun K hK => ?_
   refine w_call hF (x_enter Tryd.func42 (by kernel_rfl) rfl (by simp only [List.map_toArray, List.map_cons, List.map_nil, hF.tmp 44 rfl] <;> rfl)) (enc_at (Row.rd (ok' := fun k_ => (fun kb => (fun kb => (Value.slice (some ⟨b41, 0, none⟩) ([o.kind]).length ([o.kind]).length).ownBlock = some kb) kb ∨ (fun kb => (Value.slice Ar33 (encC (armC o)).length cr33).ownBlock = some kb) kb) k_ ∨ (.slice (some ⟨b44, 0, none⟩) ([((1, [o.kind]) : Fld), ((4, (encC (armC o))) : Fld)]).length ([((1, [o.kind]) : Fld), ((4, (encC (armC o))) : Fld)]).length : Value).ownBlock = some k_) (hH.row 44 rfl) (fun _ hk_ _ => .inl hk_) (fun _ hk_ => .inr hk_)) (by rw [opF_3 hc13 hc24]; exact op_encR hb ho)) rfl rfl ?_
   rintro _ w ⟨vr45, rfl, hm_, hr_⟩; refine ⟨_, rfl, ?_⟩; clear hF; intro a hF; have hH := Hp.rowOut hH 45 hm_ hr_; obtain ⟨Ar45, cr45, rfl⟩ := (hH.row 45 rfl).form
   refine hK _ _ ?_; clear hK K
   refine l_at hF rfl rfl rfl (x_move (hF.tmp 45 rfl)) ?_; clear hF; intro a hF
   refine l_at hF rfl rfl rfl (x_extract (hF.tmp 37 rfl) rfl) ?_; clear hF; intro a hF
   refine l_at hF rfl rfl rfl (x_extract (hF.tmp 37 rfl) rfl) ?_; clear hF; intro a hF
   refine l_at hF rfl rfl rfl (x_assign (hF.tmp 46 rfl)) ?_; clear hF; intro a hF
   refine l_at hF rfl rfl rfl (x_assign (hF.tmp 47 rfl)) ?_; clear hF; intro a hF
   refine wpList_nil ?_
   refine hK13 _ _ ?_
   refine wp_seq_k fun khK14 hK14 => ?_
   refine wp_region_lit ?_
   refine l_at hF rfl rfl rfl (x_move (hF.tmp 5 rfl)) ?_; clear hF; intro a hF
   refine l_at hF rfl rfl rfl (x_assign (hF.tmp 48 rfl)) ?_; clear hF; intro a hF
   refine wpList_nil ?_
   refine hK14 _ _ ?_
   refine wp_ret ?_
   try simp only [Exit.then, Exit.inBlock]
   exact fin_ret hF (res1 hF rfl rfl) ⟨_, rfl, hH.mods, Hp.out hH 45 rfl⟩
  ·have hk24_4 := hc24; try simp only [Bool.or_eq_true, Bool.and_eq_true, Bool.or_eq_false_iff, Bool.and_eq_false_iff, Bool.not_eq_true', Bool.not_eq_false', decide_eq_true_eq, decide_eq_false_iff_not, Bool.not_true, Bool.not_false] at hc24
   refine wp_skip ?_
   refine hK3 _ _ ?_
   refine wp_seq_k fun khK15 hK15 => ?_
   refine wp_region_lit ?_
   refine l_at hF rfl rfl rfl (x_faddr Tryd.underlying55 rfl ty50 (by decide) (hF.tmp 1 rfl) rfl) ?_; clear hF; intro a hF
   refine l_at hF rfl rfl rfl (x_load1 ty50 (hF.tmp 38 rfl) (blk_cell (hH.at 1 rfl) 0 rfl)) ?_; clear hF; intro a hF
   refine l_at hF rfl rfl rfl (x_conv Tryd.underlying5 ⟨_, Tryd.underlying50⟩ (hF.tmp 39 rfl) (wu8 (by have := (op_kind hb ho); omega) (by have := (op_kind hb ho); omega))) ?_; clear hF; intro a hF
   refine wpList_plain rfl fun K hK => ?_
   refine w_lit 41 (enc := Value.int .u8) (h1 := fun _ => rfl) ([o.kind]) hF hH rfl Tryd.underlying28 ty5 (by simp only [List.map_toArray, List.map_cons, List.map_nil, hF.tmp 40 rfl]; rfl) rfl (by decide) (by decide) (by kernel_rfl) ?_
   clear hF hH; intro a w b41 hF hH
   refine hK _ _ ?_; clear hK K
   have hH := hH.freeze 41 rfl (fun kb => (Value.slice (some ⟨b41, 0, none⟩) ([o.kind]).length ([o.kind]).length).ownBlock = some kb) (fun kb => ⟨fun h => .inr h, fun h => h.resolve_left id⟩)
   refine l_at hF rfl rfl rfl (x_buildS (cells := #[.int .i64 1, .slice (some ⟨b41, 0, none⟩) ([o.kind]).length ([o.kind]).length]) (places := #[(0, 1), (1, 1)]) Tryd.underlying99 ty99 (by kernel_rfl) (by simp only [List.map_toArray, List.map_cons, List.map_nil, hF.tmp 41 rfl] <;> rfl) rfl) ?_; clear hF; intro a hF
   refine l_at hF rfl rfl rfl (x_loadn ty99 (hF.tmp 3 rfl) rfl (blk_whole (hH.at 3 rfl))) ?_; clear hF; intro a hF
   refine wpList_plain rfl fun K hK => ?_
   refine w_litE 44 FE ([((1, [o.kind]) : Fld), ((2, o.key) : Fld)]) #[.int .i64 1, .slice (some ⟨b41, 0, none⟩) ([o.kind]).length ([o.kind]).length, .int .i64 2, .slice (some ⟨b9, 0, none⟩) o.key.length c9] (fun kb => (fun kb => (Value.slice (some ⟨b41, 0, none⟩) ([o.kind]).length ([o.kind]).length).ownBlock = some kb) kb ∨ (fun kb => kb = b9) kb) hF hH rfl Tryd.underlying100 ty99 (by simp only [List.map_toArray, List.map_cons, List.map_nil, hF.tmp 42 rfl, hF.tmp 43 rfl] <;> rfl) rfl (by decide) (by decide) (by kernel_rfl) ((Elems.single (fld_mk (f := ((1, [o.kind]) : Fld)) (((hH.rd 41 rfl)).move (fun _ _ _ => rfl) (fun k h _ => .inl h)))).append (Elems.single (fld_mk (f := ((2, o.key) : Fld)) (((hH.rd 9 rfl)).move (fun _ _ _ => rfl) (fun k h _ => .inr h))))) (fun kb hk => hk.elim (fun h => ⟨41, _, rfl, h⟩) (fun h => ⟨9, _, rfl, h⟩)) ?_
   clear hF hH; intro a w b44 hF hH
   refine hK _ _ ?_; clear hK K
   refine wpList_plain rfl fun K hK => ?_
   refine w_call hF (x_enter Tryd.func42 (by kernel_rfl) rfl (by simp only [List.map_toArray, List.map_cons, List.map_nil, hF.tmp 44 rfl] <;> rfl)) (enc_at (Row.rd (ok' := fun k_ => (fun kb => (fun kb => (Value.slice (some ⟨b41, 0, none⟩) ([o.kind]).length ([o.kind]).length).ownBlock = some kb) kb ∨ (fun kb => kb = b9) kb) k_ ∨ (.slice (some ⟨b44, 0, none⟩) ([((1, [o.kind]) : Fld), ((2, o.key) : Fld)]).length ([((1, [o.kind]) : Fld), ((2, o.key) : Fld)]).length : Value).ownBlock = some k_) (hH.row 44 rfl) (fun _ hk_ _ => .inl hk_) (fun _ hk_ => .inr hk_)) (by rw [opF_1 hc13 hc24]; exact op_encR hb ho)) rfl rfl ?_
   rintro _ w ⟨vr45, rfl, hm_, hr_⟩; refine ⟨_, rfl, ?_⟩; clear hF; intro a hF; have hH := Hp.rowOut hH 45 hm_ hr_; obtain ⟨Ar45, cr45, rfl⟩ := (hH.row 45 rfl).form
   refine hK _ _ ?_; clear hK K
   refine l_at hF rfl rfl rfl (x_move (hF.tmp 45 rfl)) ?_; clear hF; intro a hF
   refine l_at hF rfl rfl rfl (x_extract (hF.tmp 37 rfl) rfl) ?_; clear hF; intro a hF
   refine l_at hF rfl rfl rfl (x_extract (hF.tmp 37 rfl) rfl) ?_; clear hF; intro a hF
   refine l_at hF rfl rfl rfl (x_assign (hF.tmp 46 rfl)) ?_; clear hF; intro a hF
   refine l_at hF rfl rfl rfl (x_assign (hF.tmp 47 rfl)) ?_; clear hF; intro a hF
   refine wpList_nil ?_
   refine hK15 _ _ ?_
   refine wp_seq_k fun khK16 hK16 => ?_
   refine wp_region_lit ?_
   refine l_at hF rfl rfl rfl (x_move (hF.tmp 5 rfl)) ?_; clear hF; intro a hF
   refine l_at hF rfl rfl rfl (x_assign (hF.tmp 48 rfl)) ?_; clear hF; intro a hF
   refine wpList_nil ?_
   refine hK16 _ _ ?_
   refine wp_ret ?_
   try simp only [Exit.then, Exit.inBlock]
   exact fin_ret hF (res1 hF rfl rfl) ⟨_, rfl, hH.mods, Hp.out hH 45 rfl⟩
set_option maxRecDepth 100000 in
set_option maxHeartbeats 1000000 in
theorem encQ_calls (w0 : World) {pp : Bool} (hL : LibAt pp w0) {r : SReqD} {okr0 : Nat → Prop} {Ar0 : Option Addr} {cr0 : Nat} (hrr0 : Rd OpdE w0 okr0 Ar0 r.ops cr0) (hb : SReqB r) : Calls Tryd.prog 38 #[.agg #[.string (strOfNums r.client), .int .i64 r.num, .slice Ar0 r.ops.length cr0]] w0 fun e w' => ∃ v, e = .returned (.tuple #[v, .int .i64 (encQE r)]) ∧ Mods (fun _ => False) w0 w' ∧ RowOut (.int .u8) 5 w0 w' v (encQ r) := by
 refine calls_of_wp Tryd.func38 rfl ?_
 have hF := Fr.enter #[.agg #[.string (strOfNums r.client), .int .i64 r.num, .slice Ar0 r.ops.length cr0]] 59 (slotsOf [.agg #[.string (strOfNums r.client), .int .i64 r.num, .slice Ar0 r.ops.length cr0]] 0) (Nat.le_of_ble_eq_true rfl) (fun i v h => by have h2 := (get_slotsOf _ 0 i v h).2; simpa only [List.getElem?_toArray, Nat.sub_zero] using h2)
 have hH := Hp.nil (fun _ => False) w0
 rw [Tryd.ntmps38]
 revert hF; generalize (⟨(#[.agg #[.string (strOfNums r.client), .int .i64 r.num, .slice Ar0 r.ops.length cr0]] : Array Value) ++ Array.replicate (59 - (#[.agg #[.string (strOfNums r.client), .int .i64 r.num, .slice Ar0 r.ops.length cr0]] : Array Value).size) undef, []⟩ : Act) = a; intro hF
 have hH := hH.arg 900 hrr0.all (fun _ h => ⟨h, fun h => h⟩)
 have hler0 := hrr0.le; unfold maxLen at hler0
 have hH := hH.libN 990 hL
 refine wp_seq_k fun khK1 hK1 => ?_
 refine wp_region_lit ?_
 refine wpList_plain rfl fun K hK => ?_
 refine w_box 1 hF hH rfl (hF.tmp 0 rfl) ?_
 clear hF hH; intro a w b1 hF hH
 refine hK _ _ ?_; clear hK K
 refine l_at hF rfl rfl rfl (x_assign rfl) ?_; clear hF; intro a hF
 refine l_at hF rfl rfl rfl (x_assign rfl) ?_; clear hF; intro a hF
 refine wpList_nil ?_
 refine hK1 _ _ ?_
 refine wp_seq_k fun khK2 hK2 => ?_
 refine wp_seq_k fun khK3 hK3 => ?_
 refine wp_region_lit ?_
 refine l_at hF rfl rfl rfl (x_loadn ty45 (hF.tmp 1 rfl) rfl (blk_whole (hH.at 1 rfl))) ?_; clear hF; intro a hF
 refine wpList_plain rfl fun K hK => ?_
 refine w_call hF (x_enter Tryd.func21 (by kernel_rfl) rfl (by simp only [List.map_toArray, List.map_cons, List.map_nil, hF.tmp 10 rfl] <;> rfl)) (rightQ_calls (r := r) _ (hH.holds 990 _ rfl) ((hH.rd 900 rfl)) hb) rfl rfl ?_
 rintro _ w ⟨rfl, hm_⟩; refine ⟨_, rfl, ?_⟩; clear hF; intro a hF; have hH := hH.same hm_
 refine hK _ _ ?_; clear hK K
 refine l_at hF rfl rfl rfl (x_not (hF.tmp 11 rfl)) ?_; clear hF; intro a hF
 refine wpList_nil ?_
 refine hK3 _ _ ?_
 refine wp_cond_split (hF.tmp 12 rfl) (fun hc12 => ?_) (fun hc12 => ?_)
 ·have hk12_1 := hc12; try simp only [Bool.or_eq_true, Bool.and_eq_true, Bool.or_eq_false_iff, Bool.and_eq_false_iff, Bool.not_eq_true', Bool.not_eq_false', decide_eq_true_eq, decide_eq_false_iff_not, Bool.not_true, Bool.not_false] at hc12
  have hz : rightQ r = false := by simpa using hc12
  refine wp_seq_k fun khK4 hK4 => ?_
  refine wp_region_lit ?_
  refine l_at hF rfl rfl rfl (x_assign rfl) ?_; clear hF; intro a hF
  refine l_at hF rfl rfl rfl (x_assign rfl) ?_; clear hF; intro a hF
  refine wpList_nil ?_
  refine hK4 _ _ ?_
  refine wp_ret ?_
  try simp only [Exit.then, Exit.inBlock]
  exact fin_ret hF (res2 hF rfl rfl rfl) ⟨.slice none 0 0, by rw [encQE_no hz] <;> rfl, hH.mods, by rw [encQ_no hz]; exact RowOut.nil _ _ _ _⟩
 ·have hk12_2 := hc12; try simp only [Bool.or_eq_true, Bool.and_eq_true, Bool.or_eq_false_iff, Bool.and_eq_false_iff, Bool.not_eq_true', Bool.not_eq_false', decide_eq_true_eq, decide_eq_false_iff_not, Bool.not_true, Bool.not_false] at hc12
  have hr : rightQ r = true := by simpa using hc12
  refine wp_skip ?_
  refine hK2 _ _ ?_
  refine wp_seq_k fun khK5 hK5 => ?_
  refine r_start [(1, .blk b1 (.cells #[.string (strOfNums r.client), .int .i64 r.num, .slice Ar0 r.ops.length cr0] 45 (0, 0)))] (by kernel_rfl) hH fun hH => ?_
  have hS : SL [(1, .blk b1 (.cells #[.string (strOfNums r.client), .int .i64 r.num, .slice Ar0 r.ops.length cr0] 45 (0, 0)))] _ := SL.of hH (sub_cons (sub_nil _) 1 rfl)
  refine r_take 0 hF rfl rfl rfl (by kernel_rfl) (by kernel_rfl) (by kernel_rfl) (fun _ _ _ h => h) rfl hS (fun w hS => x_faddr Tryd.underlying45 rfl ty9 (by decide) (hF.tmp 1 rfl) rfl) rfl ?_; clear hF; intro a hF
  refine r_take 1 hF rfl rfl rfl (by kernel_rfl) (by kernel_rfl) (by kernel_rfl) (fun _ _ _ h => h) rfl hS (fun w hS => x_load1 ty9 (hF.tmp 13 rfl) (blk_cell (SL.at_ hS 1 rfl) 0 rfl)) rfl ?_; clear hF; intro a hF
  refine r_take 4 hF rfl rfl rfl (by kernel_rfl) (by kernel_rfl) (by kernel_rfl) (fun _ _ _ h => h) rfl hS (fun w hS => x_faddr Tryd.underlying45 rfl ty3 (by decide) (hF.tmp 1 rfl) rfl) rfl ?_; clear hF; intro a hF
  refine r_take 5 hF rfl rfl rfl (by kernel_rfl) (by kernel_rfl) (by kernel_rfl) (fun _ _ _ h => h) rfl hS (fun w hS => x_load1 ty3 (hF.tmp 17 rfl) (blk_cell (SL.at_ hS 1 rfl) 1 rfl)) rfl ?_; clear hF; intro a hF
  refine r_take 6 hF rfl rfl rfl (by kernel_rfl) (by kernel_rfl) (by kernel_rfl) (fun _ _ _ h => h) rfl hS (fun w hS => x_conv Tryd.underlying34 ⟨_, Tryd.underlying3⟩ (hF.tmp 18 rfl) (wu64 (by have := (rightQ_parts hr); omega) (by have := (rightQ_parts hr); omega))) rfl ?_; clear hF; intro a hF
  refine r_do2 2 7 rfl rfl (by kernel_rfl) rfl rfl rfl rfl ?_ ?_
  ·
   refine w_s2b 15 (xs := r.client) hF hH rfl Tryd.underlying9 Tryd.underlying28 Tryd.underlying5 (hF.tmp 14 rfl) hb.client (by have := (rightQ_parts hr); omega) ?_
   clear hF hH; intro a w b15 c15 hb15_ hF hH
   clear hS; have hS : SL _ _ := SL.of hH (sub_cons (sub_nil _) 1 rfl); refine ⟨hS, ?_⟩
   refine r_take 3 hF rfl rfl rfl (by kernel_rfl) (by kernel_rfl) (by kernel_rfl) (fun _ _ _ h => h) rfl hS (fun w hS => x_buildS (cells := #[.int .i64 1, .slice (some ⟨b15, 0, none⟩) r.client.length c15]) (places := #[(0, 1), (1, 1)]) Tryd.underlying99 ty99 (by kernel_rfl) (by simp only [List.map_toArray, List.map_cons, List.map_nil, hF.tmp 15 rfl] <;> rfl) rfl) rfl ?_; clear hF; intro a hF
   refine r_do 7 rfl (by kernel_rfl) rfl rfl ?_
   refine w_call hF (x_enter Tryd.func14 (by kernel_rfl) rfl (by simp only [List.map_toArray, List.map_cons, List.map_nil, hF.tmp 19 rfl] <;> rfl)) (bI_calls _ (by have := (rightQ_parts hr); exact ⟨by omega, by omega⟩)) rfl rfl ?_
   rintro _ w ⟨vr20, rfl, hm_, hr_⟩; refine ⟨_, rfl, ?_⟩; clear hF; intro a hF; have hH := Hp.rowOut hH 20 hm_ hr_; obtain ⟨Ar20, cr20, rfl⟩ := (hH.row 20 rfl).form
   clear hS; have hS : SL _ _ := SL.of hH (sub_cons (sub_nil _) 1 rfl); refine ⟨hS, ?_⟩
   have hH := hH.freeze 20 rfl (fun kb => (Value.slice Ar20 (bI r.num).length cr20).ownBlock = some kb) (fun kb => ⟨fun h => .inr h, fun h => h.resolve_left id⟩)
   refine r_take 8 hF rfl rfl rfl (by kernel_rfl) (by kernel_rfl) (by kernel_rfl) (fun _ _ _ h => h) rfl hS (fun w hS => x_buildS (cells := #[.int .i64 2, .slice Ar20 (bI r.num).length cr20]) (places := #[(0, 1), (1, 1)]) Tryd.underlying99 ty99 (by kernel_rfl) (by simp only [List.map_toArray, List.map_cons, List.map_nil, hF.tmp 20 rfl] <;> rfl) rfl) rfl ?_; clear hF; intro a hF
   refine r_do 9 rfl (by kernel_rfl) rfl rfl ?_
   refine w_litE 4 FE ([((1, r.client) : Fld), ((2, bI r.num) : Fld)]) #[.int .i64 1, .slice (some ⟨b15, 0, none⟩) r.client.length c15, .int .i64 2, .slice Ar20 (bI r.num).length cr20] (fun kb => (fun kb => kb = b15) kb ∨ (fun kb => (Value.slice Ar20 (bI r.num).length cr20).ownBlock = some kb) kb) hF hH rfl Tryd.underlying100 ty99 (by simp only [List.map_toArray, List.map_cons, List.map_nil, hF.tmp 16 rfl, hF.tmp 21 rfl] <;> rfl) rfl (by decide) (by decide) (by kernel_rfl) ((Elems.single (fld_mk (f := ((1, r.client) : Fld)) (((hH.rd 15 rfl)).move (fun _ _ _ => rfl) (fun k h _ => .inl h)))).append (Elems.single (fld_mk (f := ((2, bI r.num) : Fld)) (((hH.rd 20 rfl)).move (fun _ _ _ => rfl) (fun k h _ => .inr h))))) (fun kb hk => hk.elim (fun h => ⟨15, _, rfl, h⟩) (fun h => ⟨20, _, rfl, h⟩)) ?_
   clear hF hH; intro a w b22 hF hH
   clear hS; have hS : SL _ _ := SL.of hH (sub_cons (sub_nil _) 1 rfl); refine ⟨hS, ?_⟩
   refine r_take 10 hF rfl rfl rfl (by kernel_rfl) (by kernel_rfl) (by kernel_rfl) (fun _ _ _ h => h) rfl hS (fun w hS => x_assign (hF.tmp 22 rfl)) rfl ?_; clear hF; intro a hF
   refine r_end (by kernel_rfl) ?_; clear hS
   refine hK5 _ _ ?_
   refine wp_seq_k fun khK6 hK6 => ?_
   refine wp_seq_k fun khK7 hK7 => ?_
   refine wp_region_lit ?_
   refine l_at hF rfl rfl rfl (x_faddr Tryd.underlying45 rfl ty43 (by decide) (hF.tmp 1 rfl) rfl) ?_; clear hF; intro a hF
   refine l_at hF rfl rfl rfl (x_load1 ty43 (hF.tmp 23 rfl) (blk_cell (hH.at 1 rfl) 2 rfl)) ?_; clear hF; intro a hF
   refine l_at hF rfl rfl rfl (x_len_slice Tryd.underlying43 (hF.tmp 24 rfl)) ?_; clear hF; intro a hF
   refine l_at hF rfl rfl rfl (x_move rfl) ?_; clear hF; intro a hF
   refine wpList_nil ?_
   refine hK7 _ _ ?_
   refine wp_block ?_
   refine wp_loop_ghost (fun n_ a w => ∃ k : Nat, ∃ v4 : Value, ∃ okv : Nat → Prop, n_ = r.ops.length - k ∧ (k ≤ r.ops.length) ∧ Fr 59 a [(4, v4), (24, .slice Ar0 r.ops.length cr0), (25, .int .i64 (r.ops.length : Int)), (26, .int .i64 (k : Int))] ∧ Hp (fun _ => False) w0 w [(900, .rd_ OpdE Ar0 r.ops cr0 (fun k => k < w0.heap.size)), (990, .lib pp), (1, .blk b1 (.cells #[.string (strOfNums r.client), .int .i64 r.num, .slice Ar0 r.ops.length cr0] 45 (0, 0))), (15, .rd_ (.int .u8) (some ⟨b15, 0, none⟩) r.client c15 (fun kb => kb = b15)), (20, .rd_ (.int .u8) Ar20 (bI r.num) cr20 (fun kb => (Value.slice Ar20 (bI r.num).length cr20).ownBlock = some kb)), (4, .row FE 99 v4 ([((1, r.client) : Fld), ((2, bI r.num) : Fld)] ++ (r.ops.take k).map (fun o => ((3, opI o) : Fld))) okv)]) (r.ops.length) ?_ ?_
   ·exact ⟨0, .slice (some ⟨b22, 0, none⟩) ([((1, r.client) : Fld), ((2, bI r.num) : Fld)]).length ([((1, r.client) : Fld), ((2, bI r.num) : Fld)]).length, (fun kb => (fun kb => kb = b15) kb ∨ (fun kb => (Value.slice Ar20 (bI r.num).length cr20).ownBlock = some kb) kb), rfl, by omega, ((((hF.bare.add hF 26 rfl).add hF 25 rfl).add hF 24 rfl).add hF 4 rfl), hH.sub _ (sub_cons (sub_cons (sub_cons (sub_cons (sub_cons (sub_cons (sub_nil _) 4 rfl) 20 rfl) 15 rfl) 1 rfl) 990 rfl) 900 rfl)⟩
   ·rintro _ a w ⟨k, v4, okv, rfl, hq0_0, hF, hH⟩
    refine wp_seq_k fun khK8 hK8 => ?_
    refine wp_region_lit ?_
    refine l_at hF rfl rfl rfl (x_lss (hF.tmp 26 rfl) (hF.tmp 25 rfl)) ?_; clear hF; intro a hF
    refine wpList_nil ?_
    refine hK8 _ _ ?_
    refine wp_seq_k fun khK9 hK9 => ?_
    refine wp_cond_split (hF.tmp 27 rfl) (fun hc27 => ?_) (fun hc27 => ?_)
    ·have hk27_3 := hc27; try simp only [Bool.or_eq_true, Bool.and_eq_true, Bool.or_eq_false_iff, Bool.and_eq_false_iff, Bool.not_eq_true', Bool.not_eq_false', decide_eq_true_eq, decide_eq_false_iff_not, Bool.not_true, Bool.not_false] at hc27
     refine wp_skip ?_
     refine hK9 _ _ ?_
     refine wp_seq_k fun khK10 hK10 => ?_
     refine wp_block ?_
     refine wp_seq_k fun khK11 hK11 => ?_
     refine wp_region_lit ?_
     obtain ⟨fA1, fc1, hfr1, hf1_0, hf1_1, hf1_2, hf1_3, hf1_4, hf1_5, hf1_6, hf1_7, hf1_8, hf1_9, hf1_10, hfw1⟩ := rd_opd ((hH.rd 900 rfl)) (gopd_some (xs := r.ops) (i := (k : Int)) (by omega) (by omega))
     have hH := hH.subrd 900 rfl 1010 hfr1 (fun _ h => h)
     have hH := hH.subcels 900 rfl 1499 hfw1 (Rd.inok ((hH.rd 900 rfl)) (by omega) _)
     have hH := hH.subcel 900 rfl 1500 hf1_0 (Rd.inok ((hH.rd 900 rfl)) (by omega) _)
     have hH := hH.subcel 900 rfl 1501 hf1_1 (Rd.inok ((hH.rd 900 rfl)) (by omega) _)
     have hH := hH.subcel 900 rfl 1502 hf1_2 (Rd.inok ((hH.rd 900 rfl)) (by omega) _)
     have hH := hH.subcel 900 rfl 1503 hf1_3 (Rd.inok ((hH.rd 900 rfl)) (by omega) _)
     have hH := hH.subcel 900 rfl 1504 hf1_4 (Rd.inok ((hH.rd 900 rfl)) (by omega) _)
     have hH := hH.subcel 900 rfl 1505 hf1_5 (Rd.inok ((hH.rd 900 rfl)) (by omega) _)
     have hH := hH.subcel 900 rfl 1506 hf1_6 (Rd.inok ((hH.rd 900 rfl)) (by omega) _)
     have hH := hH.subcel 900 rfl 1507 hf1_7 (Rd.inok ((hH.rd 900 rfl)) (by omega) _)
     have hH := hH.subcel 900 rfl 1508 hf1_8 (Rd.inok ((hH.rd 900 rfl)) (by omega) _)
     have hH := hH.subcel 900 rfl 1509 hf1_9 (Rd.inok ((hH.rd 900 rfl)) (by omega) _)
     have hH := hH.subcel 900 rfl 1510 hf1_10 (Rd.inok ((hH.rd 900 rfl)) (by omega) _)
     have hmem := gopd_mem (xs := r.ops) (j := k) (by omega)
     refine l_at hF rfl rfl rfl (x_iaddr_A Tryd.underlying43 ty55 ((hH.rd 900 rfl)) (hF.tmp 24 rfl) (hF.tmp 26 rfl) (by omega) (by omega) _) ?_; clear hF; intro a hF
     refine l_at hF rfl rfl rfl (x_loadn ty55 (hF.tmp 28 rfl) rfl (hH.holds 1499 _ rfl)) ?_; clear hF; intro a hF
     refine wpList_plain rfl fun K hK => ?_
     refine w_alloc 6 hF hH rfl ty55 ?_
     clear hF hH; intro a w b6 hF hH
     refine hK _ _ ?_; clear hK K
     refine wpList_plain rfl fun K hK => ?_
     refine w_storeA 6 hH ty55 rfl (hF.tmp 6 rfl) (hF.tmp 29 rfl) rfl (by simp [Value.cells, Value.oneCell']) rfl ?_
     clear hH; intro w hH
     refine hK _ _ ?_; clear hK K
     refine wpList_nil ?_
     refine hK11 _ _ ?_
     refine wp_region_lit ?_
     refine l_at hF rfl rfl rfl (x_move (hF.tmp 4 rfl)) ?_; clear hF; intro a hF
     refine l_at hF rfl rfl rfl (x_loadn ty55 (hF.tmp 6 rfl) rfl (blk_whole (hH.at 6 rfl))) ?_; clear hF; intro a hF
     refine wpList_plain rfl fun K hK => ?_
     refine w_call hF (x_enter Tryd.func74 (by kernel_rfl) rfl (by simp only [List.map_toArray, List.map_cons, List.map_nil, hF.tmp 31 rfl] <;> rfl)) (op_calls (o := (gopd r.ops (k : Int))) _ (hH.holds 990 _ rfl) ((hH.rd 1010 rfl)) (hb.ops _ hmem) (rightQ_op hb hr hmem)) rfl rfl ?_
     rintro _ w ⟨vr32, rfl, hm_, hr_⟩; refine ⟨_, rfl, ?_⟩; clear hF; intro a hF; have hH := Hp.rowOut hH 32 hm_ hr_; obtain ⟨Ar32, cr32, rfl⟩ := (hH.row 32 rfl).form
     refine hK _ _ ?_; clear hK K
     have hH := hH.freeze 32 rfl (fun kb => (Value.slice Ar32 (opI (gopd r.ops (k : Int))).length cr32).ownBlock = some kb) (fun kb => ⟨fun h => .inr h, fun h => h.resolve_left id⟩)
     refine l_at hF rfl rfl rfl (x_buildS (cells := #[.int .i64 3, .slice Ar32 (opI (gopd r.ops (k : Int))).length cr32]) (places := #[(0, 1), (1, 1)]) Tryd.underlying99 ty99 (by kernel_rfl) (by simp only [List.map_toArray, List.map_cons, List.map_nil, hF.tmp 32 rfl] <;> rfl) rfl) ?_; clear hF; intro a hF
     refine wpList_plain rfl fun K hK => ?_
     refine w_lit1 34 FE ((3, (opI (gopd r.ops (k : Int)))) : Fld) #[.int .i64 3, .slice Ar32 (opI (gopd r.ops (k : Int))).length cr32] (fun kb => (Value.slice Ar32 (opI (gopd r.ops (k : Int))).length cr32).ownBlock = some kb) hF hH rfl Tryd.underlying100 ty99 (by simp only [List.map_toArray, List.map_cons, List.map_nil, hF.tmp 33 rfl] <;> rfl) (by decide) (by kernel_rfl) (fld_mk (f := ((3, (opI (gopd r.ops (k : Int)))) : Fld)) ((hH.rd 32 rfl))) (fun kb hk => ⟨32, _, rfl, hk⟩) ?_
     clear hF hH; intro a w b34 hF hb34_ hH
     refine hK _ _ ?_; clear hK K
     refine wpList_plain rfl fun K hK => ?_
     refine w_append 4 34 (xs := ([((1, r.client) : Fld), ((2, bI r.num) : Fld)] ++ (r.ops.take k).map (fun o => ((3, opI o) : Fld)))) (ys := ([((3, (opI (gopd r.ops (k : Int)))) : Fld)])) hF hH rfl Tryd.underlying100 ty99 rfl rfl rfl rfl ((hH.rd 34 rfl)) (by intro k_ hk_; exact .inr hk_) (hF.tmp 30 rfl) (hF.tmp 34 rfl) (by have := (rightQ_parts hr); simp only [List.length_append, List.length_nil, List.length_cons, List.length_map, List.length_take] at *; omega) (by have := (rightQ_parts hr); simp only [List.length_append, List.length_nil, List.length_cons, List.length_map, List.length_take, maxLen] at *; omega) (fun kb => okv kb ∨ (fun kb => (fun kb => (Value.slice Ar32 (opI (gopd r.ops (k : Int))).length cr32).ownBlock = some kb) kb ∨ kb = b34) kb) (fun w' v' h => h) (by rintro k_ (hk_ | hk_); exact .inl hk_; exact .inr hk_) ?_
     clear hF hH; intro a w v35 hF hH
     refine hK _ _ ?_; clear hK K
     refine l_at hF rfl rfl rfl (x_assign (hF.tmp 35 rfl)) ?_; clear hF; intro a hF
     refine wpList_nil ?_
     refine hK10 _ _ ?_
     refine wp_region_lit ?_
     refine l_at hF rfl rfl rfl (x_add (hF.tmp 26 rfl) rfl (w64 (by omega) (by omega))) ?_; clear hF; intro a hF
     refine l_at hF rfl rfl rfl (x_move (hF.tmp 36 rfl)) ?_; clear hF; intro a hF
     refine wpList_nil ?_
     have hHs : Hp (fun _ => False) w0 w [(900, .rd_ OpdE Ar0 r.ops cr0 (fun k => k < w0.heap.size)), (990, .lib pp), (1, .blk b1 (.cells #[.string (strOfNums r.client), .int .i64 r.num, .slice Ar0 r.ops.length cr0] 45 (0, 0))), (15, .rd_ (.int .u8) (some ⟨b15, 0, none⟩) r.client c15 (fun kb => kb = b15)), (20, .rd_ (.int .u8) Ar20 (bI r.num) cr20 (fun kb => (Value.slice Ar20 (bI r.num).length cr20).ownBlock = some kb)), (4, .row FE 99 v35 (([((1, r.client) : Fld), ((2, bI r.num) : Fld)] ++ (r.ops.take k).map (fun o => ((3, opI o) : Fld))) ++ [((3, opI (gopd r.ops (k : Int))) : Fld)]) (fun kb => okv kb ∨ (fun kb => (fun kb => (Value.slice Ar32 (opI (gopd r.ops (k : Int))).length cr32).ownBlock = some kb) kb ∨ kb = b34) kb))] := hH.sub _ (sub_cons (sub_cons (sub_cons (sub_cons (sub_cons (sub_cons (sub_nil _) 4 rfl) 20 rfl) 15 rfl) 1 rfl) 990 rfl) 900 rfl)
     rw [ops_stepL hc27] at hHs
     exact ⟨_, by omega, ⟨k + 1, v35, (fun kb => okv kb ∨ (fun kb => (fun kb => (Value.slice Ar32 (opI (gopd r.ops (k : Int))).length cr32).ownBlock = some kb) kb ∨ kb = b34) kb), rfl, by omega, ((((hF.bare.add hF 26 rfl).add hF 25 rfl).add hF 24 rfl).add hF 4 rfl), hHs⟩⟩
    ·have hk27_4 := hc27; try simp only [Bool.or_eq_true, Bool.and_eq_true, Bool.or_eq_false_iff, Bool.and_eq_false_iff, Bool.not_eq_true', Bool.not_eq_false', decide_eq_true_eq, decide_eq_false_iff_not, Bool.not_true, Bool.not_false] at hc27
     refine wp_exit ?_
     refine hK6 _ _ ?_
     refine wp_seq_k fun khK12 hK12 => ?_
     refine wp_region_lit ?_
     obtain rfl : k = r.ops.length := by omega
     rw [List.take_length] at hH
     obtain ⟨Av, cv, rfl⟩ := (hH.row 4 rfl).form
     rw [show ([((1, r.client) : Fld), ((2, bI r.num) : Fld)] ++ r.ops.map (fun o => ((3, opI o) : Fld))) = reqF r from rfl] at hH
     refine l_at hF rfl rfl rfl (x_move (hF.tmp 4 rfl)) ?_; clear hF; intro a hF
     refine wpList_plain rfl fun K hK => ?_
     refine w_call hF (x_enter Tryd.func42 (by kernel_rfl) rfl (by simp only [List.map_toArray, List.map_cons, List.map_nil, hF.tmp 38 rfl] <;> rfl)) (enc_at (Row.rd (ok' := fun k_ => okv k_ ∨ (.slice Av (reqF r).length cv : Value).ownBlock = some k_) (hH.row 4 rfl) (fun _ hk_ _ => .inl hk_) (fun _ hk_ => .inr hk_)) (req_encR hb hr)) rfl rfl ?_
     rintro _ w ⟨vr39, rfl, hm_, hr_⟩; refine ⟨_, rfl, ?_⟩; clear hF; intro a hF; have hH := Hp.rowOut hH 39 hm_ hr_; obtain ⟨Ar39, cr39, rfl⟩ := (hH.row 39 rfl).form
     refine hK _ _ ?_; clear hK K
     refine l_at hF rfl rfl rfl (x_move (hF.tmp 39 rfl)) ?_; clear hF; intro a hF
     refine l_at hF rfl rfl rfl (x_extract (hF.tmp 37 rfl) rfl) ?_; clear hF; intro a hF
     refine l_at hF rfl rfl rfl (x_extract (hF.tmp 37 rfl) rfl) ?_; clear hF; intro a hF
     refine l_at hF rfl rfl rfl (x_assign (hF.tmp 40 rfl)) ?_; clear hF; intro a hF
     refine l_at hF rfl rfl rfl (x_assign (hF.tmp 41 rfl)) ?_; clear hF; intro a hF
     refine wpList_nil ?_
     refine hK12 _ _ ?_
     refine wp_seq_k fun khK13 hK13 => ?_
     refine wp_region_lit ?_
     refine l_at hF rfl rfl rfl (x_move (hF.tmp 7 rfl)) ?_; clear hF; intro a hF
     refine wpList_plain rfl fun K hK => ?_
     refine w_call hF (x_enter Tryd.func43 (by kernel_rfl) rfl (by simp only [List.map_toArray, List.map_cons, List.map_nil, hF.tmp 42 rfl] <;> rfl)) (Crc.sum_calls _ (Row.rd (ok' := fun k_ => (fun _ => False) k_ ∨ (.slice Ar39 (encI (reqF r)).length cr39 : Value).ownBlock = some k_) (hH.row 39 rfl) (fun _ hk_ _ => .inl hk_) (fun _ hk_ => .inr hk_))) rfl rfl ?_
     rintro _ w ⟨rfl, hm_⟩; refine ⟨_, rfl, ?_⟩; clear hF; intro a hF; have hH := hH.same hm_
     refine hK _ _ ?_; clear hK K
     refine l_at hF rfl rfl rfl (x_assign (hF.tmp 43 rfl)) ?_; clear hF; intro a hF
     refine wpList_nil ?_
     refine hK13 _ _ ?_
     refine wp_seq_k fun khK14 hK14 => ?_
     refine wp_region_lit ?_
     refine l_at hF rfl rfl rfl (x_move (hF.tmp 7 rfl)) ?_; clear hF; intro a hF
     refine l_at hF rfl rfl rfl (x_move (hF.tmp 9 rfl)) ?_; clear hF; intro a hF
     refine l_at hF rfl rfl rfl (x_conv Tryd.underlying5 ⟨_, Tryd.underlying102⟩ (hF.tmp 45 rfl) (IntKind.wrap_u8 _)) ?_; clear hF; intro a hF
     refine l_at hF rfl rfl rfl (x_move (hF.tmp 9 rfl)) ?_; clear hF; intro a hF
     refine l_at hF rfl rfl rfl (x_shr (hF.tmp 47 rfl) rfl (by omega) (shrU _).1) ?_; clear hF; intro a hF
     refine l_at hF rfl rfl rfl (x_conv Tryd.underlying5 ⟨_, Tryd.underlying102⟩ (hF.tmp 48 rfl) (IntKind.wrap_u8 _)) ?_; clear hF; intro a hF
     refine l_at hF rfl rfl rfl (x_move (hF.tmp 9 rfl)) ?_; clear hF; intro a hF
     refine l_at hF rfl rfl rfl (x_shr (hF.tmp 50 rfl) rfl (by omega) (shrU _).2.1) ?_; clear hF; intro a hF
     refine l_at hF rfl rfl rfl (x_conv Tryd.underlying5 ⟨_, Tryd.underlying102⟩ (hF.tmp 51 rfl) (IntKind.wrap_u8 _)) ?_; clear hF; intro a hF
     refine l_at hF rfl rfl rfl (x_move (hF.tmp 9 rfl)) ?_; clear hF; intro a hF
     refine l_at hF rfl rfl rfl (x_shr (hF.tmp 53 rfl) rfl (by omega) (shrU _).2.2) ?_; clear hF; intro a hF
     refine l_at hF rfl rfl rfl (x_conv Tryd.underlying5 ⟨_, Tryd.underlying102⟩ (hF.tmp 54 rfl) (IntKind.wrap_u8 _)) ?_; clear hF; intro a hF
     refine wpList_plain rfl fun K hK => ?_
     refine w_lit 56 (enc := Value.int .u8) (h1 := fun _ => rfl) (le4 (Crc.moreI 0 (encI (reqF r)))) hF hH rfl Tryd.underlying28 ty5 (by simp only [List.map_toArray, List.map_cons, List.map_nil, hF.tmp 46 rfl, hF.tmp 49 rfl, hF.tmp 52 rfl, hF.tmp 55 rfl]; rfl) rfl (by decide) (by decide) (by kernel_rfl) ?_
     clear hF hH; intro a w b56 hF hH
     refine hK _ _ ?_; clear hK K
     refine wpList_plain rfl fun K hK => ?_
     refine w_append 39 56 (xs := (encI (reqF r))) (ys := (le4 (Crc.moreI 0 (encI (reqF r))))) hF hH rfl Tryd.underlying28 ty5 rfl rfl rfl rfl (Row.rd (ok' := fun k_ => (fun _ => False) k_ ∨ (.slice (some ⟨b56, 0, none⟩) ((le4 (Crc.moreI 0 (encI (reqF r))))).length ((le4 (Crc.moreI 0 (encI (reqF r))))).length : Value).ownBlock = some k_) (hH.row 56 rfl) (fun _ hk_ _ => .inl hk_) (fun _ hk_ => .inr hk_)) (by rintro k_ (hk_ | hk_); exact .inr hk_; exact .inl hk_) (hF.tmp 44 rfl) (hF.tmp 56 rfl) (by have := reqI_len hb hr; simp only [le4, List.length_cons, List.length_nil]; omega) (by have := reqI_len hb hr; simp only [le4, List.length_cons, List.length_nil, maxLen]; omega) (fun _ => False) (fun w' v' h => row_flat h _) (fun k_ hk_ => hk_.elim) ?_
     clear hF hH; intro a w v57 hF hH
     refine hK _ _ ?_; clear hK K
     refine l_at hF rfl rfl rfl (x_move (hF.tmp 8 rfl)) ?_; clear hF; intro a hF
     refine l_at hF rfl rfl rfl (x_assign (hF.tmp 57 rfl)) ?_; clear hF; intro a hF
     refine l_at hF rfl rfl rfl (x_assign (hF.tmp 58 rfl)) ?_; clear hF; intro a hF
     refine wpList_nil ?_
     refine hK14 _ _ ?_
     refine wp_ret ?_
     try simp only [Exit.then, Exit.inBlock]
     rw [encQ_yes hr] at hH
     exact fin_ret hF (res2 hF rfl rfl rfl) ⟨_, by rw [encQE_yes hr] <;> rfl, hH.mods, Hp.out hH 39 rfl⟩
  ·
   refine w_call hF (x_enter Tryd.func14 (by kernel_rfl) rfl (by simp only [List.map_toArray, List.map_cons, List.map_nil, hF.tmp 19 rfl] <;> rfl)) (bI_calls _ (by have := (rightQ_parts hr); exact ⟨by omega, by omega⟩)) rfl rfl ?_
   rintro _ w ⟨vr20, rfl, hm_, hr_⟩; refine ⟨_, rfl, ?_⟩; clear hF; intro a hF; have hH := Hp.rowOut hH 20 hm_ hr_; obtain ⟨Ar20, cr20, rfl⟩ := (hH.row 20 rfl).form
   clear hS; have hS : SL _ _ := SL.of hH (sub_cons (sub_nil _) 1 rfl); refine ⟨hS, ?_⟩
   have hH := hH.freeze 20 rfl (fun kb => (Value.slice Ar20 (bI r.num).length cr20).ownBlock = some kb) (fun kb => ⟨fun h => .inr h, fun h => h.resolve_left id⟩)
   refine r_take 8 hF rfl rfl rfl (by kernel_rfl) (by kernel_rfl) (by kernel_rfl) (fun _ _ _ h => h) rfl hS (fun w hS => x_buildS (cells := #[.int .i64 2, .slice Ar20 (bI r.num).length cr20]) (places := #[(0, 1), (1, 1)]) Tryd.underlying99 ty99 (by kernel_rfl) (by simp only [List.map_toArray, List.map_cons, List.map_nil, hF.tmp 20 rfl] <;> rfl) rfl) rfl ?_; clear hF; intro a hF
   refine r_do 2 rfl (by kernel_rfl) rfl rfl ?_
   refine w_s2b 15 (xs := r.client) hF hH rfl Tryd.underlying9 Tryd.underlying28 Tryd.underlying5 (hF.tmp 14 rfl) hb.client (by have := (rightQ_parts hr); omega) ?_
   clear hF hH; intro a w b15 c15 hb15_ hF hH
   clear hS; have hS : SL _ _ := SL.of hH (sub_cons (sub_nil _) 1 rfl); refine ⟨hS, ?_⟩
   refine r_take 3 hF rfl rfl rfl (by kernel_rfl) (by kernel_rfl) (by kernel_rfl) (fun _ _ _ h => h) rfl hS (fun w hS => x_buildS (cells := #[.int .i64 1, .slice (some ⟨b15, 0, none⟩) r.client.length c15]) (places := #[(0, 1), (1, 1)]) Tryd.underlying99 ty99 (by kernel_rfl) (by simp only [List.map_toArray, List.map_cons, List.map_nil, hF.tmp 15 rfl] <;> rfl) rfl) rfl ?_; clear hF; intro a hF
   refine r_do 9 rfl (by kernel_rfl) rfl rfl ?_
   refine w_litE 4 FE ([((1, r.client) : Fld), ((2, bI r.num) : Fld)]) #[.int .i64 1, .slice (some ⟨b15, 0, none⟩) r.client.length c15, .int .i64 2, .slice Ar20 (bI r.num).length cr20] (fun kb => (fun kb => kb = b15) kb ∨ (fun kb => (Value.slice Ar20 (bI r.num).length cr20).ownBlock = some kb) kb) hF hH rfl Tryd.underlying100 ty99 (by simp only [List.map_toArray, List.map_cons, List.map_nil, hF.tmp 16 rfl, hF.tmp 21 rfl] <;> rfl) rfl (by decide) (by decide) (by kernel_rfl) ((Elems.single (fld_mk (f := ((1, r.client) : Fld)) (((hH.rd 15 rfl)).move (fun _ _ _ => rfl) (fun k h _ => .inl h)))).append (Elems.single (fld_mk (f := ((2, bI r.num) : Fld)) (((hH.rd 20 rfl)).move (fun _ _ _ => rfl) (fun k h _ => .inr h))))) (fun kb hk => hk.elim (fun h => ⟨15, _, rfl, h⟩) (fun h => ⟨20, _, rfl, h⟩)) ?_
   clear hF hH; intro a w b22 hF hH
   clear hS; have hS : SL _ _ := SL.of hH (sub_cons (sub_nil _) 1 rfl); refine ⟨hS, ?_⟩
   refine r_take 10 hF rfl rfl rfl (by kernel_rfl) (by kernel_rfl) (by kernel_rfl) (fun _ _ _ h => h) rfl hS (fun w hS => x_assign (hF.tmp 22 rfl)) rfl ?_; clear hF; intro a hF
   refine r_end (by kernel_rfl) ?_; clear hS
   refine hK5 _ _ ?_
   refine wp_seq_k fun khK15 hK15 => ?_
   refine wp_seq_k fun khK16 hK16 => ?_
   refine wp_region_lit ?_
   refine l_at hF rfl rfl rfl (x_faddr Tryd.underlying45 rfl ty43 (by decide) (hF.tmp 1 rfl) rfl) ?_; clear hF; intro a hF
   refine l_at hF rfl rfl rfl (x_load1 ty43 (hF.tmp 23 rfl) (blk_cell (hH.at 1 rfl) 2 rfl)) ?_; clear hF; intro a hF
   refine l_at hF rfl rfl rfl (x_len_slice Tryd.underlying43 (hF.tmp 24 rfl)) ?_; clear hF; intro a hF
   refine l_at hF rfl rfl rfl (x_move rfl) ?_; clear hF; intro a hF
   refine wpList_nil ?_
   refine hK16 _ _ ?_
   refine wp_block ?_
   refine wp_loop_ghost (fun n_ a w => ∃ k : Nat, ∃ v4 : Value, ∃ okv : Nat → Prop, n_ = r.ops.length - k ∧ (k ≤ r.ops.length) ∧ Fr 59 a [(4, v4), (24, .slice Ar0 r.ops.length cr0), (25, .int .i64 (r.ops.length : Int)), (26, .int .i64 (k : Int))] ∧ Hp (fun _ => False) w0 w [(900, .rd_ OpdE Ar0 r.ops cr0 (fun k => k < w0.heap.size)), (990, .lib pp), (1, .blk b1 (.cells #[.string (strOfNums r.client), .int .i64 r.num, .slice Ar0 r.ops.length cr0] 45 (0, 0))), (20, .rd_ (.int .u8) Ar20 (bI r.num) cr20 (fun kb => (Value.slice Ar20 (bI r.num).length cr20).ownBlock = some kb)), (15, .rd_ (.int .u8) (some ⟨b15, 0, none⟩) r.client c15 (fun kb => kb = b15)), (4, .row FE 99 v4 ([((1, r.client) : Fld), ((2, bI r.num) : Fld)] ++ (r.ops.take k).map (fun o => ((3, opI o) : Fld))) okv)]) (r.ops.length) ?_ ?_
   ·exact ⟨0, .slice (some ⟨b22, 0, none⟩) ([((1, r.client) : Fld), ((2, bI r.num) : Fld)]).length ([((1, r.client) : Fld), ((2, bI r.num) : Fld)]).length, (fun kb => (fun kb => kb = b15) kb ∨ (fun kb => (Value.slice Ar20 (bI r.num).length cr20).ownBlock = some kb) kb), rfl, by omega, ((((hF.bare.add hF 26 rfl).add hF 25 rfl).add hF 24 rfl).add hF 4 rfl), hH.sub _ (sub_cons (sub_cons (sub_cons (sub_cons (sub_cons (sub_cons (sub_nil _) 4 rfl) 15 rfl) 20 rfl) 1 rfl) 990 rfl) 900 rfl)⟩
   ·rintro _ a w ⟨k, v4, okv, rfl, hq0_0, hF, hH⟩
    refine wp_seq_k fun khK17 hK17 => ?_
    refine wp_region_lit ?_
    refine l_at hF rfl rfl rfl (x_lss (hF.tmp 26 rfl) (hF.tmp 25 rfl)) ?_; clear hF; intro a hF
    refine wpList_nil ?_
    refine hK17 _ _ ?_
    refine wp_seq_k fun khK18 hK18 => ?_
    refine wp_cond_split (hF.tmp 27 rfl) (fun hc27 => ?_) (fun hc27 => ?_)
    ·have hk27_5 := hc27; try simp only [Bool.or_eq_true, Bool.and_eq_true, Bool.or_eq_false_iff, Bool.and_eq_false_iff, Bool.not_eq_true', Bool.not_eq_false', decide_eq_true_eq, decide_eq_false_iff_not, Bool.not_true, Bool.not_false] at hc27
     refine wp_skip ?_
     refine hK18 _ _ ?_
     refine wp_seq_k fun khK19 hK19 => ?_
     refine wp_block ?_
     refine wp_seq_k fun khK20 hK20 => ?_
     refine wp_region_lit ?_
     obtain ⟨fA1, fc1, hfr1, hf1_0, hf1_1, hf1_2, hf1_3, hf1_4, hf1_5, hf1_6, hf1_7, hf1_8, hf1_9, hf1_10, hfw1⟩ := rd_opd ((hH.rd 900 rfl)) (gopd_some (xs := r.ops) (i := (k : Int)) (by omega) (by omega))
     have hH := hH.subrd 900 rfl 1010 hfr1 (fun _ h => h)
     have hH := hH.subcels 900 rfl 1499 hfw1 (Rd.inok ((hH.rd 900 rfl)) (by omega) _)
     have hH := hH.subcel 900 rfl 1500 hf1_0 (Rd.inok ((hH.rd 900 rfl)) (by omega) _)
     have hH := hH.subcel 900 rfl 1501 hf1_1 (Rd.inok ((hH.rd 900 rfl)) (by omega) _)
     have hH := hH.subcel 900 rfl 1502 hf1_2 (Rd.inok ((hH.rd 900 rfl)) (by omega) _)
     have hH := hH.subcel 900 rfl 1503 hf1_3 (Rd.inok ((hH.rd 900 rfl)) (by omega) _)
     have hH := hH.subcel 900 rfl 1504 hf1_4 (Rd.inok ((hH.rd 900 rfl)) (by omega) _)
     have hH := hH.subcel 900 rfl 1505 hf1_5 (Rd.inok ((hH.rd 900 rfl)) (by omega) _)
     have hH := hH.subcel 900 rfl 1506 hf1_6 (Rd.inok ((hH.rd 900 rfl)) (by omega) _)
     have hH := hH.subcel 900 rfl 1507 hf1_7 (Rd.inok ((hH.rd 900 rfl)) (by omega) _)
     have hH := hH.subcel 900 rfl 1508 hf1_8 (Rd.inok ((hH.rd 900 rfl)) (by omega) _)
     have hH := hH.subcel 900 rfl 1509 hf1_9 (Rd.inok ((hH.rd 900 rfl)) (by omega) _)
     have hH := hH.subcel 900 rfl 1510 hf1_10 (Rd.inok ((hH.rd 900 rfl)) (by omega) _)
     have hmem := gopd_mem (xs := r.ops) (j := k) (by omega)
     refine l_at hF rfl rfl rfl (x_iaddr_A Tryd.underlying43 ty55 ((hH.rd 900 rfl)) (hF.tmp 24 rfl) (hF.tmp 26 rfl) (by omega) (by omega) _) ?_; clear hF; intro a hF
     refine l_at hF rfl rfl rfl (x_loadn ty55 (hF.tmp 28 rfl) rfl (hH.holds 1499 _ rfl)) ?_; clear hF; intro a hF
     refine wpList_plain rfl fun K hK => ?_
     refine w_alloc 6 hF hH rfl ty55 ?_
     clear hF hH; intro a w b6 hF hH
     refine hK _ _ ?_; clear hK K
     refine wpList_plain rfl fun K hK => ?_
     refine w_storeA 6 hH ty55 rfl (hF.tmp 6 rfl) (hF.tmp 29 rfl) rfl (by simp [Value.cells, Value.oneCell']) rfl ?_
     clear hH; intro w hH
     refine hK _ _ ?_; clear hK K
     refine wpList_nil ?_
     refine hK20 _ _ ?_
     refine wp_region_lit ?_
     refine l_at hF rfl rfl rfl (x_move (hF.tmp 4 rfl)) ?_; clear hF; intro a hF
     refine l_at hF rfl rfl rfl (x_loadn ty55 (hF.tmp 6 rfl) rfl (blk_whole (hH.at 6 rfl))) ?_; clear hF; intro a hF
     refine wpList_plain rfl fun K hK => ?_
     refine w_call hF (x_enter Tryd.func74 (by kernel_rfl) rfl (by simp only [List.map_toArray, List.map_cons, List.map_nil, hF.tmp 31 rfl] <;> rfl)) (op_calls (o := (gopd r.ops (k : Int))) _ (hH.holds 990 _ rfl) ((hH.rd 1010 rfl)) (hb.ops _ hmem) (rightQ_op hb hr hmem)) rfl rfl ?_
     rintro _ w ⟨vr32, rfl, hm_, hr_⟩; refine ⟨_, rfl, ?_⟩; clear hF; intro a hF; have hH := Hp.rowOut hH 32 hm_ hr_; obtain ⟨Ar32, cr32, rfl⟩ := (hH.row 32 rfl).form
     refine hK _ _ ?_; clear hK K
     have hH := hH.freeze 32 rfl (fun kb => (Value.slice Ar32 (opI (gopd r.ops (k : Int))).length cr32).ownBlock = some kb) (fun kb => ⟨fun h => .inr h, fun h => h.resolve_left id⟩)
     refine l_at hF rfl rfl rfl (x_buildS (cells := #[.int .i64 3, .slice Ar32 (opI (gopd r.ops (k : Int))).length cr32]) (places := #[(0, 1), (1, 1)]) Tryd.underlying99 ty99 (by kernel_rfl) (by simp only [List.map_toArray, List.map_cons, List.map_nil, hF.tmp 32 rfl] <;> rfl) rfl) ?_; clear hF; intro a hF
     refine wpList_plain rfl fun K hK => ?_
     refine w_lit1 34 FE ((3, (opI (gopd r.ops (k : Int)))) : Fld) #[.int .i64 3, .slice Ar32 (opI (gopd r.ops (k : Int))).length cr32] (fun kb => (Value.slice Ar32 (opI (gopd r.ops (k : Int))).length cr32).ownBlock = some kb) hF hH rfl Tryd.underlying100 ty99 (by simp only [List.map_toArray, List.map_cons, List.map_nil, hF.tmp 33 rfl] <;> rfl) (by decide) (by kernel_rfl) (fld_mk (f := ((3, (opI (gopd r.ops (k : Int)))) : Fld)) ((hH.rd 32 rfl))) (fun kb hk => ⟨32, _, rfl, hk⟩) ?_
     clear hF hH; intro a w b34 hF hb34_ hH
     refine hK _ _ ?_; clear hK K
     refine wpList_plain rfl fun K hK => ?_
     refine w_append 4 34 (xs := ([((1, r.client) : Fld), ((2, bI r.num) : Fld)] ++ (r.ops.take k).map (fun o => ((3, opI o) : Fld)))) (ys := ([((3, (opI (gopd r.ops (k : Int)))) : Fld)])) hF hH rfl Tryd.underlying100 ty99 rfl rfl rfl rfl ((hH.rd 34 rfl)) (by intro k_ hk_; exact .inr hk_) (hF.tmp 30 rfl) (hF.tmp 34 rfl) (by have := (rightQ_parts hr); simp only [List.length_append, List.length_nil, List.length_cons, List.length_map, List.length_take] at *; omega) (by have := (rightQ_parts hr); simp only [List.length_append, List.length_nil, List.length_cons, List.length_map, List.length_take, maxLen] at *; omega) (fun kb => okv kb ∨ (fun kb => (fun kb => (Value.slice Ar32 (opI (gopd r.ops (k : Int))).length cr32).ownBlock = some kb) kb ∨ kb = b34) kb) (fun w' v' h => h) (by rintro k_ (hk_ | hk_); exact .inl hk_; exact .inr hk_) ?_
     clear hF hH; intro a w v35 hF hH
     refine hK _ _ ?_; clear hK K
     refine l_at hF rfl rfl rfl (x_assign (hF.tmp 35 rfl)) ?_; clear hF; intro a hF
     refine wpList_nil ?_
     refine hK19 _ _ ?_
     refine wp_region_lit ?_
     refine l_at hF rfl rfl rfl (x_add (hF.tmp 26 rfl) rfl (w64 (by omega) (by omega))) ?_; clear hF; intro a hF
     refine l_at hF rfl rfl rfl (x_move (hF.tmp 36 rfl)) ?_; clear hF; intro a hF
     refine wpList_nil ?_
     have hHs : Hp (fun _ => False) w0 w [(900, .rd_ OpdE Ar0 r.ops cr0 (fun k => k < w0.heap.size)), (990, .lib pp), (1, .blk b1 (.cells #[.string (strOfNums r.client), .int .i64 r.num, .slice Ar0 r.ops.length cr0] 45 (0, 0))), (20, .rd_ (.int .u8) Ar20 (bI r.num) cr20 (fun kb => (Value.slice Ar20 (bI r.num).length cr20).ownBlock = some kb)), (15, .rd_ (.int .u8) (some ⟨b15, 0, none⟩) r.client c15 (fun kb => kb = b15)), (4, .row FE 99 v35 (([((1, r.client) : Fld), ((2, bI r.num) : Fld)] ++ (r.ops.take k).map (fun o => ((3, opI o) : Fld))) ++ [((3, opI (gopd r.ops (k : Int))) : Fld)]) (fun kb => okv kb ∨ (fun kb => (fun kb => (Value.slice Ar32 (opI (gopd r.ops (k : Int))).length cr32).ownBlock = some kb) kb ∨ kb = b34) kb))] := hH.sub _ (sub_cons (sub_cons (sub_cons (sub_cons (sub_cons (sub_cons (sub_nil _) 4 rfl) 15 rfl) 20 rfl) 1 rfl) 990 rfl) 900 rfl)
     rw [ops_stepL hc27] at hHs
     exact ⟨_, by omega, ⟨k + 1, v35, (fun kb => okv kb ∨ (fun kb => (fun kb => (Value.slice Ar32 (opI (gopd r.ops (k : Int))).length cr32).ownBlock = some kb) kb ∨ kb = b34) kb), rfl, by omega, ((((hF.bare.add hF 26 rfl).add hF 25 rfl).add hF 24 rfl).add hF 4 rfl), hHs⟩⟩
    ·have hk27_6 := hc27; try simp only [Bool.or_eq_true, Bool.and_eq_true, Bool.or_eq_false_iff, Bool.and_eq_false_iff, Bool.not_eq_true', Bool.not_eq_false', decide_eq_true_eq, decide_eq_false_iff_not, Bool.not_true, Bool.not_false] at hc27
     refine wp_exit ?_
     refine hK15 _ _ ?_
     refine wp_seq_k fun khK21 hK21 => ?_
     refine wp_region_lit ?_
     obtain rfl : k = r.ops.length := by omega
     rw [List.take_length] at hH
     obtain ⟨Av, cv, rfl⟩ := (hH.row 4 rfl).form
     rw [show ([((1, r.client) : Fld), ((2, bI r.num) : Fld)] ++ r.ops.map (fun o => ((3, opI o) : Fld))) = reqF r from rfl] at hH
     refine l_at hF rfl rfl rfl (x_move (hF.tmp 4 rfl)) ?_; clear hF; intro a hF
     refine wpList_plain rfl fun K hK => ?_
     refine w_call hF (x_enter Tryd.func42 (by kernel_rfl) rfl (by simp only [List.map_toArray, List.map_cons, List.map_nil, hF.tmp 38 rfl] <;> rfl)) (enc_at (Row.rd (ok' := fun k_ => okv k_ ∨ (.slice Av (reqF r).length cv : Value).ownBlock = some k_) (hH.row 4 rfl) (fun _ hk_ _ => .inl hk_) (fun _ hk_ => .inr hk_)) (req_encR hb hr)) rfl rfl ?_
     rintro _ w ⟨vr39, rfl, hm_, hr_⟩; refine ⟨_, rfl, ?_⟩; clear hF; intro a hF; have hH := Hp.rowOut hH 39 hm_ hr_; obtain ⟨Ar39, cr39, rfl⟩ := (hH.row 39 rfl).form
     refine hK _ _ ?_; clear hK K
     refine l_at hF rfl rfl rfl (x_move (hF.tmp 39 rfl)) ?_; clear hF; intro a hF
     refine l_at hF rfl rfl rfl (x_extract (hF.tmp 37 rfl) rfl) ?_; clear hF; intro a hF
     refine l_at hF rfl rfl rfl (x_extract (hF.tmp 37 rfl) rfl) ?_; clear hF; intro a hF
     refine l_at hF rfl rfl rfl (x_assign (hF.tmp 40 rfl)) ?_; clear hF; intro a hF
     refine l_at hF rfl rfl rfl (x_assign (hF.tmp 41 rfl)) ?_; clear hF; intro a hF
     refine wpList_nil ?_
     refine hK21 _ _ ?_
     refine wp_seq_k fun khK22 hK22 => ?_
     refine wp_region_lit ?_
     refine l_at hF rfl rfl rfl (x_move (hF.tmp 7 rfl)) ?_; clear hF; intro a hF
     refine wpList_plain rfl fun K hK => ?_
     refine w_call hF (x_enter Tryd.func43 (by kernel_rfl) rfl (by simp only [List.map_toArray, List.map_cons, List.map_nil, hF.tmp 42 rfl] <;> rfl)) (Crc.sum_calls _ (Row.rd (ok' := fun k_ => (fun _ => False) k_ ∨ (.slice Ar39 (encI (reqF r)).length cr39 : Value).ownBlock = some k_) (hH.row 39 rfl) (fun _ hk_ _ => .inl hk_) (fun _ hk_ => .inr hk_))) rfl rfl ?_
     rintro _ w ⟨rfl, hm_⟩; refine ⟨_, rfl, ?_⟩; clear hF; intro a hF; have hH := hH.same hm_
     refine hK _ _ ?_; clear hK K
     refine l_at hF rfl rfl rfl (x_assign (hF.tmp 43 rfl)) ?_; clear hF; intro a hF
     refine wpList_nil ?_
     refine hK22 _ _ ?_
     refine wp_seq_k fun khK23 hK23 => ?_
     refine wp_region_lit ?_
     refine l_at hF rfl rfl rfl (x_move (hF.tmp 7 rfl)) ?_; clear hF; intro a hF
     refine l_at hF rfl rfl rfl (x_move (hF.tmp 9 rfl)) ?_; clear hF; intro a hF
     refine l_at hF rfl rfl rfl (x_conv Tryd.underlying5 ⟨_, Tryd.underlying102⟩ (hF.tmp 45 rfl) (IntKind.wrap_u8 _)) ?_; clear hF; intro a hF
     refine l_at hF rfl rfl rfl (x_move (hF.tmp 9 rfl)) ?_; clear hF; intro a hF
     refine l_at hF rfl rfl rfl (x_shr (hF.tmp 47 rfl) rfl (by omega) (shrU _).1) ?_; clear hF; intro a hF
     refine l_at hF rfl rfl rfl (x_conv Tryd.underlying5 ⟨_, Tryd.underlying102⟩ (hF.tmp 48 rfl) (IntKind.wrap_u8 _)) ?_; clear hF; intro a hF
     refine l_at hF rfl rfl rfl (x_move (hF.tmp 9 rfl)) ?_; clear hF; intro a hF
     refine l_at hF rfl rfl rfl (x_shr (hF.tmp 50 rfl) rfl (by omega) (shrU _).2.1) ?_; clear hF; intro a hF
     refine l_at hF rfl rfl rfl (x_conv Tryd.underlying5 ⟨_, Tryd.underlying102⟩ (hF.tmp 51 rfl) (IntKind.wrap_u8 _)) ?_; clear hF; intro a hF
     refine l_at hF rfl rfl rfl (x_move (hF.tmp 9 rfl)) ?_; clear hF; intro a hF
     refine l_at hF rfl rfl rfl (x_shr (hF.tmp 53 rfl) rfl (by omega) (shrU _).2.2) ?_; clear hF; intro a hF
     refine l_at hF rfl rfl rfl (x_conv Tryd.underlying5 ⟨_, Tryd.underlying102⟩ (hF.tmp 54 rfl) (IntKind.wrap_u8 _)) ?_; clear hF; intro a hF
     refine wpList_plain rfl fun K hK => ?_
     refine w_lit 56 (enc := Value.int .u8) (h1 := fun _ => rfl) (le4 (Crc.moreI 0 (encI (reqF r)))) hF hH rfl Tryd.underlying28 ty5 (by simp only [List.map_toArray, List.map_cons, List.map_nil, hF.tmp 46 rfl, hF.tmp 49 rfl, hF.tmp 52 rfl, hF.tmp 55 rfl]; rfl) rfl (by decide) (by decide) (by kernel_rfl) ?_
     clear hF hH; intro a w b56 hF hH
     refine hK _ _ ?_; clear hK K
     refine wpList_plain rfl fun K hK => ?_
     refine w_append 39 56 (xs := (encI (reqF r))) (ys := (le4 (Crc.moreI 0 (encI (reqF r))))) hF hH rfl Tryd.underlying28 ty5 rfl rfl rfl rfl (Row.rd (ok' := fun k_ => (fun _ => False) k_ ∨ (.slice (some ⟨b56, 0, none⟩) ((le4 (Crc.moreI 0 (encI (reqF r))))).length ((le4 (Crc.moreI 0 (encI (reqF r))))).length : Value).ownBlock = some k_) (hH.row 56 rfl) (fun _ hk_ _ => .inl hk_) (fun _ hk_ => .inr hk_)) (by rintro k_ (hk_ | hk_); exact .inr hk_; exact .inl hk_) (hF.tmp 44 rfl) (hF.tmp 56 rfl) (by have := reqI_len hb hr; simp only [le4, List.length_cons, List.length_nil]; omega) (by have := reqI_len hb hr; simp only [le4, List.length_cons, List.length_nil, maxLen]; omega) (fun _ => False) (fun w' v' h => row_flat h _) (fun k_ hk_ => hk_.elim) ?_
     clear hF hH; intro a w v57 hF hH
     refine hK _ _ ?_; clear hK K
     refine l_at hF rfl rfl rfl (x_move (hF.tmp 8 rfl)) ?_; clear hF; intro a hF
     refine l_at hF rfl rfl rfl (x_assign (hF.tmp 57 rfl)) ?_; clear hF; intro a hF
     refine l_at hF rfl rfl rfl (x_assign (hF.tmp 58 rfl)) ?_; clear hF; intro a hF
     refine wpList_nil ?_
     refine hK23 _ _ ?_
     refine wp_ret ?_
     try simp only [Exit.then, Exit.inBlock]
     rw [encQ_yes hr] at hH
     exact fin_ret hF (res2 hF rfl rfl rfl) ⟨_, by rw [encQE_yes hr] <;> rfl, hH.mods, Hp.out hH 39 rfl⟩
set_option maxRecDepth 100000 in
set_option maxHeartbeats 1000000 in
theorem cloneS_calls (w0 : World) {ok : Nat → Prop} {A : Option Addr} {xs : List StepD} {c : Nat} (hr : Rd StE w0 ok A xs c) (hs : xs.length ≤ 100000000) : Calls Tryd.prog 53 #[.slice A xs.length c] w0 fun e w' => ∃ v, e = .returned v ∧ Mods (fun _ => False) w0 w' ∧ RowOut StE 53 w0 w' v xs := by
 refine calls_of_wp Tryd.func53 rfl ?_
 have hF := Fr.enter #[.slice A xs.length c] 8 (slotsOf [.slice A xs.length c] 0) (Nat.le_of_ble_eq_true rfl) (fun i v h => by have h2 := (get_slotsOf _ 0 i v h).2; simpa only [List.getElem?_toArray, Nat.sub_zero] using h2)
 have hH := Hp.nil (fun _ => False) w0
 rw [Tryd.ntmps53]
 revert hF; generalize (⟨(#[.slice A xs.length c] : Array Value) ++ Array.replicate (8 - (#[.slice A xs.length c] : Array Value).size) undef, []⟩ : Act) = a; intro hF
 have hH := hH.arg 901 hr.all (fun _ h => ⟨h, fun h => h⟩)
 have hle901 := hr.le; unfold maxLen at hle901
 refine wp_seq_k fun khK1 hK1 => ?_
 refine wp_region_lit ?_
 refine l_at hF rfl rfl rfl (x_assign rfl) ?_; clear hF; intro a hF
 refine wpList_nil ?_
 refine hK1 _ _ ?_
 refine wp_seq_k fun khK2 hK2 => ?_
 refine wp_seq_k fun khK3 hK3 => ?_
 refine wp_region_lit ?_
 refine l_at hF rfl rfl rfl (x_move (hF.tmp 0 rfl)) ?_; clear hF; intro a hF
 refine l_at hF rfl rfl rfl (x_slnil Tryd.underlying37 (hF.tmp 3 rfl) rfl) ?_; clear hF; intro a hF
 refine wpList_nil ?_
 refine hK3 _ _ ?_
 refine wp_cond_split (hF.tmp 4 rfl) (fun hc4 => ?_) (fun hc4 => ?_)
 ·have hk4_1 := hc4; try simp only [Bool.or_eq_true, Bool.and_eq_true, Bool.or_eq_false_iff, Bool.and_eq_false_iff, Bool.not_eq_true', Bool.not_eq_false', decide_eq_true_eq, decide_eq_false_iff_not, Bool.not_true, Bool.not_false] at hc4
  have hnil := rd_nil hr hc4
  subst hnil
  refine wp_seq_k fun khK4 hK4 => ?_
  refine wp_region_lit ?_
  refine l_at hF rfl rfl rfl (x_assign rfl) ?_; clear hF; intro a hF
  refine wpList_nil ?_
  refine hK4 _ _ ?_
  refine wp_ret ?_
  try simp only [Exit.then, Exit.inBlock]
  exact fin_ret hF (res1 hF rfl rfl) ⟨.slice none 0 0, rfl, hH.mods, RowOut.nil _ _ _ _⟩
 ·have hk4_2 := hc4; try simp only [Bool.or_eq_true, Bool.and_eq_true, Bool.or_eq_false_iff, Bool.and_eq_false_iff, Bool.not_eq_true', Bool.not_eq_false', decide_eq_true_eq, decide_eq_false_iff_not, Bool.not_true, Bool.not_false] at hc4
  refine wp_skip ?_
  refine hK2 _ _ ?_
  refine wp_seq_k fun khK5 hK5 => ?_
  refine wp_region_lit ?_
  refine wpList_plain rfl fun K hK => ?_
  refine w_lit0 StE 5 hF hH rfl Tryd.underlying37 ty53 ?_
  clear hF hH; intro a w b5 hF hH
  refine hK _ _ ?_; clear hK K
  refine l_at hF rfl rfl rfl (x_move (hF.tmp 0 rfl)) ?_; clear hF; intro a hF
  refine wpList_plain rfl fun K hK => ?_
  refine w_append 5 901 (xs := ([])) (ys := xs) hF hH rfl Tryd.underlying37 ty53 rfl rfl rfl rfl ((hH.rd 901 rfl)) (by intro k_ hk_; exact .inr hk_) (hF.tmp 5 rfl) (hF.tmp 6 rfl) (by simp only [List.length_nil] at *; omega) (by simp only [List.length_nil, maxLen] at *; omega) (fun _ => False) (fun w' v' h => st_any h) (fun k_ hk_ => hk_.elim) ?_
  clear hF hH; intro a w v7 hF hH
  refine hK _ _ ?_; clear hK K
  refine l_at hF rfl rfl rfl (x_assign (hF.tmp 7 rfl)) ?_; clear hF; intro a hF
  refine wpList_nil ?_
  refine hK5 _ _ ?_
  refine wp_ret ?_
  try simp only [Exit.then, Exit.inBlock]
  rw [List.nil_append] at hH
  exact fin_ret hF (res1 hF rfl rfl) ⟨_, rfl, hH.mods, Hp.out hH 5 rfl⟩
set_option maxRecDepth 100000 in
set_option maxHeartbeats 1000000 in
theorem mark_calls (w0 : World) {xs : List Int} (hl : xs.length ≤ 1000) : Calls Tryd.prog 24 #[.string (strOfNums xs)] w0 fun e w' => e = .returned (.string (strOfNums ([64] ++ xs))) ∧ Mods (fun _ => False) w0 w' := by
 refine calls_of_wp Tryd.func24 rfl ?_
 have hF := Fr.enter #[.string (strOfNums xs)] 5 (slotsOf [.string (strOfNums xs)] 0) (Nat.le_of_ble_eq_true rfl) (fun i v h => by have h2 := (get_slotsOf _ 0 i v h).2; simpa only [List.getElem?_toArray, Nat.sub_zero] using h2)
 have hH := Hp.nil (fun _ => False) w0
 rw [Tryd.ntmps24]
 revert hF; generalize (⟨(#[.string (strOfNums xs)] : Array Value) ++ Array.replicate (5 - (#[.string (strOfNums xs)] : Array Value).size) undef, []⟩ : Act) = a; intro hF
 refine wp_seq_k fun khK1 hK1 => ?_
 refine wp_region_lit ?_
 refine l_at hF rfl rfl rfl (x_assign (show _ = Value.string (strOfNums ([] : List Int)) by kernel_rfl)) ?_; clear hF; intro a hF
 refine wpList_nil ?_
 refine hK1 _ _ ?_
 refine wp_seq_k fun khK2 hK2 => ?_
 refine wp_region_lit ?_
 refine l_at hF rfl rfl rfl (x_move (hF.tmp 0 rfl)) ?_; clear hF; intro a hF
 refine l_at hF rfl rfl rfl (x_adds (xs := ([64] : List Int)) (ys := xs) (show _ = Value.string (strOfNums ([64] : List Int)) by kernel_rfl) (hF.tmp 3 rfl) (by simp only [List.length_cons, List.length_nil]; omega)) ?_; clear hF; intro a hF
 refine l_at hF rfl rfl rfl (x_assign (hF.tmp 4 rfl)) ?_; clear hF; intro a hF
 refine wpList_nil ?_
 refine hK2 _ _ ?_
 refine wp_ret ?_
 try simp only [Exit.then, Exit.inBlock]
 exact fin_ret hF (res1 hF rfl rfl) ⟨rfl, hH.mods⟩
set_option maxRecDepth 100000 in
set_option maxHeartbeats 1000000 in
theorem wrap_calls (w0 : World) {pp : Bool} (hL : LibAt pp w0) {r : SReqD} {okr0 : Nat → Prop} {Ar0 : Option Addr} {cr0 : Nat} (hrr0 : Rd OpdE w0 okr0 Ar0 r.ops cr0) (hb : SReqB r) : Calls Tryd.prog 20 #[.agg #[.string (strOfNums r.client), .int .i64 r.num, .slice Ar0 r.ops.length cr0]] w0 fun e w' => ∃ v, e = .returned v ∧ Mods (fun _ => False) w0 w' ∧ RowNew OpdE 55 w0 w' v (wrapL r) := by
 refine calls_of_wp Tryd.func20 rfl ?_
 have hF := Fr.enter #[.agg #[.string (strOfNums r.client), .int .i64 r.num, .slice Ar0 r.ops.length cr0]] 43 (slotsOf [.agg #[.string (strOfNums r.client), .int .i64 r.num, .slice Ar0 r.ops.length cr0]] 0) (Nat.le_of_ble_eq_true rfl) (fun i v h => by have h2 := (get_slotsOf _ 0 i v h).2; simpa only [List.getElem?_toArray, Nat.sub_zero] using h2)
 have hH := Hp.nil (fun _ => False) w0
 rw [Tryd.ntmps20]
 revert hF; generalize (⟨(#[.agg #[.string (strOfNums r.client), .int .i64 r.num, .slice Ar0 r.ops.length cr0]] : Array Value) ++ Array.replicate (43 - (#[.agg #[.string (strOfNums r.client), .int .i64 r.num, .slice Ar0 r.ops.length cr0]] : Array Value).size) undef, []⟩ : Act) = a; intro hF
 have hH := hH.arg 900 hrr0.all (fun _ h => ⟨h, fun h => h⟩)
 have hler0 := hrr0.le; unfold maxLen at hler0
 have hH := hH.libN 990 hL
 refine wp_seq_k fun khK1 hK1 => ?_
 refine wp_region_lit ?_
 refine wpList_plain rfl fun K hK => ?_
 refine w_box 1 hF hH rfl (hF.tmp 0 rfl) ?_
 clear hF hH; intro a w b1 hF hH
 refine hK _ _ ?_; clear hK K
 refine l_at hF rfl rfl rfl (x_assign rfl) ?_; clear hF; intro a hF
 refine wpList_nil ?_
 refine hK1 _ _ ?_
 refine wp_seq_k fun khK2 hK2 => ?_
 refine wp_seq_k fun khK3 hK3 => ?_
 refine wp_region_lit ?_
 refine l_at hF rfl rfl rfl (x_loadn ty45 (hF.tmp 1 rfl) rfl (blk_whole (hH.at 1 rfl))) ?_; clear hF; intro a hF
 refine wpList_plain rfl fun K hK => ?_
 refine w_call hF (x_enter Tryd.func21 (by kernel_rfl) rfl (by simp only [List.map_toArray, List.map_cons, List.map_nil, hF.tmp 7 rfl] <;> rfl)) (rightQ_calls (r := r) _ (hH.holds 990 _ rfl) ((hH.rd 900 rfl)) hb) rfl rfl ?_
 rintro _ w ⟨rfl, hm_⟩; refine ⟨_, rfl, ?_⟩; clear hF; intro a hF; have hH := hH.same hm_
 refine hK _ _ ?_; clear hK K
 refine l_at hF rfl rfl rfl (x_not (hF.tmp 8 rfl)) ?_; clear hF; intro a hF
 refine wpList_nil ?_
 refine hK3 _ _ ?_
 refine wp_cond_split (hF.tmp 9 rfl) (fun hc9 => ?_) (fun hc9 => ?_)
 ·have hk9_1 := hc9; try simp only [Bool.or_eq_true, Bool.and_eq_true, Bool.or_eq_false_iff, Bool.and_eq_false_iff, Bool.not_eq_true', Bool.not_eq_false', decide_eq_true_eq, decide_eq_false_iff_not, Bool.not_true, Bool.not_false] at hc9
  have hz : rightQ r = false := by simpa using hc9
  refine wp_seq_k fun khK4 hK4 => ?_
  refine wp_region_lit ?_
  refine l_at hF rfl rfl rfl (x_assign rfl) ?_; clear hF; intro a hF
  refine wpList_nil ?_
  refine hK4 _ _ ?_
  refine wp_ret ?_
  try simp only [Exit.then, Exit.inBlock]
  exact fin_ret hF (res1 hF rfl rfl) ⟨.slice none 0 0, rfl, hH.mods, by rw [wrapL_no hz]; exact RowNew.nil _ _ _ _⟩
 ·have hk9_2 := hc9; try simp only [Bool.or_eq_true, Bool.and_eq_true, Bool.or_eq_false_iff, Bool.and_eq_false_iff, Bool.not_eq_true', Bool.not_eq_false', decide_eq_true_eq, decide_eq_false_iff_not, Bool.not_true, Bool.not_false] at hc9
  have hr : rightQ r = true := by simpa using hc9
  refine wp_skip ?_
  refine hK2 _ _ ?_
  refine wp_seq_k fun khK5 hK5 => ?_
  refine wp_region_lit ?_
  refine l_at hF rfl rfl rfl (x_faddr Tryd.underlying45 rfl ty9 (by decide) (hF.tmp 1 rfl) rfl) ?_; clear hF; intro a hF
  refine l_at hF rfl rfl rfl (x_load1 ty9 (hF.tmp 10 rfl) (blk_cell (hH.at 1 rfl) 0 rfl)) ?_; clear hF; intro a hF
  refine wpList_plain rfl fun K hK => ?_
  refine w_call hF (x_enter Tryd.func24 (by kernel_rfl) rfl (by simp only [List.map_toArray, List.map_cons, List.map_nil, hF.tmp 11 rfl] <;> rfl)) (mark_calls (xs := r.client) _ (by have := (rightQ_parts hr); omega)) rfl rfl ?_
  rintro _ w ⟨rfl, hm_⟩; refine ⟨_, rfl, ?_⟩; clear hF; intro a hF; have hH := hH.same hm_
  refine hK _ _ ?_; clear hK K
  refine l_at hF rfl rfl rfl (x_assign (hF.tmp 12 rfl)) ?_; clear hF; intro a hF
  refine wpList_nil ?_
  refine hK5 _ _ ?_
  refine wp_seq_k fun khK6 hK6 => ?_
  refine wp_region_lit ?_
  refine l_at hF rfl rfl rfl (x_move (hF.tmp 3 rfl)) ?_; clear hF; intro a hF
  refine l_at hF rfl rfl rfl (x_buildS (cells := #[.int .i64 1, .string (strOfNums ([64] ++ r.client)), .int .i64 0, .string (strOfNums []), .string (strOfNums []), .int .i64 0, .string (strOfNums []), .int .i64 0, .int .u64 0, .int .u64 0, .slice none 0 0]) (places := #[(0, 1), (1, 1), (2, 4), (6, 5)]) Tryd.underlying55 ty55 (by kernel_rfl) (by simp only [List.map_toArray, List.map_cons, List.map_nil, hF.tmp 13 rfl] <;> rfl) rfl) ?_; clear hF; intro a hF
  refine wpList_plain rfl fun K hK => ?_
  refine w_litE 4 OpdE ([markO r]) #[.int .i64 1, .string (strOfNums ([64] ++ r.client)), .int .i64 0, .string (strOfNums []), .string (strOfNums []), .int .i64 0, .string (strOfNums []), .int .i64 0, .int .u64 0, .int .u64 0, .slice none 0 0] (fun _ => False) hF hH rfl Tryd.underlying43 ty55 (by simp only [List.map_toArray, List.map_cons, List.map_nil, hF.tmp 14 rfl] <;> rfl) rfl (by decide) (by decide) (by kernel_rfl) (Elems.single (opd_mk (markO r) (Rd.nil StE _ (fun _ => False)))) (fun kb hk => hk.elim) ?_
  clear hF hH; intro a w b15 hF hH
  refine hK _ _ ?_; clear hK K
  refine l_at hF rfl rfl rfl (x_assign (hF.tmp 15 rfl)) ?_; clear hF; intro a hF
  refine wpList_nil ?_
  refine hK6 _ _ ?_
  refine wp_seq_k fun khK7 hK7 => ?_
  refine wp_seq_k fun khK8 hK8 => ?_
  refine wp_region_lit ?_
  refine l_at hF rfl rfl rfl (x_faddr Tryd.underlying45 rfl ty43 (by decide) (hF.tmp 1 rfl) rfl) ?_; clear hF; intro a hF
  refine l_at hF rfl rfl rfl (x_load1 ty43 (hF.tmp 16 rfl) (blk_cell (hH.at 1 rfl) 2 rfl)) ?_; clear hF; intro a hF
  refine l_at hF rfl rfl rfl (x_len_slice Tryd.underlying43 (hF.tmp 17 rfl)) ?_; clear hF; intro a hF
  refine l_at hF rfl rfl rfl (x_move rfl) ?_; clear hF; intro a hF
  refine wpList_nil ?_
  refine hK8 _ _ ?_
  refine wp_block ?_
  refine wp_loop_ghost (fun n_ a w => ∃ k : Nat, ∃ v4 : Value, ∃ okv : Nat → Prop, n_ = r.ops.length - k ∧ (k ≤ r.ops.length) ∧ (∀ kb, okv kb → w0.heap.size ≤ kb) ∧ Fr 43 a [(1, .pointer (some ⟨b1, 0, none⟩)), (3, .string (strOfNums ([64] ++ r.client))), (4, v4), (17, .slice Ar0 r.ops.length cr0), (18, .int .i64 (r.ops.length : Int)), (19, .int .i64 (k : Int))] ∧ Hp (fun _ => False) w0 w [(900, .rd_ OpdE Ar0 r.ops cr0 (fun k => k < w0.heap.size)), (990, .lib pp), (1, .blk b1 (.cells #[.string (strOfNums r.client), .int .i64 r.num, .slice Ar0 r.ops.length cr0] 45 (0, 0))), (4, .row OpdE 55 v4 ([markO r] ++ r.ops.take k) okv)]) (r.ops.length) ?_ ?_
  ·exact ⟨0, .slice (some ⟨b15, 0, none⟩) ([markO r]).length ([markO r]).length, (fun _ => False), rfl, by omega, (fun kb h => h.elim), ((((((hF.bare.add hF 19 rfl).add hF 18 rfl).add hF 17 rfl).add hF 4 rfl).add hF 3 rfl).add hF 1 rfl), hH.sub _ (sub_cons (sub_cons (sub_cons (sub_cons (sub_nil _) 4 rfl) 1 rfl) 990 rfl) 900 rfl)⟩
  ·rintro _ a w ⟨k, v4, okv, rfl, hq0_0, hq0_1, hF, hH⟩
   refine wp_seq_k fun khK9 hK9 => ?_
   refine wp_region_lit ?_
   refine l_at hF rfl rfl rfl (x_lss (hF.tmp 19 rfl) (hF.tmp 18 rfl)) ?_; clear hF; intro a hF
   refine wpList_nil ?_
   refine hK9 _ _ ?_
   refine wp_seq_k fun khK10 hK10 => ?_
   refine wp_cond_split (hF.tmp 20 rfl) (fun hc20 => ?_) (fun hc20 => ?_)
   ·have hk20_3 := hc20; try simp only [Bool.or_eq_true, Bool.and_eq_true, Bool.or_eq_false_iff, Bool.and_eq_false_iff, Bool.not_eq_true', Bool.not_eq_false', decide_eq_true_eq, decide_eq_false_iff_not, Bool.not_true, Bool.not_false] at hc20
    refine wp_skip ?_
    refine hK10 _ _ ?_
    refine wp_seq_k fun khK11 hK11 => ?_
    refine wp_block ?_
    refine wp_seq_k fun khK12 hK12 => ?_
    refine wp_region_lit ?_
    obtain ⟨fA1, fc1, hfr1, hf1_0, hf1_1, hf1_2, hf1_3, hf1_4, hf1_5, hf1_6, hf1_7, hf1_8, hf1_9, hf1_10, hfw1⟩ := rd_opd ((hH.rd 900 rfl)) (gopd_some (xs := r.ops) (i := (k : Int)) (by omega) (by omega))
    have hH := hH.subrd 900 rfl 1010 hfr1 (fun _ h => h)
    have hH := hH.subcels 900 rfl 1499 hfw1 (Rd.inok ((hH.rd 900 rfl)) (by omega) _)
    have hH := hH.subcel 900 rfl 1500 hf1_0 (Rd.inok ((hH.rd 900 rfl)) (by omega) _)
    have hH := hH.subcel 900 rfl 1501 hf1_1 (Rd.inok ((hH.rd 900 rfl)) (by omega) _)
    have hH := hH.subcel 900 rfl 1502 hf1_2 (Rd.inok ((hH.rd 900 rfl)) (by omega) _)
    have hH := hH.subcel 900 rfl 1503 hf1_3 (Rd.inok ((hH.rd 900 rfl)) (by omega) _)
    have hH := hH.subcel 900 rfl 1504 hf1_4 (Rd.inok ((hH.rd 900 rfl)) (by omega) _)
    have hH := hH.subcel 900 rfl 1505 hf1_5 (Rd.inok ((hH.rd 900 rfl)) (by omega) _)
    have hH := hH.subcel 900 rfl 1506 hf1_6 (Rd.inok ((hH.rd 900 rfl)) (by omega) _)
    have hH := hH.subcel 900 rfl 1507 hf1_7 (Rd.inok ((hH.rd 900 rfl)) (by omega) _)
    have hH := hH.subcel 900 rfl 1508 hf1_8 (Rd.inok ((hH.rd 900 rfl)) (by omega) _)
    have hH := hH.subcel 900 rfl 1509 hf1_9 (Rd.inok ((hH.rd 900 rfl)) (by omega) _)
    have hH := hH.subcel 900 rfl 1510 hf1_10 (Rd.inok ((hH.rd 900 rfl)) (by omega) _)
    have hmem := gopd_mem (xs := r.ops) (j := k) (by omega)
    refine l_at hF rfl rfl rfl (x_iaddr_A Tryd.underlying43 ty55 ((hH.rd 900 rfl)) (hF.tmp 17 rfl) (hF.tmp 19 rfl) (by omega) (by omega) _) ?_; clear hF; intro a hF
    refine l_at hF rfl rfl rfl (x_loadn ty55 (hF.tmp 21 rfl) rfl (hH.holds 1499 _ rfl)) ?_; clear hF; intro a hF
    refine wpList_plain rfl fun K hK => ?_
    refine w_alloc 6 hF hH rfl ty55 ?_
    clear hF hH; intro a w b6 hF hH
    refine hK _ _ ?_; clear hK K
    refine wpList_plain rfl fun K hK => ?_
    refine w_storeA 6 hH ty55 rfl (hF.tmp 6 rfl) (hF.tmp 22 rfl) rfl (by simp [Value.cells, Value.oneCell']) rfl ?_
    clear hH; intro w hH
    refine hK _ _ ?_; clear hK K
    refine wpList_nil ?_
    refine hK12 _ _ ?_
    refine wp_seq_k fun khK13 hK13 => ?_
    refine wp_region_lit ?_
    refine l_at hF rfl rfl rfl (x_faddr Tryd.underlying55 rfl ty39 (by decide) (hF.tmp 6 rfl) rfl) ?_; clear hF; intro a hF
    refine l_at hF rfl rfl rfl (x_faddr Tryd.underlying39 rfl ty37 (by decide) (hF.tmp 23 rfl) rfl) ?_; clear hF; intro a hF
    refine l_at hF rfl rfl rfl (x_load1 ty37 (hF.tmp 24 rfl) (blk_cell (hH.at 6 rfl) 10 rfl)) ?_; clear hF; intro a hF
    refine wpList_plain rfl fun K hK => ?_
    refine w_call hF (x_enter Tryd.func53 (by kernel_rfl) rfl (by simp only [List.map_toArray, List.map_cons, List.map_nil, hF.tmp 25 rfl] <;> rfl)) (cloneS_calls _ ((hH.rd 1010 rfl)) (steps_few (hb.ops _ hmem) (rightQ_op hb hr hmem))) rfl rfl ?_
    rintro _ w ⟨vr26, rfl, hm_, hr_⟩; refine ⟨_, rfl, ?_⟩; clear hF; intro a hF; have hH := Hp.rowOut hH 26 hm_ hr_; obtain ⟨Ar26, cr26, rfl⟩ := (hH.row 26 rfl).form
    refine hK _ _ ?_; clear hK K
    have hfr26 : ∀ kb, (Value.slice Ar26 ((gopd r.ops (k : Int)).timer.steps).length cr26).ownBlock = some kb → w0.heap.size ≤ kb := fun kb h => (hH.mine 26 _ rfl kb h).resolve_left (fun h => h)
    have hH := hH.freeze 26 rfl (fun kb => (Value.slice Ar26 ((gopd r.ops (k : Int)).timer.steps).length cr26).ownBlock = some kb) (fun kb => ⟨fun h => .inr h, fun h => h.resolve_left id⟩)
    refine l_at hF rfl rfl rfl (x_faddr Tryd.underlying55 rfl ty39 (by decide) (hF.tmp 6 rfl) rfl) ?_; clear hF; intro a hF
    refine l_at hF rfl rfl rfl (x_faddr Tryd.underlying39 rfl ty37 (by decide) (hF.tmp 27 rfl) rfl) ?_; clear hF; intro a hF
    refine wpList_plain rfl fun K hK => ?_
    refine w_store 6 hH ty37 rfl (hF.tmp 28 rfl) (hF.tmp 26 rfl) rfl (one1 rfl rfl) (by first | decide | exact Nat.le_of_ble_eq_true rfl) ?_
    clear hH; intro w hH
    refine hK _ _ ?_; clear hK K
    refine wpList_nil ?_
    refine hK13 _ _ ?_
    refine wp_region_lit ?_
    refine l_at hF rfl rfl rfl (x_move (hF.tmp 4 rfl)) ?_; clear hF; intro a hF
    refine l_at hF rfl rfl rfl (x_loadn ty55 (hF.tmp 6 rfl) rfl (blk_whole (hH.at 6 rfl))) ?_; clear hF; intro a hF
    refine wpList_plain rfl fun K hK => ?_
    refine w_lit1 31 OpdE (gopd r.ops (k : Int)) #[.int .i64 (gopd r.ops (k : Int)).kind, .string (strOfNums (gopd r.ops (k : Int)).key), .int .i64 (gopd r.ops (k : Int)).step.1, .string (strOfNums (gopd r.ops (k : Int)).step.2.1), .string (strOfNums (gopd r.ops (k : Int)).step.2.2.1), .int .i64 (gopd r.ops (k : Int)).step.2.2.2, .string (strOfNums (gopd r.ops (k : Int)).timer.name), .int .i64 (gopd r.ops (k : Int)).timer.ver, .int .u64 (gopd r.ops (k : Int)).timer.tick, .int .u64 (gopd r.ops (k : Int)).timer.every, .slice Ar26 ((gopd r.ops (k : Int)).timer.steps).length cr26] (fun kb => (Value.slice Ar26 ((gopd r.ops (k : Int)).timer.steps).length cr26).ownBlock = some kb) hF hH rfl Tryd.underlying43 ty55 (by simp only [List.map_toArray, List.map_cons, List.map_nil, hF.tmp 30 rfl] <;> rfl) (by decide) (by kernel_rfl) (opd_mk ((gopd r.ops (k : Int))) ((hH.rd 26 rfl))) (fun kb hk => ⟨26, _, rfl, hk⟩) ?_
    clear hF hH; intro a w b31 hF hb31_ hH
    refine hK _ _ ?_; clear hK K
    refine wpList_plain rfl fun K hK => ?_
    refine w_append 4 31 (xs := ([markO r] ++ r.ops.take k)) (ys := ([(gopd r.ops (k : Int))])) hF hH rfl Tryd.underlying43 ty55 rfl rfl rfl rfl ((hH.rd 31 rfl)) (by intro k_ hk_; exact .inr hk_) (hF.tmp 29 rfl) (hF.tmp 31 rfl) (by have := (rightQ_parts hr); simp only [List.length_append, List.length_nil, List.length_cons, List.length_take] at *; omega) (by have := (rightQ_parts hr); simp only [List.length_append, List.length_nil, List.length_cons, List.length_take, maxLen] at *; omega) (fun kb => okv kb ∨ (fun kb => (fun kb => (Value.slice Ar26 ((gopd r.ops (k : Int)).timer.steps).length cr26).ownBlock = some kb) kb ∨ kb = b31) kb) (fun w' v' h => h) (by rintro k_ (hk_ | hk_); exact .inl hk_; exact .inr hk_) ?_
    clear hF hH; intro a w v32 hF hH
    refine hK _ _ ?_; clear hK K
    refine l_at hF rfl rfl rfl (x_assign (hF.tmp 32 rfl)) ?_; clear hF; intro a hF
    refine wpList_nil ?_
    refine hK11 _ _ ?_
    refine wp_region_lit ?_
    refine l_at hF rfl rfl rfl (x_add (hF.tmp 19 rfl) rfl (w64 (by omega) (by omega))) ?_; clear hF; intro a hF
    refine l_at hF rfl rfl rfl (x_move (hF.tmp 33 rfl)) ?_; clear hF; intro a hF
    refine wpList_nil ?_
    have hHs : Hp (fun _ => False) w0 w [(900, .rd_ OpdE Ar0 r.ops cr0 (fun k => k < w0.heap.size)), (990, .lib pp), (1, .blk b1 (.cells #[.string (strOfNums r.client), .int .i64 r.num, .slice Ar0 r.ops.length cr0] 45 (0, 0))), (4, .row OpdE 55 v32 (([markO r] ++ r.ops.take k) ++ [(gopd r.ops (k : Int))]) (fun kb => okv kb ∨ (fun kb => (fun kb => (Value.slice Ar26 ((gopd r.ops (k : Int)).timer.steps).length cr26).ownBlock = some kb) kb ∨ kb = b31) kb))] := hH.sub _ (sub_cons (sub_cons (sub_cons (sub_cons (sub_nil _) 4 rfl) 1 rfl) 990 rfl) 900 rfl)
    rw [wrap_step hc20] at hHs
    exact ⟨_, by omega, ⟨k + 1, v32, (fun kb => okv kb ∨ (fun kb => (fun kb => (Value.slice Ar26 ((gopd r.ops (k : Int)).timer.steps).length cr26).ownBlock = some kb) kb ∨ kb = b31) kb), rfl, by omega, (fun kb h => by rcases h with h | h | rfl; exact hq0_1 kb h; exact hfr26 kb h; exact hb31_.resolve_left id), ((((((hF.bare.add hF 19 rfl).add hF 18 rfl).add hF 17 rfl).add hF 4 rfl).add hF 3 rfl).add hF 1 rfl), hHs⟩⟩
   ·have hk20_4 := hc20; try simp only [Bool.or_eq_true, Bool.and_eq_true, Bool.or_eq_false_iff, Bool.and_eq_false_iff, Bool.not_eq_true', Bool.not_eq_false', decide_eq_true_eq, decide_eq_false_iff_not, Bool.not_true, Bool.not_false] at hc20
    refine wp_exit ?_
    refine hK7 _ _ ?_
    refine wp_seq_k fun khK14 hK14 => ?_
    refine wp_region_lit ?_
    obtain rfl : k = r.ops.length := by omega
    rw [List.take_length] at hH
    obtain ⟨Av, cv, rfl⟩ := (hH.row 4 rfl).form
    refine l_at hF rfl rfl rfl (x_move (hF.tmp 4 rfl)) ?_; clear hF; intro a hF
    refine l_at hF rfl rfl rfl (x_move (hF.tmp 3 rfl)) ?_; clear hF; intro a hF
    refine l_at hF rfl rfl rfl (x_faddr Tryd.underlying45 rfl ty3 (by decide) (hF.tmp 1 rfl) rfl) ?_; clear hF; intro a hF
    refine l_at hF rfl rfl rfl (x_load1 ty3 (hF.tmp 36 rfl) (blk_cell (hH.at 1 rfl) 1 rfl)) ?_; clear hF; intro a hF
    refine wpList_plain rfl fun K hK => ?_
    refine w_call hF (x_enter Tryd.func54 (by kernel_rfl) rfl (by simp only [List.map_toArray, List.map_cons, List.map_nil, hF.tmp 37 rfl] <;> rfl)) (itoa_calls _ (hH.holds 990 _ rfl) hb.num) rfl rfl ?_
    rintro _ w ⟨rfl, hm_⟩; refine ⟨_, rfl, ?_⟩; clear hF; intro a hF; have hH := hH.same hm_
    refine hK _ _ ?_; clear hK K
    refine l_at hF rfl rfl rfl (x_buildS (cells := #[.int .i64 1, .string (strOfNums ([64] ++ r.client)), .string (strOfNums (itoaI r.num)), .int .i64 0]) (places := #[(0, 1), (1, 1), (2, 1), (3, 1)]) Tryd.underlying53 ty53 (by kernel_rfl) (by simp only [List.map_toArray, List.map_cons, List.map_nil, hF.tmp 35 rfl, hF.tmp 38 rfl] <;> rfl) rfl) ?_; clear hF; intro a hF
    refine l_at hF rfl rfl rfl (x_buildS (cells := #[.int .i64 2, .string (strOfNums []), .int .i64 1, .string (strOfNums ([64] ++ r.client)), .string (strOfNums (itoaI r.num)), .int .i64 0, .string (strOfNums []), .int .i64 0, .int .u64 0, .int .u64 0, .slice none 0 0]) (places := #[(0, 1), (1, 1), (2, 4), (6, 5)]) Tryd.underlying55 ty55 (by kernel_rfl) (by simp only [List.map_toArray, List.map_cons, List.map_nil, hF.tmp 39 rfl] <;> rfl) rfl) ?_; clear hF; intro a hF
    refine wpList_plain rfl fun K hK => ?_
    refine w_lit1 41 OpdE (putO r) #[.int .i64 2, .string (strOfNums []), .int .i64 1, .string (strOfNums ([64] ++ r.client)), .string (strOfNums (itoaI r.num)), .int .i64 0, .string (strOfNums []), .int .i64 0, .int .u64 0, .int .u64 0, .slice none 0 0] (fun _ => False) hF hH rfl Tryd.underlying43 ty55 (by simp only [List.map_toArray, List.map_cons, List.map_nil, hF.tmp 40 rfl] <;> rfl) (by decide) (by kernel_rfl) (opd_mk (putO r) (Rd.nil StE _ (fun _ => False))) (fun kb hk => hk.elim) ?_
    clear hF hH; intro a w b41 hF hb41_ hH
    refine hK _ _ ?_; clear hK K
    refine wpList_plain rfl fun K hK => ?_
    refine w_append 4 41 (xs := ([markO r] ++ r.ops)) (ys := ([putO r])) hF hH rfl Tryd.underlying43 ty55 rfl rfl rfl rfl ((hH.rd 41 rfl)) (by intro k_ hk_; exact .inr hk_) (hF.tmp 34 rfl) (hF.tmp 41 rfl) (by have := (rightQ_parts hr); simp only [List.length_append, List.length_nil, List.length_cons] at *; omega) (by have := (rightQ_parts hr); simp only [List.length_append, List.length_nil, List.length_cons, maxLen] at *; omega) (fun kb => okv kb ∨ (fun kb => (fun _ => False) kb ∨ kb = b41) kb) (fun w' v' h => h) (by rintro k_ (hk_ | hk_); exact .inl hk_; exact .inr hk_) ?_
    clear hF hH; intro a w v42 hF hH
    refine hK _ _ ?_; clear hK K
    refine l_at hF rfl rfl rfl (x_assign (hF.tmp 42 rfl)) ?_; clear hF; intro a hF
    refine wpList_nil ?_
    refine hK14 _ _ ?_
    refine wp_ret ?_
    try simp only [Exit.then, Exit.inBlock]
    rw [wrapL_yes hr] at hH
    exact fin_ret hF (res1 hF rfl rfl) ⟨_, rfl, hH.mods, Hp.outNew hH 4 rfl (fun kb h => by rcases h with h | h | rfl; exact hq0_1 kb h; exact h.elim; exact hb41_.resolve_left id)⟩
set_option maxRecDepth 100000 in
set_option maxHeartbeats 1000000 in
theorem fitsU_calls (w0 : World) {t : TimerD} {okt0 : Nat → Prop} {At0 : Option Addr} {ct0 : Nat} (hrt0 : Rd StE w0 okt0 At0 t.steps ct0) : Calls Tryd.prog 101 #[.agg #[.string (strOfNums t.name), .int .i64 t.ver, .int .u64 t.tick, .int .u64 t.every, .slice At0 t.steps.length ct0]] w0 fun e w' => ∃ b : Bool, e = .returned (.bool b) ∧ Mods (fun _ => False) w0 w' := by
 refine calls_of_wp Tryd.func101 rfl ?_
 have hF := Fr.enter #[.agg #[.string (strOfNums t.name), .int .i64 t.ver, .int .u64 t.tick, .int .u64 t.every, .slice At0 t.steps.length ct0]] 37 (slotsOf [.agg #[.string (strOfNums t.name), .int .i64 t.ver, .int .u64 t.tick, .int .u64 t.every, .slice At0 t.steps.length ct0]] 0) (Nat.le_of_ble_eq_true rfl) (fun i v h => by have h2 := (get_slotsOf _ 0 i v h).2; simpa only [List.getElem?_toArray, Nat.sub_zero] using h2)
 have hH := Hp.nil (fun _ => False) w0
 rw [Tryd.ntmps101]
 revert hF; generalize (⟨(#[.agg #[.string (strOfNums t.name), .int .i64 t.ver, .int .u64 t.tick, .int .u64 t.every, .slice At0 t.steps.length ct0]] : Array Value) ++ Array.replicate (37 - (#[.agg #[.string (strOfNums t.name), .int .i64 t.ver, .int .u64 t.tick, .int .u64 t.every, .slice At0 t.steps.length ct0]] : Array Value).size) undef, []⟩ : Act) = a; intro hF
 have hH := hH.arg 900 hrt0.all (fun _ h => ⟨h, fun h => h⟩)
 have hlet0 := hrt0.le; unfold maxLen at hlet0
 refine wp_seq_k fun khK1 hK1 => ?_
 refine wp_region_lit ?_
 refine wpList_plain rfl fun K hK => ?_
 refine w_box 1 hF hH rfl (hF.tmp 0 rfl) ?_
 clear hF hH; intro a w b1 hF hH
 refine hK _ _ ?_; clear hK K
 refine l_at hF rfl rfl rfl (x_assign rfl) ?_; clear hF; intro a hF
 refine wpList_nil ?_
 refine hK1 _ _ ?_
 refine wp_seq_k fun khK2 hK2 => ?_
 refine wp_seq_k fun khK3 hK3 => ?_
 refine wp_region_lit ?_
 refine l_at hF rfl rfl rfl (x_assign rfl) ?_; clear hF; intro a hF
 refine wpList_nil ?_
 refine hK3 _ _ ?_
 refine wp_block ?_
 refine wp_loop_ghost (fun n_ a w => ∃ k : Nat, n_ = t.steps.length - k ∧ (k ≤ t.steps.length) ∧ Fr 37 a [(1, .pointer (some ⟨b1, 0, none⟩)), (3, .int .i64 (k : Int))] ∧ Hp (fun _ => False) w0 w [(900, .rd_ StE At0 t.steps ct0 (fun k => k < w0.heap.size)), (1, .blk b1 (.cells #[.string (strOfNums t.name), .int .i64 t.ver, .int .u64 t.tick, .int .u64 t.every, .slice At0 t.steps.length ct0] 39 (0, 0)))]) (t.steps.length) ?_ ?_
 ·exact ⟨0, rfl, by omega, ((hF.bare.add hF 3 rfl).add hF 1 rfl), hH.sub _ (sub_cons (sub_cons (sub_nil _) 1 rfl) 900 rfl)⟩
 ·rintro _ a w ⟨k, rfl, hq0_0, hF, hH⟩
  refine wp_seq_k fun khK4 hK4 => ?_
  refine wp_seq_k fun khK5 hK5 => ?_
  refine wp_region_lit ?_
  refine l_at hF rfl rfl rfl (x_move (hF.tmp 3 rfl)) ?_; clear hF; intro a hF
  refine l_at hF rfl rfl rfl (x_faddr Tryd.underlying39 rfl ty37 (by decide) (hF.tmp 1 rfl) rfl) ?_; clear hF; intro a hF
  refine l_at hF rfl rfl rfl (x_load1 ty37 (hF.tmp 5 rfl) (blk_cell (hH.at 1 rfl) 4 rfl)) ?_; clear hF; intro a hF
  refine l_at hF rfl rfl rfl (x_len_slice Tryd.underlying37 (hF.tmp 6 rfl)) ?_; clear hF; intro a hF
  refine l_at hF rfl rfl rfl (x_lss (hF.tmp 4 rfl) (hF.tmp 7 rfl)) ?_; clear hF; intro a hF
  refine wpList_nil ?_
  refine hK5 _ _ ?_
  refine wp_cond_split (hF.tmp 8 rfl) (fun hc8 => ?_) (fun hc8 => ?_)
  ·have hk8_1 := hc8; try simp only [Bool.or_eq_true, Bool.and_eq_true, Bool.or_eq_false_iff, Bool.and_eq_false_iff, Bool.not_eq_true', Bool.not_eq_false', decide_eq_true_eq, decide_eq_false_iff_not, Bool.not_true, Bool.not_false] at hc8
   refine wp_skip ?_
   refine hK4 _ _ ?_
   refine wp_seq_k fun khK6 hK6 => ?_
   refine wp_block ?_
   refine wp_seq_k fun khK7 hK7 => ?_
   refine wp_region_lit ?_
   refine l_at hF rfl rfl rfl (x_move (hF.tmp 3 rfl)) ?_; clear hF; intro a hF
   refine l_at hF rfl rfl rfl (x_eql (hF.tmp 11 rfl) rfl) ?_; clear hF; intro a hF
   refine l_at hF rfl rfl rfl (x_move (hF.tmp 12 rfl)) ?_; clear hF; intro a hF
   refine split_bool hF 13 rfl (fun hb13 => ?_) (fun hb13 => ?_)
   ·have hc13 := hb13; try simp only [Bool.or_eq_true, Bool.and_eq_true, Bool.or_eq_false_iff, Bool.and_eq_false_iff, Bool.not_eq_true', Bool.not_eq_false', decide_eq_true_eq, decide_eq_false_iff_not, Bool.not_true, Bool.not_false] at hc13
    refine l_offg hF ((wanted_of hF rfl rfl rfl rfl).trans (by rw [hb13]; rfl)) rfl rfl ?_; clear hF; intro a hF
    refine l_offg hF ((wanted_of hF rfl rfl rfl rfl).trans (by rw [hb13]; rfl)) rfl rfl ?_; clear hF; intro a hF
    refine l_offg hF ((wanted_of hF rfl rfl rfl rfl).trans (by rw [hb13]; rfl)) rfl rfl ?_; clear hF; intro a hF
    refine l_offg hF ((wanted_of hF rfl rfl rfl rfl).trans (by rw [hb13]; rfl)) rfl rfl ?_; clear hF; intro a hF
    refine l_offg hF ((wanted_of hF rfl rfl rfl rfl).trans (by rw [hb13]; rfl)) rfl rfl ?_; clear hF; intro a hF
    refine l_offg hF ((wanted_of hF rfl rfl rfl rfl).trans (by rw [hb13]; rfl)) rfl rfl ?_; clear hF; intro a hF
    refine l_offg hF ((wanted_of hF rfl rfl rfl rfl).trans (by rw [hb13]; rfl)) rfl rfl ?_; clear hF; intro a hF
    refine l_offg hF ((wanted_of hF rfl rfl rfl rfl).trans (by rw [hb13]; rfl)) rfl rfl ?_; clear hF; intro a hF
    refine l_at hF rfl rfl rfl (x_pickT (hF.tmp 13 rfl) hb13 rfl) ?_; clear hF; intro a hF
    refine l_at hF rfl rfl rfl (x_move (hF.tmp 22 rfl)) ?_; clear hF; intro a hF
    refine l_offg hF ((wanted_of hF rfl rfl rfl rfl).trans rfl) rfl rfl ?_; clear hF; intro a hF
    refine l_offg hF ((wanted_of hF rfl rfl rfl rfl).trans rfl) rfl rfl ?_; clear hF; intro a hF
    refine l_offg hF ((wanted_of hF rfl rfl rfl rfl).trans rfl) rfl rfl ?_; clear hF; intro a hF
    refine l_offg hF ((wanted_of hF rfl rfl rfl rfl).trans rfl) rfl rfl ?_; clear hF; intro a hF
    refine l_offg hF ((wanted_of hF rfl rfl rfl rfl).trans rfl) rfl rfl ?_; clear hF; intro a hF
    refine l_offg hF ((wanted_of hF rfl rfl rfl rfl).trans rfl) rfl rfl ?_; clear hF; intro a hF
    refine l_offg hF ((wanted_of hF rfl rfl rfl rfl).trans rfl) rfl rfl ?_; clear hF; intro a hF
    refine l_offg hF ((wanted_of hF rfl rfl rfl rfl).trans rfl) rfl rfl ?_; clear hF; intro a hF
    refine l_at hF rfl rfl rfl (x_pickT (hF.tmp 23 rfl) rfl rfl) ?_; clear hF; intro a hF
    refine wpList_nil ?_
    refine hK7 _ _ ?_
    refine wp_cond_true (hF.tmp 32 rfl) ?_
    refine wp_seq_k fun khK8 hK8 => ?_
    refine wp_region_lit ?_
    refine l_at hF rfl rfl rfl (x_assign rfl) ?_; clear hF; intro a hF
    refine wpList_nil ?_
    refine hK8 _ _ ?_
    refine wp_ret ?_
    try simp only [Exit.then, Exit.inBlock]
    exact fin_ret hF (res1 (v := .bool false) hF rfl rfl) ⟨_, rfl, hH.mods⟩
   ·have hc13 := hb13; try simp only [Bool.or_eq_true, Bool.and_eq_true, Bool.or_eq_false_iff, Bool.and_eq_false_iff, Bool.not_eq_true', Bool.not_eq_false', decide_eq_true_eq, decide_eq_false_iff_not, Bool.not_true, Bool.not_false] at hc13
    obtain ⟨hf2_0, hf2_1, hf2_2, hf2_3, hfw2⟩ := rd_st ((hH.rd 900 rfl)) (gst_some (xs := t.steps) (i := (k : Int)) (by omega) (by omega))
    have hH := hH.subcels 900 rfl 2499 hfw2 (Rd.inok ((hH.rd 900 rfl)) (by omega) _)
    have hH := hH.subcel 900 rfl 2500 hf2_0 (Rd.inok ((hH.rd 900 rfl)) (by omega) _)
    have hH := hH.subcel 900 rfl 2501 hf2_1 (Rd.inok ((hH.rd 900 rfl)) (by omega) _)
    have hH := hH.subcel 900 rfl 2502 hf2_2 (Rd.inok ((hH.rd 900 rfl)) (by omega) _)
    have hH := hH.subcel 900 rfl 2503 hf2_3 (Rd.inok ((hH.rd 900 rfl)) (by omega) _)
    refine l_atg hF ((wanted_of hF rfl rfl rfl rfl).trans (by rw [hb13]; rfl)) rfl rfl (x_faddr Tryd.underlying39 rfl ty37 (by decide) (hF.tmp 1 rfl) rfl) ?_; clear hF; intro a hF
    refine l_atg hF ((wanted_of hF rfl rfl rfl rfl).trans (by rw [hb13]; rfl)) rfl rfl (x_load1 ty37 (hF.tmp 14 rfl) (blk_cell (hH.at 1 rfl) 4 rfl)) ?_; clear hF; intro a hF
    refine l_atg hF ((wanted_of hF rfl rfl rfl rfl).trans (by rw [hb13]; rfl)) rfl rfl (x_move (hF.tmp 3 rfl)) ?_; clear hF; intro a hF
    refine l_atg hF ((wanted_of hF rfl rfl rfl rfl).trans (by rw [hb13]; rfl)) rfl rfl (x_iaddr_A Tryd.underlying37 ty53 ((hH.rd 900 rfl)) (hF.tmp 15 rfl) (hF.tmp 16 rfl) (by omega) (by omega) _) ?_; clear hF; intro a hF
    refine l_atg hF ((wanted_of hF rfl rfl rfl rfl).trans (by rw [hb13]; rfl)) rfl rfl (x_faddrA ((hH.rd 900 rfl)) (by omega) _ Tryd.underlying53 rfl ty9 (by decide) (hF.tmp 17 rfl) rfl) ?_; clear hF; intro a hF
    refine l_atg hF ((wanted_of hF rfl rfl rfl rfl).trans (by rw [hb13]; rfl)) rfl rfl (x_load1 ty9 (hF.tmp 18 rfl) (hH.holds 2501 _ rfl)) ?_; clear hF; intro a hF
    refine l_atg hF ((wanted_of hF rfl rfl rfl rfl).trans (by rw [hb13]; rfl)) rfl rfl (x_len_sn (xs := ((gst t.steps (k : Int)).2.1)) Tryd.underlying9 (hF.tmp 19 rfl)) ?_; clear hF; intro a hF
    refine l_atg hF ((wanted_of hF rfl rfl rfl rfl).trans (by rw [hb13]; rfl)) rfl rfl (x_gtr (hF.tmp 20 rfl) rfl) ?_; clear hF; intro a hF
    refine l_at hF rfl rfl rfl (x_pickF (hF.tmp 13 rfl) hb13 (hF.tmp 21 rfl)) ?_; clear hF; intro a hF
    refine l_at hF rfl rfl rfl (x_move (hF.tmp 22 rfl)) ?_; clear hF; intro a hF
    refine split_bool hF 23 rfl (fun hb23 => ?_) (fun hb23 => ?_)
    ·have hc23 := hb23; try simp only [Bool.or_eq_true, Bool.and_eq_true, Bool.or_eq_false_iff, Bool.and_eq_false_iff, Bool.not_eq_true', Bool.not_eq_false', decide_eq_true_eq, decide_eq_false_iff_not, Bool.not_true, Bool.not_false] at hc23
     refine l_offg hF ((wanted_of hF rfl rfl rfl rfl).trans (by rw [hb23]; rfl)) rfl rfl ?_; clear hF; intro a hF
     refine l_offg hF ((wanted_of hF rfl rfl rfl rfl).trans (by rw [hb23]; rfl)) rfl rfl ?_; clear hF; intro a hF
     refine l_offg hF ((wanted_of hF rfl rfl rfl rfl).trans (by rw [hb23]; rfl)) rfl rfl ?_; clear hF; intro a hF
     refine l_offg hF ((wanted_of hF rfl rfl rfl rfl).trans (by rw [hb23]; rfl)) rfl rfl ?_; clear hF; intro a hF
     refine l_offg hF ((wanted_of hF rfl rfl rfl rfl).trans (by rw [hb23]; rfl)) rfl rfl ?_; clear hF; intro a hF
     refine l_offg hF ((wanted_of hF rfl rfl rfl rfl).trans (by rw [hb23]; rfl)) rfl rfl ?_; clear hF; intro a hF
     refine l_offg hF ((wanted_of hF rfl rfl rfl rfl).trans (by rw [hb23]; rfl)) rfl rfl ?_; clear hF; intro a hF
     refine l_offg hF ((wanted_of hF rfl rfl rfl rfl).trans (by rw [hb23]; rfl)) rfl rfl ?_; clear hF; intro a hF
     refine l_at hF rfl rfl rfl (x_pickT (hF.tmp 23 rfl) hb23 rfl) ?_; clear hF; intro a hF
     refine wpList_nil ?_
     refine hK7 _ _ ?_
     refine wp_cond_true (hF.tmp 32 rfl) ?_
     refine wp_seq_k fun khK9 hK9 => ?_
     refine wp_region_lit ?_
     refine l_at hF rfl rfl rfl (x_assign rfl) ?_; clear hF; intro a hF
     refine wpList_nil ?_
     refine hK9 _ _ ?_
     refine wp_ret ?_
     try simp only [Exit.then, Exit.inBlock]
     exact fin_ret hF (res1 (v := .bool false) hF rfl rfl) ⟨_, rfl, hH.mods⟩
    ·have hc23 := hb23; try simp only [Bool.or_eq_true, Bool.and_eq_true, Bool.or_eq_false_iff, Bool.and_eq_false_iff, Bool.not_eq_true', Bool.not_eq_false', decide_eq_true_eq, decide_eq_false_iff_not, Bool.not_true, Bool.not_false] at hc23
     refine l_atg hF ((wanted_of hF rfl rfl rfl rfl).trans (by rw [hb23]; rfl)) rfl rfl (x_faddr Tryd.underlying39 rfl ty37 (by decide) (hF.tmp 1 rfl) rfl) ?_; clear hF; intro a hF
     refine l_atg hF ((wanted_of hF rfl rfl rfl rfl).trans (by rw [hb23]; rfl)) rfl rfl (x_load1 ty37 (hF.tmp 24 rfl) (blk_cell (hH.at 1 rfl) 4 rfl)) ?_; clear hF; intro a hF
     refine l_atg hF ((wanted_of hF rfl rfl rfl rfl).trans (by rw [hb23]; rfl)) rfl rfl (x_move (hF.tmp 3 rfl)) ?_; clear hF; intro a hF
     refine l_atg hF ((wanted_of hF rfl rfl rfl rfl).trans (by rw [hb23]; rfl)) rfl rfl (x_iaddr_A Tryd.underlying37 ty53 ((hH.rd 900 rfl)) (hF.tmp 25 rfl) (hF.tmp 26 rfl) (by omega) (by omega) _) ?_; clear hF; intro a hF
     refine l_atg hF ((wanted_of hF rfl rfl rfl rfl).trans (by rw [hb23]; rfl)) rfl rfl (x_faddrA ((hH.rd 900 rfl)) (by omega) _ Tryd.underlying53 rfl ty9 (by decide) (hF.tmp 27 rfl) rfl) ?_; clear hF; intro a hF
     refine l_atg hF ((wanted_of hF rfl rfl rfl rfl).trans (by rw [hb23]; rfl)) rfl rfl (x_load1 ty9 (hF.tmp 28 rfl) (hH.holds 2502 _ rfl)) ?_; clear hF; intro a hF
     refine l_atg hF ((wanted_of hF rfl rfl rfl rfl).trans (by rw [hb23]; rfl)) rfl rfl (x_len_sn (xs := ((gst t.steps (k : Int)).2.2.1)) Tryd.underlying9 (hF.tmp 29 rfl)) ?_; clear hF; intro a hF
     refine l_atg hF ((wanted_of hF rfl rfl rfl rfl).trans (by rw [hb23]; rfl)) rfl rfl (x_gtr (hF.tmp 30 rfl) rfl) ?_; clear hF; intro a hF
     refine l_at hF rfl rfl rfl (x_pickF (hF.tmp 23 rfl) hb23 (hF.tmp 31 rfl)) ?_; clear hF; intro a hF
     refine wpList_nil ?_
     refine hK7 _ _ ?_
     refine wp_cond_split (hF.tmp 32 rfl) (fun hc32 => ?_) (fun hc32 => ?_)
     ·have hk32_2 := hc32; try simp only [Bool.or_eq_true, Bool.and_eq_true, Bool.or_eq_false_iff, Bool.and_eq_false_iff, Bool.not_eq_true', Bool.not_eq_false', decide_eq_true_eq, decide_eq_false_iff_not, Bool.not_true, Bool.not_false] at hc32
      refine wp_seq_k fun khK10 hK10 => ?_
      refine wp_region_lit ?_
      refine l_at hF rfl rfl rfl (x_assign rfl) ?_; clear hF; intro a hF
      refine wpList_nil ?_
      refine hK10 _ _ ?_
      refine wp_ret ?_
      try simp only [Exit.then, Exit.inBlock]
      exact fin_ret hF (res1 (v := .bool false) hF rfl rfl) ⟨_, rfl, hH.mods⟩
     ·have hk32_3 := hc32; try simp only [Bool.or_eq_true, Bool.and_eq_true, Bool.or_eq_false_iff, Bool.and_eq_false_iff, Bool.not_eq_true', Bool.not_eq_false', decide_eq_true_eq, decide_eq_false_iff_not, Bool.not_true, Bool.not_false] at hc32
      refine wp_skip ?_
      refine hK6 _ _ ?_
      refine wp_region_lit ?_
      refine l_at hF rfl rfl rfl (x_move (hF.tmp 3 rfl)) ?_; clear hF; intro a hF
      refine l_at hF rfl rfl rfl (x_add (hF.tmp 9 rfl) rfl (w64 (by omega) (by omega))) ?_; clear hF; intro a hF
      refine l_at hF rfl rfl rfl (x_assign (hF.tmp 10 rfl)) ?_; clear hF; intro a hF
      refine wpList_nil ?_
      exact ⟨_, by omega, ⟨k + 1, rfl, by omega, ((hF.bare.add hF 3 rfl).add hF 1 rfl), hH.sub _ (sub_cons (sub_cons (sub_nil _) 1 rfl) 900 rfl)⟩⟩
  ·have hk8_4 := hc8; try simp only [Bool.or_eq_true, Bool.and_eq_true, Bool.or_eq_false_iff, Bool.and_eq_false_iff, Bool.not_eq_true', Bool.not_eq_false', decide_eq_true_eq, decide_eq_false_iff_not, Bool.not_true, Bool.not_false] at hc8
   refine wp_exit ?_
   refine hK2 _ _ ?_
   refine wp_seq_k fun khK11 hK11 => ?_
   refine wp_region_lit ?_
   refine l_at hF rfl rfl rfl (x_faddr Tryd.underlying39 rfl ty9 (by decide) (hF.tmp 1 rfl) rfl) ?_; clear hF; intro a hF
   refine l_at hF rfl rfl rfl (x_load1 ty9 (hF.tmp 33 rfl) (blk_cell (hH.at 1 rfl) 0 rfl)) ?_; clear hF; intro a hF
   refine l_at hF rfl rfl rfl (x_len_sn (xs := t.name) Tryd.underlying9 (hF.tmp 34 rfl)) ?_; clear hF; intro a hF
   refine l_at hF rfl rfl rfl (x_leq (hF.tmp 35 rfl) rfl) ?_; clear hF; intro a hF
   refine l_at hF rfl rfl rfl (x_assign (hF.tmp 36 rfl)) ?_; clear hF; intro a hF
   refine wpList_nil ?_
   refine hK11 _ _ ?_
   refine wp_ret ?_
   try simp only [Exit.then, Exit.inBlock]
   exact fin_ret hF (res1 (v := .bool (decide ((t.name.length : Int) ≤ 100))) hF rfl rfl) ⟨_, rfl, hH.mods⟩
set_option maxRecDepth 100000 in
set_option maxHeartbeats 1000000 in
theorem fitsO_calls (w0 : World) {o : OpD} {oko0 : Nat → Prop} {Ao0 : Option Addr} {co0 : Nat} (hro0 : Rd StE w0 oko0 Ao0 o.timer.steps co0) : Calls Tryd.prog 81 #[.agg #[.int .i64 o.kind, .string (strOfNums o.key), .int .i64 o.step.1, .string (strOfNums o.step.2.1), .string (strOfNums o.step.2.2.1), .int .i64 o.step.2.2.2, .string (strOfNums o.timer.name), .int .i64 o.timer.ver, .int .u64 o.timer.tick, .int .u64 o.timer.every, .slice Ao0 o.timer.steps.length co0]] w0 fun e w' => ∃ b : Bool, e = .returned (.bool b) ∧ Mods (fun _ => False) w0 w' := by
 refine calls_of_wp Tryd.func81 rfl ?_
 have hF := Fr.enter #[.agg #[.int .i64 o.kind, .string (strOfNums o.key), .int .i64 o.step.1, .string (strOfNums o.step.2.1), .string (strOfNums o.step.2.2.1), .int .i64 o.step.2.2.2, .string (strOfNums o.timer.name), .int .i64 o.timer.ver, .int .u64 o.timer.tick, .int .u64 o.timer.every, .slice Ao0 o.timer.steps.length co0]] 26 (slotsOf [.agg #[.int .i64 o.kind, .string (strOfNums o.key), .int .i64 o.step.1, .string (strOfNums o.step.2.1), .string (strOfNums o.step.2.2.1), .int .i64 o.step.2.2.2, .string (strOfNums o.timer.name), .int .i64 o.timer.ver, .int .u64 o.timer.tick, .int .u64 o.timer.every, .slice Ao0 o.timer.steps.length co0]] 0) (Nat.le_of_ble_eq_true rfl) (fun i v h => by have h2 := (get_slotsOf _ 0 i v h).2; simpa only [List.getElem?_toArray, Nat.sub_zero] using h2)
 have hH := Hp.nil (fun _ => False) w0
 rw [Tryd.ntmps81]
 revert hF; generalize (⟨(#[.agg #[.int .i64 o.kind, .string (strOfNums o.key), .int .i64 o.step.1, .string (strOfNums o.step.2.1), .string (strOfNums o.step.2.2.1), .int .i64 o.step.2.2.2, .string (strOfNums o.timer.name), .int .i64 o.timer.ver, .int .u64 o.timer.tick, .int .u64 o.timer.every, .slice Ao0 o.timer.steps.length co0]] : Array Value) ++ Array.replicate (26 - (#[.agg #[.int .i64 o.kind, .string (strOfNums o.key), .int .i64 o.step.1, .string (strOfNums o.step.2.1), .string (strOfNums o.step.2.2.1), .int .i64 o.step.2.2.2, .string (strOfNums o.timer.name), .int .i64 o.timer.ver, .int .u64 o.timer.tick, .int .u64 o.timer.every, .slice Ao0 o.timer.steps.length co0]] : Array Value).size) undef, []⟩ : Act) = a; intro hF
 have hH := hH.arg 900 hro0.all (fun _ h => ⟨h, fun h => h⟩)
 have hleo0 := hro0.le; unfold maxLen at hleo0
 refine wp_seq_k fun khK1 hK1 => ?_
 refine wp_region_lit ?_
 refine wpList_plain rfl fun K hK => ?_
 refine w_box 1 hF hH rfl (hF.tmp 0 rfl) ?_
 clear hF hH; intro a w b1 hF hH
 refine hK _ _ ?_; clear hK K
 refine l_at hF rfl rfl rfl (x_assign rfl) ?_; clear hF; intro a hF
 refine wpList_nil ?_
 refine hK1 _ _ ?_
 refine wp_seq_k fun khK2 hK2 => ?_
 refine wp_region_lit ?_
 refine l_at hF rfl rfl rfl (x_faddr Tryd.underlying55 rfl ty9 (by decide) (hF.tmp 1 rfl) rfl) ?_; clear hF; intro a hF
 refine l_at hF rfl rfl rfl (x_load1 ty9 (hF.tmp 3 rfl) (blk_cell (hH.at 1 rfl) 1 rfl)) ?_; clear hF; intro a hF
 refine l_at hF rfl rfl rfl (x_len_sn (xs := o.key) Tryd.underlying9 (hF.tmp 4 rfl)) ?_; clear hF; intro a hF
 refine l_at hF rfl rfl rfl (x_leq (hF.tmp 5 rfl) rfl) ?_; clear hF; intro a hF
 refine l_at hF rfl rfl rfl (x_move (hF.tmp 6 rfl)) ?_; clear hF; intro a hF
 refine split_bool hF 7 rfl (fun hb7 => ?_) (fun hb7 => ?_)
 ·have hc7 := hb7; try simp only [Bool.or_eq_true, Bool.and_eq_true, Bool.or_eq_false_iff, Bool.and_eq_false_iff, Bool.not_eq_true', Bool.not_eq_false', decide_eq_true_eq, decide_eq_false_iff_not, Bool.not_true, Bool.not_false] at hc7
  refine l_atg hF ((wanted_of hF rfl rfl rfl rfl).trans (by rw [hb7]; rfl)) rfl rfl (x_faddr Tryd.underlying55 rfl ty53 (by decide) (hF.tmp 1 rfl) rfl) ?_; clear hF; intro a hF
  refine l_atg hF ((wanted_of hF rfl rfl rfl rfl).trans (by rw [hb7]; rfl)) rfl rfl (x_faddr Tryd.underlying53 rfl ty9 (by decide) (hF.tmp 8 rfl) rfl) ?_; clear hF; intro a hF
  refine l_atg hF ((wanted_of hF rfl rfl rfl rfl).trans (by rw [hb7]; rfl)) rfl rfl (x_load1 ty9 (hF.tmp 9 rfl) (blk_cell (hH.at 1 rfl) 3 rfl)) ?_; clear hF; intro a hF
  refine l_atg hF ((wanted_of hF rfl rfl rfl rfl).trans (by rw [hb7]; rfl)) rfl rfl (x_len_sn (xs := o.step.2.1) Tryd.underlying9 (hF.tmp 10 rfl)) ?_; clear hF; intro a hF
  refine l_atg hF ((wanted_of hF rfl rfl rfl rfl).trans (by rw [hb7]; rfl)) rfl rfl (x_leq (hF.tmp 11 rfl) rfl) ?_; clear hF; intro a hF
  refine l_at hF rfl rfl rfl (x_pickT (hF.tmp 7 rfl) hb7 (hF.tmp 12 rfl)) ?_; clear hF; intro a hF
  refine l_at hF rfl rfl rfl (x_move (hF.tmp 13 rfl)) ?_; clear hF; intro a hF
  refine split_bool hF 14 rfl (fun hb14 => ?_) (fun hb14 => ?_)
  ·have hc14 := hb14; try simp only [Bool.or_eq_true, Bool.and_eq_true, Bool.or_eq_false_iff, Bool.and_eq_false_iff, Bool.not_eq_true', Bool.not_eq_false', decide_eq_true_eq, decide_eq_false_iff_not, Bool.not_true, Bool.not_false] at hc14
   refine l_atg hF ((wanted_of hF rfl rfl rfl rfl).trans (by rw [hb14]; rfl)) rfl rfl (x_faddr Tryd.underlying55 rfl ty53 (by decide) (hF.tmp 1 rfl) rfl) ?_; clear hF; intro a hF
   refine l_atg hF ((wanted_of hF rfl rfl rfl rfl).trans (by rw [hb14]; rfl)) rfl rfl (x_faddr Tryd.underlying53 rfl ty9 (by decide) (hF.tmp 15 rfl) rfl) ?_; clear hF; intro a hF
   refine l_atg hF ((wanted_of hF rfl rfl rfl rfl).trans (by rw [hb14]; rfl)) rfl rfl (x_load1 ty9 (hF.tmp 16 rfl) (blk_cell (hH.at 1 rfl) 4 rfl)) ?_; clear hF; intro a hF
   refine l_atg hF ((wanted_of hF rfl rfl rfl rfl).trans (by rw [hb14]; rfl)) rfl rfl (x_len_sn (xs := o.step.2.2.1) Tryd.underlying9 (hF.tmp 17 rfl)) ?_; clear hF; intro a hF
   refine l_atg hF ((wanted_of hF rfl rfl rfl rfl).trans (by rw [hb14]; rfl)) rfl rfl (x_leq (hF.tmp 18 rfl) rfl) ?_; clear hF; intro a hF
   refine l_at hF rfl rfl rfl (x_pickT (hF.tmp 14 rfl) hb14 (hF.tmp 19 rfl)) ?_; clear hF; intro a hF
   refine l_at hF rfl rfl rfl (x_move (hF.tmp 20 rfl)) ?_; clear hF; intro a hF
   refine split_bool hF 21 rfl (fun hb21 => ?_) (fun hb21 => ?_)
   ·have hc21 := hb21; try simp only [Bool.or_eq_true, Bool.and_eq_true, Bool.or_eq_false_iff, Bool.and_eq_false_iff, Bool.not_eq_true', Bool.not_eq_false', decide_eq_true_eq, decide_eq_false_iff_not, Bool.not_true, Bool.not_false] at hc21
    refine l_atg hF ((wanted_of hF rfl rfl rfl rfl).trans (by rw [hb21]; rfl)) rfl rfl (x_faddr Tryd.underlying55 rfl ty39 (by decide) (hF.tmp 1 rfl) rfl) ?_; clear hF; intro a hF
    refine l_atg hF ((wanted_of hF rfl rfl rfl rfl).trans (by rw [hb21]; rfl)) rfl rfl (x_loadn (cs := #[.string (strOfNums o.timer.name), .int .i64 o.timer.ver, .int .u64 o.timer.tick, .int .u64 o.timer.every, .slice Ao0 o.timer.steps.length co0]) ty39 (hF.tmp 22 rfl) rfl (blk_sub (hH.at 1 rfl) 6 5 rfl)) ?_; clear hF; intro a hF
    refine wpList_on ((wanted_of hF rfl rfl rfl rfl).trans (by rw [hb21]; rfl)) fun K hK => ?_
    refine w_call hF (x_enter Tryd.func101 (by kernel_rfl) rfl (by simp only [List.map_toArray, List.map_cons, List.map_nil, hF.tmp 23 rfl] <;> rfl)) (fitsU_calls (t := o.timer) _ ((hH.rd 900 rfl))) rfl rfl ?_
    rintro _ w ⟨bt_, rfl, hm_⟩; refine ⟨_, rfl, ?_⟩; clear hF; intro a hF; have hH := hH.same hm_
    refine hK _ _ ?_; clear hK K
    refine l_at hF rfl rfl rfl (x_pickT (hF.tmp 21 rfl) hb21 (hF.tmp 24 rfl)) ?_; clear hF; intro a hF
    refine l_at hF rfl rfl rfl (x_assign (hF.tmp 25 rfl)) ?_; clear hF; intro a hF
    refine wpList_nil ?_
    refine hK2 _ _ ?_
    refine wp_ret ?_
    try simp only [Exit.then, Exit.inBlock]
    exact fin_ret hF (res1 (v := .bool bt_) hF rfl rfl) ⟨_, rfl, hH.mods⟩
   ·have hc21 := hb21; try simp only [Bool.or_eq_true, Bool.and_eq_true, Bool.or_eq_false_iff, Bool.and_eq_false_iff, Bool.not_eq_true', Bool.not_eq_false', decide_eq_true_eq, decide_eq_false_iff_not, Bool.not_true, Bool.not_false] at hc21
    refine l_offg hF ((wanted_of hF rfl rfl rfl rfl).trans (by rw [hb21]; rfl)) rfl rfl ?_; clear hF; intro a hF
    refine l_offg hF ((wanted_of hF rfl rfl rfl rfl).trans (by rw [hb21]; rfl)) rfl rfl ?_; clear hF; intro a hF
    refine l_offg hF ((wanted_of hF rfl rfl rfl rfl).trans (by rw [hb21]; rfl)) rfl rfl ?_; clear hF; intro a hF
    refine l_at hF rfl rfl rfl (x_pickF (hF.tmp 21 rfl) hb21 rfl) ?_; clear hF; intro a hF
    refine l_at hF rfl rfl rfl (x_assign (hF.tmp 25 rfl)) ?_; clear hF; intro a hF
    refine wpList_nil ?_
    refine hK2 _ _ ?_
    refine wp_ret ?_
    try simp only [Exit.then, Exit.inBlock]
    exact fin_ret hF (res1 (v := .bool false) hF rfl rfl) ⟨_, rfl, hH.mods⟩
  ·have hc14 := hb14; try simp only [Bool.or_eq_true, Bool.and_eq_true, Bool.or_eq_false_iff, Bool.and_eq_false_iff, Bool.not_eq_true', Bool.not_eq_false', decide_eq_true_eq, decide_eq_false_iff_not, Bool.not_true, Bool.not_false] at hc14
   refine l_offg hF ((wanted_of hF rfl rfl rfl rfl).trans (by rw [hb14]; rfl)) rfl rfl ?_; clear hF; intro a hF
   refine l_offg hF ((wanted_of hF rfl rfl rfl rfl).trans (by rw [hb14]; rfl)) rfl rfl ?_; clear hF; intro a hF
   refine l_offg hF ((wanted_of hF rfl rfl rfl rfl).trans (by rw [hb14]; rfl)) rfl rfl ?_; clear hF; intro a hF
   refine l_offg hF ((wanted_of hF rfl rfl rfl rfl).trans (by rw [hb14]; rfl)) rfl rfl ?_; clear hF; intro a hF
   refine l_offg hF ((wanted_of hF rfl rfl rfl rfl).trans (by rw [hb14]; rfl)) rfl rfl ?_; clear hF; intro a hF
   refine l_at hF rfl rfl rfl (x_pickF (hF.tmp 14 rfl) hb14 rfl) ?_; clear hF; intro a hF
   refine l_at hF rfl rfl rfl (x_move (hF.tmp 20 rfl)) ?_; clear hF; intro a hF
   refine l_offg hF ((wanted_of hF rfl rfl rfl rfl).trans rfl) rfl rfl ?_; clear hF; intro a hF
   refine l_offg hF ((wanted_of hF rfl rfl rfl rfl).trans rfl) rfl rfl ?_; clear hF; intro a hF
   refine l_offg hF ((wanted_of hF rfl rfl rfl rfl).trans rfl) rfl rfl ?_; clear hF; intro a hF
   refine l_at hF rfl rfl rfl (x_pickF (hF.tmp 21 rfl) rfl rfl) ?_; clear hF; intro a hF
   refine l_at hF rfl rfl rfl (x_assign (hF.tmp 25 rfl)) ?_; clear hF; intro a hF
   refine wpList_nil ?_
   refine hK2 _ _ ?_
   refine wp_ret ?_
   try simp only [Exit.then, Exit.inBlock]
   exact fin_ret hF (res1 (v := .bool false) hF rfl rfl) ⟨_, rfl, hH.mods⟩
 ·have hc7 := hb7; try simp only [Bool.or_eq_true, Bool.and_eq_true, Bool.or_eq_false_iff, Bool.and_eq_false_iff, Bool.not_eq_true', Bool.not_eq_false', decide_eq_true_eq, decide_eq_false_iff_not, Bool.not_true, Bool.not_false] at hc7
  refine l_offg hF ((wanted_of hF rfl rfl rfl rfl).trans (by rw [hb7]; rfl)) rfl rfl ?_; clear hF; intro a hF
  refine l_offg hF ((wanted_of hF rfl rfl rfl rfl).trans (by rw [hb7]; rfl)) rfl rfl ?_; clear hF; intro a hF
  refine l_offg hF ((wanted_of hF rfl rfl rfl rfl).trans (by rw [hb7]; rfl)) rfl rfl ?_; clear hF; intro a hF
  refine l_offg hF ((wanted_of hF rfl rfl rfl rfl).trans (by rw [hb7]; rfl)) rfl rfl ?_; clear hF; intro a hF
  refine l_offg hF ((wanted_of hF rfl rfl rfl rfl).trans (by rw [hb7]; rfl)) rfl rfl ?_; clear hF; intro a hF
  refine l_at hF rfl rfl rfl (x_pickF (hF.tmp 7 rfl) hb7 rfl) ?_; clear hF; intro a hF
  refine l_at hF rfl rfl rfl (x_move (hF.tmp 13 rfl)) ?_; clear hF; intro a hF
  refine l_offg hF ((wanted_of hF rfl rfl rfl rfl).trans rfl) rfl rfl ?_; clear hF; intro a hF
  refine l_offg hF ((wanted_of hF rfl rfl rfl rfl).trans rfl) rfl rfl ?_; clear hF; intro a hF
  refine l_offg hF ((wanted_of hF rfl rfl rfl rfl).trans rfl) rfl rfl ?_; clear hF; intro a hF
  refine l_offg hF ((wanted_of hF rfl rfl rfl rfl).trans rfl) rfl rfl ?_; clear hF; intro a hF
  refine l_offg hF ((wanted_of hF rfl rfl rfl rfl).trans rfl) rfl rfl ?_; clear hF; intro a hF
  refine l_at hF rfl rfl rfl (x_pickF (hF.tmp 14 rfl) rfl rfl) ?_; clear hF; intro a hF
  refine l_at hF rfl rfl rfl (x_move (hF.tmp 20 rfl)) ?_; clear hF; intro a hF
  refine l_offg hF ((wanted_of hF rfl rfl rfl rfl).trans rfl) rfl rfl ?_; clear hF; intro a hF
  refine l_offg hF ((wanted_of hF rfl rfl rfl rfl).trans rfl) rfl rfl ?_; clear hF; intro a hF
  refine l_offg hF ((wanted_of hF rfl rfl rfl rfl).trans rfl) rfl rfl ?_; clear hF; intro a hF
  refine l_at hF rfl rfl rfl (x_pickF (hF.tmp 21 rfl) rfl rfl) ?_; clear hF; intro a hF
  refine l_at hF rfl rfl rfl (x_assign (hF.tmp 25 rfl)) ?_; clear hF; intro a hF
  refine wpList_nil ?_
  refine hK2 _ _ ?_
  refine wp_ret ?_
  try simp only [Exit.then, Exit.inBlock]
  exact fin_ret hF (res1 (v := .bool false) hF rfl rfl) ⟨_, rfl, hH.mods⟩
set_option maxRecDepth 100000 in
set_option maxHeartbeats 1000000 in
theorem fitsOs_calls (w0 : World) {ok : Nat → Prop} {A : Option Addr} {xs : List OpD} {c : Nat} (hr : Rd OpdE w0 ok A xs c) : Calls Tryd.prog 52 #[.slice A xs.length c] w0 fun e w' => ∃ b : Bool, e = .returned (.bool b) ∧ Mods (fun _ => False) w0 w' := by
 refine calls_of_wp Tryd.func52 rfl ?_
 have hF := Fr.enter #[.slice A xs.length c] 18 (slotsOf [.slice A xs.length c] 0) (Nat.le_of_ble_eq_true rfl) (fun i v h => by have h2 := (get_slotsOf _ 0 i v h).2; simpa only [List.getElem?_toArray, Nat.sub_zero] using h2)
 have hH := Hp.nil (fun _ => False) w0
 rw [Tryd.ntmps52]
 revert hF; generalize (⟨(#[.slice A xs.length c] : Array Value) ++ Array.replicate (18 - (#[.slice A xs.length c] : Array Value).size) undef, []⟩ : Act) = a; intro hF
 have hH := hH.arg 901 hr.all (fun _ h => ⟨h, fun h => h⟩)
 have hle901 := hr.le; unfold maxLen at hle901
 refine wp_seq_k fun khK1 hK1 => ?_
 refine wp_region_lit ?_
 refine l_at hF rfl rfl rfl (x_assign rfl) ?_; clear hF; intro a hF
 refine wpList_nil ?_
 refine hK1 _ _ ?_
 refine wp_seq_k fun khK2 hK2 => ?_
 refine wp_seq_k fun khK3 hK3 => ?_
 refine wp_region_lit ?_
 refine l_at hF rfl rfl rfl (x_assign rfl) ?_; clear hF; intro a hF
 refine wpList_nil ?_
 refine hK3 _ _ ?_
 refine wp_block ?_
 refine wp_loop_ghost (fun n_ a w => ∃ k : Nat, n_ = xs.length - k ∧ (k ≤ xs.length) ∧ Fr 18 a [(0, .slice A xs.length c), (3, .int .i64 (k : Int))] ∧ Hp (fun _ => False) w0 w [(901, .rd_ OpdE A xs c (fun k => k < w0.heap.size))]) (xs.length) ?_ ?_
 ·exact ⟨0, rfl, by omega, ((hF.bare.add hF 3 rfl).add hF 0 rfl), hH.sub _ (sub_cons (sub_nil _) 901 rfl)⟩
 ·rintro _ a w ⟨k, rfl, hq0_0, hF, hH⟩
  refine wp_seq_k fun khK4 hK4 => ?_
  refine wp_seq_k fun khK5 hK5 => ?_
  refine wp_region_lit ?_
  refine l_at hF rfl rfl rfl (x_move (hF.tmp 3 rfl)) ?_; clear hF; intro a hF
  refine l_at hF rfl rfl rfl (x_move (hF.tmp 0 rfl)) ?_; clear hF; intro a hF
  refine l_at hF rfl rfl rfl (x_len_slice Tryd.underlying43 (hF.tmp 6 rfl)) ?_; clear hF; intro a hF
  refine l_at hF rfl rfl rfl (x_lss (hF.tmp 5 rfl) (hF.tmp 7 rfl)) ?_; clear hF; intro a hF
  refine wpList_nil ?_
  refine hK5 _ _ ?_
  refine wp_cond_split (hF.tmp 8 rfl) (fun hc8 => ?_) (fun hc8 => ?_)
  ·have hk8_1 := hc8; try simp only [Bool.or_eq_true, Bool.and_eq_true, Bool.or_eq_false_iff, Bool.and_eq_false_iff, Bool.not_eq_true', Bool.not_eq_false', decide_eq_true_eq, decide_eq_false_iff_not, Bool.not_true, Bool.not_false] at hc8
   refine wp_skip ?_
   refine hK4 _ _ ?_
   refine wp_seq_k fun khK6 hK6 => ?_
   refine wp_block ?_
   refine wp_seq_k fun khK7 hK7 => ?_
   refine wp_region_lit ?_
   obtain ⟨fA1, fc1, hfr1, hf1_0, hf1_1, hf1_2, hf1_3, hf1_4, hf1_5, hf1_6, hf1_7, hf1_8, hf1_9, hf1_10, hfw1⟩ := rd_opd ((hH.rd 901 rfl)) (gopd_some (xs := xs) (i := (k : Int)) (by omega) (by omega))
   have hH := hH.subrd 901 rfl 1010 hfr1 (fun _ h => h)
   have hH := hH.subcels 901 rfl 1499 hfw1 (Rd.inok ((hH.rd 901 rfl)) (by omega) _)
   have hH := hH.subcel 901 rfl 1500 hf1_0 (Rd.inok ((hH.rd 901 rfl)) (by omega) _)
   have hH := hH.subcel 901 rfl 1501 hf1_1 (Rd.inok ((hH.rd 901 rfl)) (by omega) _)
   have hH := hH.subcel 901 rfl 1502 hf1_2 (Rd.inok ((hH.rd 901 rfl)) (by omega) _)
   have hH := hH.subcel 901 rfl 1503 hf1_3 (Rd.inok ((hH.rd 901 rfl)) (by omega) _)
   have hH := hH.subcel 901 rfl 1504 hf1_4 (Rd.inok ((hH.rd 901 rfl)) (by omega) _)
   have hH := hH.subcel 901 rfl 1505 hf1_5 (Rd.inok ((hH.rd 901 rfl)) (by omega) _)
   have hH := hH.subcel 901 rfl 1506 hf1_6 (Rd.inok ((hH.rd 901 rfl)) (by omega) _)
   have hH := hH.subcel 901 rfl 1507 hf1_7 (Rd.inok ((hH.rd 901 rfl)) (by omega) _)
   have hH := hH.subcel 901 rfl 1508 hf1_8 (Rd.inok ((hH.rd 901 rfl)) (by omega) _)
   have hH := hH.subcel 901 rfl 1509 hf1_9 (Rd.inok ((hH.rd 901 rfl)) (by omega) _)
   have hH := hH.subcel 901 rfl 1510 hf1_10 (Rd.inok ((hH.rd 901 rfl)) (by omega) _)
   refine l_at hF rfl rfl rfl (x_move (hF.tmp 0 rfl)) ?_; clear hF; intro a hF
   refine l_at hF rfl rfl rfl (x_move (hF.tmp 3 rfl)) ?_; clear hF; intro a hF
   refine l_at hF rfl rfl rfl (x_iaddr_A Tryd.underlying43 ty55 ((hH.rd 901 rfl)) (hF.tmp 11 rfl) (hF.tmp 12 rfl) (by omega) (by omega) _) ?_; clear hF; intro a hF
   refine l_at hF rfl rfl rfl (x_loadn ty55 (hF.tmp 13 rfl) rfl (hH.holds 1499 _ rfl)) ?_; clear hF; intro a hF
   refine wpList_plain rfl fun K hK => ?_
   refine w_call hF (x_enter Tryd.func81 (by kernel_rfl) rfl (by simp only [List.map_toArray, List.map_cons, List.map_nil, hF.tmp 14 rfl] <;> rfl)) (fitsO_calls (o := (gopd xs (k : Int))) _ ((hH.rd 1010 rfl))) rfl rfl ?_
   rintro _ w ⟨bc_, rfl, hm_⟩; refine ⟨_, rfl, ?_⟩; clear hF; intro a hF; have hH := hH.same hm_
   refine hK _ _ ?_; clear hK K
   refine l_at hF rfl rfl rfl (x_assign (hF.tmp 15 rfl)) ?_; clear hF; intro a hF
   refine wpList_nil ?_
   refine hK7 _ _ ?_
   refine wp_seq_k fun khK8 hK8 => ?_
   refine wp_region_lit ?_
   refine l_at hF rfl rfl rfl (x_move (hF.tmp 4 rfl)) ?_; clear hF; intro a hF
   refine l_at hF rfl rfl rfl (x_not (hF.tmp 16 rfl)) ?_; clear hF; intro a hF
   refine wpList_nil ?_
   refine hK8 _ _ ?_
   refine wp_cond_split (hF.tmp 17 rfl) (fun hc17 => ?_) (fun hc17 => ?_)
   ·have hk17_2 := hc17; try simp only [Bool.or_eq_true, Bool.and_eq_true, Bool.or_eq_false_iff, Bool.and_eq_false_iff, Bool.not_eq_true', Bool.not_eq_false', decide_eq_true_eq, decide_eq_false_iff_not, Bool.not_true, Bool.not_false] at hc17
    refine wp_seq_k fun khK9 hK9 => ?_
    refine wp_region_lit ?_
    refine l_at hF rfl rfl rfl (x_assign rfl) ?_; clear hF; intro a hF
    refine wpList_nil ?_
    refine hK9 _ _ ?_
    refine wp_ret ?_
    try simp only [Exit.then, Exit.inBlock]
    exact fin_ret hF (res1 (v := .bool false) hF rfl rfl) ⟨_, rfl, hH.mods⟩
   ·have hk17_3 := hc17; try simp only [Bool.or_eq_true, Bool.and_eq_true, Bool.or_eq_false_iff, Bool.and_eq_false_iff, Bool.not_eq_true', Bool.not_eq_false', decide_eq_true_eq, decide_eq_false_iff_not, Bool.not_true, Bool.not_false] at hc17
    refine wp_skip ?_
    refine hK6 _ _ ?_
    refine wp_region_lit ?_
    refine l_at hF rfl rfl rfl (x_move (hF.tmp 3 rfl)) ?_; clear hF; intro a hF
    refine l_at hF rfl rfl rfl (x_add (hF.tmp 9 rfl) rfl (w64 (by omega) (by omega))) ?_; clear hF; intro a hF
    refine l_at hF rfl rfl rfl (x_assign (hF.tmp 10 rfl)) ?_; clear hF; intro a hF
    refine wpList_nil ?_
    exact ⟨_, by omega, ⟨k + 1, rfl, by omega, ((hF.bare.add hF 3 rfl).add hF 0 rfl), hH.sub _ (sub_cons (sub_nil _) 901 rfl)⟩⟩
  ·have hk8_4 := hc8; try simp only [Bool.or_eq_true, Bool.and_eq_true, Bool.or_eq_false_iff, Bool.and_eq_false_iff, Bool.not_eq_true', Bool.not_eq_false', decide_eq_true_eq, decide_eq_false_iff_not, Bool.not_true, Bool.not_false] at hc8
   refine wp_exit ?_
   refine hK2 _ _ ?_
   refine wp_seq_k fun khK10 hK10 => ?_
   refine wp_region_lit ?_
   refine l_at hF rfl rfl rfl (x_assign rfl) ?_; clear hF; intro a hF
   refine wpList_nil ?_
   refine hK10 _ _ ?_
   refine wp_ret ?_
   try simp only [Exit.then, Exit.inBlock]
   exact fin_ret hF (res1 (v := .bool true) hF rfl rfl) ⟨_, rfl, hH.mods⟩
set_option maxRecDepth 100000 in
set_option maxHeartbeats 1000000 in
theorem fitsQ_calls (w0 : World) {r : SReqD} {okr0 : Nat → Prop} {Ar0 : Option Addr} {cr0 : Nat} (hrr0 : Rd OpdE w0 okr0 Ar0 r.ops cr0) : Calls Tryd.prog 18 #[.agg #[.string (strOfNums r.client), .int .i64 r.num, .slice Ar0 r.ops.length cr0]] w0 fun e w' => ∃ b : Bool, e = .returned (.bool b) ∧ Mods (fun _ => False) w0 w' := by
 refine calls_of_wp Tryd.func18 rfl ?_
 have hF := Fr.enter #[.agg #[.string (strOfNums r.client), .int .i64 r.num, .slice Ar0 r.ops.length cr0]] 20 (slotsOf [.agg #[.string (strOfNums r.client), .int .i64 r.num, .slice Ar0 r.ops.length cr0]] 0) (Nat.le_of_ble_eq_true rfl) (fun i v h => by have h2 := (get_slotsOf _ 0 i v h).2; simpa only [List.getElem?_toArray, Nat.sub_zero] using h2)
 have hH := Hp.nil (fun _ => False) w0
 rw [Tryd.ntmps18]
 revert hF; generalize (⟨(#[.agg #[.string (strOfNums r.client), .int .i64 r.num, .slice Ar0 r.ops.length cr0]] : Array Value) ++ Array.replicate (20 - (#[.agg #[.string (strOfNums r.client), .int .i64 r.num, .slice Ar0 r.ops.length cr0]] : Array Value).size) undef, []⟩ : Act) = a; intro hF
 have hH := hH.arg 900 hrr0.all (fun _ h => ⟨h, fun h => h⟩)
 have hler0 := hrr0.le; unfold maxLen at hler0
 refine wp_seq_k fun khK1 hK1 => ?_
 refine wp_region_lit ?_
 refine wpList_plain rfl fun K hK => ?_
 refine w_box 1 hF hH rfl (hF.tmp 0 rfl) ?_
 clear hF hH; intro a w b1 hF hH
 refine hK _ _ ?_; clear hK K
 refine l_at hF rfl rfl rfl (x_assign rfl) ?_; clear hF; intro a hF
 refine wpList_nil ?_
 refine hK1 _ _ ?_
 refine wp_seq_k fun khK2 hK2 => ?_
 refine wp_region_lit ?_
 refine l_at hF rfl rfl rfl (x_faddr Tryd.underlying45 rfl ty43 (by decide) (hF.tmp 1 rfl) rfl) ?_; clear hF; intro a hF
 refine l_at hF rfl rfl rfl (x_load1 ty43 (hF.tmp 4 rfl) (blk_cell (hH.at 1 rfl) 2 rfl)) ?_; clear hF; intro a hF
 refine wpList_plain rfl fun K hK => ?_
 refine w_call hF (x_enter Tryd.func52 (by kernel_rfl) rfl (by simp only [List.map_toArray, List.map_cons, List.map_nil, hF.tmp 5 rfl] <;> rfl)) (fitsOs_calls _ ((hH.rd 900 rfl))) rfl rfl ?_
 rintro _ w ⟨ba_, rfl, hm_⟩; refine ⟨_, rfl, ?_⟩; clear hF; intro a hF; have hH := hH.same hm_
 refine hK _ _ ?_; clear hK K
 refine l_at hF rfl rfl rfl (x_assign (hF.tmp 6 rfl)) ?_; clear hF; intro a hF
 refine wpList_nil ?_
 refine hK2 _ _ ?_
 refine wp_seq_k fun khK3 hK3 => ?_
 refine wp_region_lit ?_
 refine l_at hF rfl rfl rfl (x_move (hF.tmp 3 rfl)) ?_; clear hF; intro a hF
 refine l_at hF rfl rfl rfl (x_move (hF.tmp 7 rfl)) ?_; clear hF; intro a hF
 refine split_bool hF 8 rfl (fun hb8 => ?_) (fun hb8 => ?_)
 ·have hc8 := hb8; try simp only [Bool.or_eq_true, Bool.and_eq_true, Bool.or_eq_false_iff, Bool.and_eq_false_iff, Bool.not_eq_true', Bool.not_eq_false', decide_eq_true_eq, decide_eq_false_iff_not, Bool.not_true, Bool.not_false] at hc8
  refine l_atg hF ((wanted_of hF rfl rfl rfl rfl).trans (by rw [hb8]; rfl)) rfl rfl (x_faddr Tryd.underlying45 rfl ty43 (by decide) (hF.tmp 1 rfl) rfl) ?_; clear hF; intro a hF
  refine l_atg hF ((wanted_of hF rfl rfl rfl rfl).trans (by rw [hb8]; rfl)) rfl rfl (x_load1 ty43 (hF.tmp 9 rfl) (blk_cell (hH.at 1 rfl) 2 rfl)) ?_; clear hF; intro a hF
  refine l_atg hF ((wanted_of hF rfl rfl rfl rfl).trans (by rw [hb8]; rfl)) rfl rfl (x_len_slice Tryd.underlying43 (hF.tmp 10 rfl)) ?_; clear hF; intro a hF
  refine l_atg hF ((wanted_of hF rfl rfl rfl rfl).trans (by rw [hb8]; rfl)) rfl rfl (x_leq (hF.tmp 11 rfl) rfl) ?_; clear hF; intro a hF
  refine l_at hF rfl rfl rfl (x_pickT (hF.tmp 8 rfl) hb8 (hF.tmp 12 rfl)) ?_; clear hF; intro a hF
  refine l_at hF rfl rfl rfl (x_move (hF.tmp 13 rfl)) ?_; clear hF; intro a hF
  refine split_bool hF 14 rfl (fun hb14 => ?_) (fun hb14 => ?_)
  ·have hc14 := hb14; try simp only [Bool.or_eq_true, Bool.and_eq_true, Bool.or_eq_false_iff, Bool.and_eq_false_iff, Bool.not_eq_true', Bool.not_eq_false', decide_eq_true_eq, decide_eq_false_iff_not, Bool.not_true, Bool.not_false] at hc14
   refine l_atg hF ((wanted_of hF rfl rfl rfl rfl).trans (by rw [hb14]; rfl)) rfl rfl (x_faddr Tryd.underlying45 rfl ty9 (by decide) (hF.tmp 1 rfl) rfl) ?_; clear hF; intro a hF
   refine l_atg hF ((wanted_of hF rfl rfl rfl rfl).trans (by rw [hb14]; rfl)) rfl rfl (x_load1 ty9 (hF.tmp 15 rfl) (blk_cell (hH.at 1 rfl) 0 rfl)) ?_; clear hF; intro a hF
   refine l_atg hF ((wanted_of hF rfl rfl rfl rfl).trans (by rw [hb14]; rfl)) rfl rfl (x_len_sn (xs := r.client) Tryd.underlying9 (hF.tmp 16 rfl)) ?_; clear hF; intro a hF
   refine l_atg hF ((wanted_of hF rfl rfl rfl rfl).trans (by rw [hb14]; rfl)) rfl rfl (x_leq (hF.tmp 17 rfl) rfl) ?_; clear hF; intro a hF
   refine l_at hF rfl rfl rfl (x_pickT (hF.tmp 14 rfl) hb14 (hF.tmp 18 rfl)) ?_; clear hF; intro a hF
   refine l_at hF rfl rfl rfl (x_assign (hF.tmp 19 rfl)) ?_; clear hF; intro a hF
   refine wpList_nil ?_
   refine hK3 _ _ ?_
   refine wp_ret ?_
   try simp only [Exit.then, Exit.inBlock]
   exact fin_ret hF (res1 (v := .bool (decide ((r.client.length : Int) ≤ 100))) hF rfl rfl) ⟨_, rfl, hH.mods⟩
  ·have hc14 := hb14; try simp only [Bool.or_eq_true, Bool.and_eq_true, Bool.or_eq_false_iff, Bool.and_eq_false_iff, Bool.not_eq_true', Bool.not_eq_false', decide_eq_true_eq, decide_eq_false_iff_not, Bool.not_true, Bool.not_false] at hc14
   refine l_offg hF ((wanted_of hF rfl rfl rfl rfl).trans (by rw [hb14]; rfl)) rfl rfl ?_; clear hF; intro a hF
   refine l_offg hF ((wanted_of hF rfl rfl rfl rfl).trans (by rw [hb14]; rfl)) rfl rfl ?_; clear hF; intro a hF
   refine l_offg hF ((wanted_of hF rfl rfl rfl rfl).trans (by rw [hb14]; rfl)) rfl rfl ?_; clear hF; intro a hF
   refine l_offg hF ((wanted_of hF rfl rfl rfl rfl).trans (by rw [hb14]; rfl)) rfl rfl ?_; clear hF; intro a hF
   refine l_at hF rfl rfl rfl (x_pickF (hF.tmp 14 rfl) hb14 rfl) ?_; clear hF; intro a hF
   refine l_at hF rfl rfl rfl (x_assign (hF.tmp 19 rfl)) ?_; clear hF; intro a hF
   refine wpList_nil ?_
   refine hK3 _ _ ?_
   refine wp_ret ?_
   try simp only [Exit.then, Exit.inBlock]
   exact fin_ret hF (res1 (v := .bool false) hF rfl rfl) ⟨_, rfl, hH.mods⟩
 ·have hc8 := hb8; try simp only [Bool.or_eq_true, Bool.and_eq_true, Bool.or_eq_false_iff, Bool.and_eq_false_iff, Bool.not_eq_true', Bool.not_eq_false', decide_eq_true_eq, decide_eq_false_iff_not, Bool.not_true, Bool.not_false] at hc8
  refine l_offg hF ((wanted_of hF rfl rfl rfl rfl).trans (by rw [hb8]; rfl)) rfl rfl ?_; clear hF; intro a hF
  refine l_offg hF ((wanted_of hF rfl rfl rfl rfl).trans (by rw [hb8]; rfl)) rfl rfl ?_; clear hF; intro a hF
  refine l_offg hF ((wanted_of hF rfl rfl rfl rfl).trans (by rw [hb8]; rfl)) rfl rfl ?_; clear hF; intro a hF
  refine l_offg hF ((wanted_of hF rfl rfl rfl rfl).trans (by rw [hb8]; rfl)) rfl rfl ?_; clear hF; intro a hF
  refine l_at hF rfl rfl rfl (x_pickF (hF.tmp 8 rfl) hb8 rfl) ?_; clear hF; intro a hF
  refine l_at hF rfl rfl rfl (x_move (hF.tmp 13 rfl)) ?_; clear hF; intro a hF
  refine l_offg hF ((wanted_of hF rfl rfl rfl rfl).trans rfl) rfl rfl ?_; clear hF; intro a hF
  refine l_offg hF ((wanted_of hF rfl rfl rfl rfl).trans rfl) rfl rfl ?_; clear hF; intro a hF
  refine l_offg hF ((wanted_of hF rfl rfl rfl rfl).trans rfl) rfl rfl ?_; clear hF; intro a hF
  refine l_offg hF ((wanted_of hF rfl rfl rfl rfl).trans rfl) rfl rfl ?_; clear hF; intro a hF
  refine l_at hF rfl rfl rfl (x_pickF (hF.tmp 14 rfl) rfl rfl) ?_; clear hF; intro a hF
  refine l_at hF rfl rfl rfl (x_assign (hF.tmp 19 rfl)) ?_; clear hF; intro a hF
  refine wpList_nil ?_
  refine hK3 _ _ ?_
  refine wp_ret ?_
  try simp only [Exit.then, Exit.inBlock]
  exact fin_ret hF (res1 (v := .bool false) hF rfl rfl) ⟨_, rfl, hH.mods⟩
set_option maxRecDepth 100000 in
set_option maxHeartbeats 1000000 in
theorem qalive_calls (w0 : World) {pp : Bool} (hL : LibAt pp w0) : Calls Tryd.prog 19 #[] w0 fun e w' => e = .returned (.bool true) ∧ Mods (fun _ => False) w0 w' := by
 refine calls_of_wp Tryd.func19 rfl ?_
 have hF := Fr.enter #[] 46 (slotsOf [] 0) (Nat.le_of_ble_eq_true rfl) (fun i v h => by have h2 := (get_slotsOf _ 0 i v h).2; simpa only [List.getElem?_toArray, Nat.sub_zero] using h2)
 have hH := Hp.nil (fun _ => False) w0
 rw [Tryd.ntmps19]
 revert hF; generalize (⟨(#[] : Array Value) ++ Array.replicate (46 - (#[] : Array Value).size) undef, []⟩ : Act) = a; intro hF
 have hH := hH.libN 990 hL
 refine wp_seq_k fun khK1 hK1 => ?_
 refine wp_region_lit ?_
 refine l_at hF rfl rfl rfl (x_assign rfl) ?_; clear hF; intro a hF
 refine wpList_nil ?_
 refine hK1 _ _ ?_
 refine wp_seq_k fun khK2 hK2 => ?_
 refine wp_region_lit ?_
 refine l_at hF rfl rfl rfl (x_buildS (cells := #[.int .i64 1, .string (strOfNums ([107] : List Int)), .int .i64 0, .string (strOfNums []), .string (strOfNums []), .int .i64 0, .string (strOfNums []), .int .i64 0, .int .u64 0, .int .u64 0, .slice none 0 0]) (places := #[(0, 1), (1, 1), (2, 4), (6, 5)]) Tryd.underlying55 ty55 (by kernel_rfl) (by simp only [List.map_toArray, List.map_cons, List.map_nil] <;> rfl) rfl) ?_; clear hF; intro a hF
 refine wpList_plain rfl fun K hK => ?_
 refine w_litE 6 OpdE reqA.ops #[.int .i64 1, .string (strOfNums ([107] : List Int)), .int .i64 0, .string (strOfNums []), .string (strOfNums []), .int .i64 0, .string (strOfNums []), .int .i64 0, .int .u64 0, .int .u64 0, .slice none 0 0] (fun _ => False) hF hH rfl Tryd.underlying43 ty55 (by simp only [List.map_toArray, List.map_cons, List.map_nil, hF.tmp 5 rfl] <;> rfl) rfl (by decide) (by decide) (by kernel_rfl) (Elems.single (opd_mk (⟨1, [107], zS, zT⟩ : OpD) (Rd.nil StE _ (fun _ => False)))) (fun kb hk => hk.elim) ?_
 clear hF hH; intro a w b6 hF hH
 refine hK _ _ ?_; clear hK K
 refine l_at hF rfl rfl rfl (x_buildS (cells := #[.string (strOfNums ([99] : List Int)), .int .i64 5, .slice (some ⟨b6, 0, none⟩) reqA.ops.length reqA.ops.length]) (places := #[(0, 1), (1, 1), (2, 1)]) Tryd.underlying45 ty45 (by kernel_rfl) (by simp only [List.map_toArray, List.map_cons, List.map_nil, hF.tmp 6 rfl] <;> rfl) rfl) ?_; clear hF; intro a hF
 refine wpList_plain rfl fun K hK => ?_
 refine w_alloc 1 hF hH rfl ty45 ?_
 clear hF hH; intro a w b1 hF hH
 refine hK _ _ ?_; clear hK K
 refine wpList_plain rfl fun K hK => ?_
 refine w_storeA 1 hH ty45 rfl (hF.tmp 1 rfl) (hF.tmp 7 rfl) rfl (by simp [Value.cells, Value.oneCell']) rfl ?_
 clear hH; intro w hH
 refine hK _ _ ?_; clear hK K
 have hH := hH.freeze 6 rfl (fun kb => (Value.slice (some ⟨b6, 0, none⟩) reqA.ops.length reqA.ops.length).ownBlock = some kb) (fun kb => ⟨fun h => .inr h, fun h => h.resolve_left id⟩)
 refine wpList_nil ?_
 refine hK2 _ _ ?_
 refine wp_seq_k fun khK3 hK3 => ?_
 refine wp_region_lit ?_
 refine l_at hF rfl rfl rfl (x_loadn ty45 (hF.tmp 1 rfl) rfl (blk_whole (hH.at 1 rfl))) ?_; clear hF; intro a hF
 refine wpList_plain rfl fun K hK => ?_
 refine w_call hF (x_enter Tryd.func38 (by kernel_rfl) rfl (by simp only [List.map_toArray, List.map_cons, List.map_nil, hF.tmp 9 rfl] <;> rfl)) (encQ_calls (r := reqA) _ (hH.holds 990 _ rfl) ((hH.rd 6 rfl)) reqA_B) rfl rfl ?_
 rintro _ w ⟨vr8, rfl, hm_, hr_⟩; refine ⟨_, rfl, ?_⟩; clear hF; intro a hF; have hH := Hp.rowOut hH 8 hm_ hr_; obtain ⟨Ar8, cr8, rfl⟩ := (hH.row 8 rfl).form
 refine hK _ _ ?_; clear hK K
 refine l_at hF rfl rfl rfl (x_move (hF.tmp 10 rfl)) ?_; clear hF; intro a hF
 refine l_at hF rfl rfl rfl (x_extract (hF.tmp 8 rfl) rfl) ?_; clear hF; intro a hF
 refine l_at hF rfl rfl rfl (x_extract (hF.tmp 8 rfl) rfl) ?_; clear hF; intro a hF
 refine l_at hF rfl rfl rfl (x_assign (hF.tmp 11 rfl)) ?_; clear hF; intro a hF
 refine l_at hF rfl rfl rfl (x_assign (hF.tmp 12 rfl)) ?_; clear hF; intro a hF
 refine wpList_nil ?_
 refine hK3 _ _ ?_
 refine wp_seq_k fun khK4 hK4 => ?_
 refine wp_region_lit ?_
 refine l_at hF rfl rfl rfl (x_loadn ty45 (hF.tmp 1 rfl) rfl (blk_whole (hH.at 1 rfl))) ?_; clear hF; intro a hF
 refine wpList_plain rfl fun K hK => ?_
 refine w_call hF (x_enter Tryd.func20 (by kernel_rfl) rfl (by simp only [List.map_toArray, List.map_cons, List.map_nil, hF.tmp 13 rfl] <;> rfl)) (wrap_calls (r := reqA) _ (hH.holds 990 _ rfl) ((hH.rd 6 rfl)) reqA_B) rfl rfl ?_
 rintro _ w ⟨vr14, rfl, hm_, okr14, hr_, hf_, ho14_⟩; refine ⟨_, rfl, ?_⟩; clear hF; intro a hF; have hH := hH.newRow 14 hm_ hr_ hf_ ho14_; obtain ⟨Ar14, cr14, rfl⟩ := (hH.row 14 rfl).form
 refine hK _ _ ?_; clear hK K
 refine l_at hF rfl rfl rfl (x_assign (hF.tmp 14 rfl)) ?_; clear hF; intro a hF
 refine wpList_nil ?_
 refine hK4 _ _ ?_
 refine wp_seq_k fun khK5 hK5 => ?_
 refine wp_region_lit ?_
 rw [encQE_yes reqA_right] at hF
 have hH := hH.freeze 14 rfl (fun kb => okr14 kb ∨ (Value.slice Ar14 (wrapL reqA).length cr14).ownBlock = some kb) (fun kb => Iff.rfl)
 refine l_at hF rfl rfl rfl (x_move (hF.tmp 3 rfl)) ?_; clear hF; intro a hF
 refine l_at hF rfl rfl rfl (x_eql (hF.tmp 15 rfl) rfl) ?_; clear hF; intro a hF
 refine l_at hF rfl rfl rfl (x_move (hF.tmp 16 rfl)) ?_; clear hF; intro a hF
 refine l_atg hF ((wanted_of hF rfl rfl rfl rfl).trans rfl) rfl rfl (x_move (hF.tmp 2 rfl)) ?_; clear hF; intro a hF
 refine l_atg hF ((wanted_of hF rfl rfl rfl rfl).trans rfl) rfl rfl (x_len_slice Tryd.underlying28 (hF.tmp 18 rfl)) ?_; clear hF; intro a hF
 refine l_atg hF ((wanted_of hF rfl rfl rfl rfl).trans rfl) rfl rfl (x_eql (hF.tmp 19 rfl) rfl) ?_; clear hF; intro a hF
 rw [show (decide (((encQ reqA).length : Int) = 23)) = true from decide_eq_true (by rw [reqA_len]; rfl)] at hF
 refine l_at hF rfl rfl rfl (x_pickT (hF.tmp 17 rfl) rfl (hF.tmp 20 rfl)) ?_; clear hF; intro a hF
 refine l_at hF rfl rfl rfl (x_move (hF.tmp 21 rfl)) ?_; clear hF; intro a hF
 refine l_atg hF ((wanted_of hF rfl rfl rfl rfl).trans rfl) rfl rfl (x_move (hF.tmp 4 rfl)) ?_; clear hF; intro a hF
 refine l_atg hF ((wanted_of hF rfl rfl rfl rfl).trans rfl) rfl rfl (x_len_slice Tryd.underlying43 (hF.tmp 23 rfl)) ?_; clear hF; intro a hF
 refine l_atg hF ((wanted_of hF rfl rfl rfl rfl).trans rfl) rfl rfl (x_eql (hF.tmp 24 rfl) rfl) ?_; clear hF; intro a hF
 rw [show (decide (((wrapL reqA).length : Int) = 3)) = true from decide_eq_true (by rw [wrapA]; rfl)] at hF
 refine l_at hF rfl rfl rfl (x_pickT (hF.tmp 22 rfl) rfl (hF.tmp 25 rfl)) ?_; clear hF; intro a hF
 refine l_at hF rfl rfl rfl (x_move (hF.tmp 26 rfl)) ?_; clear hF; intro a hF
 have hwl : (wrapL reqA).length = 3 := by rw [wrapA]; rfl
 obtain ⟨fA1, fc1, hfr1, hf1_0, hf1_1, hf1_2, hf1_3, hf1_4, hf1_5, hf1_6, hf1_7, hf1_8, hf1_9, hf1_10, hfw1⟩ := rd_opd ((hH.rd 14 rfl)) (gopd_some (xs := (wrapL reqA)) (i := 0) (by omega) (by omega))
 have hH := hH.subrd 14 rfl 1010 hfr1 (fun _ h => h)
 have hH := hH.subcels 14 rfl 1499 hfw1 (Rd.inok ((hH.rd 14 rfl)) (by omega) _)
 have hH := hH.subcel 14 rfl 1500 hf1_0 (Rd.inok ((hH.rd 14 rfl)) (by omega) _)
 have hH := hH.subcel 14 rfl 1501 hf1_1 (Rd.inok ((hH.rd 14 rfl)) (by omega) _)
 have hH := hH.subcel 14 rfl 1502 hf1_2 (Rd.inok ((hH.rd 14 rfl)) (by omega) _)
 have hH := hH.subcel 14 rfl 1503 hf1_3 (Rd.inok ((hH.rd 14 rfl)) (by omega) _)
 have hH := hH.subcel 14 rfl 1504 hf1_4 (Rd.inok ((hH.rd 14 rfl)) (by omega) _)
 have hH := hH.subcel 14 rfl 1505 hf1_5 (Rd.inok ((hH.rd 14 rfl)) (by omega) _)
 have hH := hH.subcel 14 rfl 1506 hf1_6 (Rd.inok ((hH.rd 14 rfl)) (by omega) _)
 have hH := hH.subcel 14 rfl 1507 hf1_7 (Rd.inok ((hH.rd 14 rfl)) (by omega) _)
 have hH := hH.subcel 14 rfl 1508 hf1_8 (Rd.inok ((hH.rd 14 rfl)) (by omega) _)
 have hH := hH.subcel 14 rfl 1509 hf1_9 (Rd.inok ((hH.rd 14 rfl)) (by omega) _)
 have hH := hH.subcel 14 rfl 1510 hf1_10 (Rd.inok ((hH.rd 14 rfl)) (by omega) _)
 refine l_atg hF ((wanted_of hF rfl rfl rfl rfl).trans rfl) rfl rfl (x_move (hF.tmp 4 rfl)) ?_; clear hF; intro a hF
 refine l_atg hF ((wanted_of hF rfl rfl rfl rfl).trans rfl) rfl rfl (x_iaddr_A Tryd.underlying43 ty55 ((hH.rd 14 rfl)) (hF.tmp 28 rfl) rfl (by omega) (by omega) _) ?_; clear hF; intro a hF
 refine l_atg hF ((wanted_of hF rfl rfl rfl rfl).trans rfl) rfl rfl (x_faddrA ((hH.rd 14 rfl)) (by omega) _ Tryd.underlying55 rfl ty9 (by decide) (hF.tmp 29 rfl) rfl) ?_; clear hF; intro a hF
 refine l_atg hF ((wanted_of hF rfl rfl rfl rfl).trans rfl) rfl rfl (x_load1 ty9 (hF.tmp 30 rfl) (hH.holds 1501 _ rfl)) ?_; clear hF; intro a hF
 refine l_atg hF ((wanted_of hF rfl rfl rfl rfl).trans rfl) rfl rfl (x_eqn (xs := ((gopd (wrapL reqA) 0).key)) (ys := ([64, 99] : List Int)) (hF.tmp 31 rfl) (show _ = Value.string (strOfNums ([64, 99] : List Int)) by kernel_rfl) (by rw [wrapA]; exact byte_c [64, 99] (by decide)) (byte_c [64, 99] (by decide))) ?_; clear hF; intro a hF
 rw [show decide ((gopd (wrapL reqA) 0).key = [64, 99]) = true from decide_eq_true (by rw [wrapA]; rfl)] at hF
 refine l_at hF rfl rfl rfl (x_pickT (hF.tmp 27 rfl) rfl (hF.tmp 32 rfl)) ?_; clear hF; intro a hF
 refine l_at hF rfl rfl rfl (x_move (hF.tmp 33 rfl)) ?_; clear hF; intro a hF
 obtain ⟨fA2, fc2, hfr2, hf2_0, hf2_1, hf2_2, hf2_3, hf2_4, hf2_5, hf2_6, hf2_7, hf2_8, hf2_9, hf2_10, hfw2⟩ := rd_opd ((hH.rd 14 rfl)) (gopd_some (xs := (wrapL reqA)) (i := 2) (by omega) (by omega))
 have hH := hH.subrd 14 rfl 2010 hfr2 (fun _ h => h)
 have hH := hH.subcels 14 rfl 2499 hfw2 (Rd.inok ((hH.rd 14 rfl)) (by omega) _)
 have hH := hH.subcel 14 rfl 2500 hf2_0 (Rd.inok ((hH.rd 14 rfl)) (by omega) _)
 have hH := hH.subcel 14 rfl 2501 hf2_1 (Rd.inok ((hH.rd 14 rfl)) (by omega) _)
 have hH := hH.subcel 14 rfl 2502 hf2_2 (Rd.inok ((hH.rd 14 rfl)) (by omega) _)
 have hH := hH.subcel 14 rfl 2503 hf2_3 (Rd.inok ((hH.rd 14 rfl)) (by omega) _)
 have hH := hH.subcel 14 rfl 2504 hf2_4 (Rd.inok ((hH.rd 14 rfl)) (by omega) _)
 have hH := hH.subcel 14 rfl 2505 hf2_5 (Rd.inok ((hH.rd 14 rfl)) (by omega) _)
 have hH := hH.subcel 14 rfl 2506 hf2_6 (Rd.inok ((hH.rd 14 rfl)) (by omega) _)
 have hH := hH.subcel 14 rfl 2507 hf2_7 (Rd.inok ((hH.rd 14 rfl)) (by omega) _)
 have hH := hH.subcel 14 rfl 2508 hf2_8 (Rd.inok ((hH.rd 14 rfl)) (by omega) _)
 have hH := hH.subcel 14 rfl 2509 hf2_9 (Rd.inok ((hH.rd 14 rfl)) (by omega) _)
 have hH := hH.subcel 14 rfl 2510 hf2_10 (Rd.inok ((hH.rd 14 rfl)) (by omega) _)
 refine l_atg hF ((wanted_of hF rfl rfl rfl rfl).trans rfl) rfl rfl (x_move (hF.tmp 4 rfl)) ?_; clear hF; intro a hF
 refine l_atg hF ((wanted_of hF rfl rfl rfl rfl).trans rfl) rfl rfl (x_iaddr_A Tryd.underlying43 ty55 ((hH.rd 14 rfl)) (hF.tmp 35 rfl) rfl (by omega) (by omega) _) ?_; clear hF; intro a hF
 refine l_atg hF ((wanted_of hF rfl rfl rfl rfl).trans rfl) rfl rfl (x_faddrA ((hH.rd 14 rfl)) (by omega) _ Tryd.underlying55 rfl ty53 (by decide) (hF.tmp 36 rfl) rfl) ?_; clear hF; intro a hF
 refine l_atg hF ((wanted_of hF rfl rfl rfl rfl).trans rfl) rfl rfl (x_faddrA (o' := Int.toNat 2 * 11 + 4) ((hH.rd 14 rfl)) (by omega) _ Tryd.underlying53 rfl ty9 (by decide) (hF.tmp 37 rfl) (Nat.add_assoc _ _ _)) ?_; clear hF; intro a hF
 refine l_atg hF ((wanted_of hF rfl rfl rfl rfl).trans rfl) rfl rfl (x_load1 ty9 (hF.tmp 38 rfl) (hH.holds 2504 _ rfl)) ?_; clear hF; intro a hF
 refine l_atg hF ((wanted_of hF rfl rfl rfl rfl).trans rfl) rfl rfl (x_eqn (xs := ((gopd (wrapL reqA) 2).step.2.2.1)) (ys := ([53] : List Int)) (hF.tmp 39 rfl) (show _ = Value.string (strOfNums ([53] : List Int)) by kernel_rfl) (by rw [wrapA]; exact itoaI_byte 5) (byte_c [53] (by decide))) ?_; clear hF; intro a hF
 rw [show decide ((gopd (wrapL reqA) 2).step.2.2.1 = [53]) = true from decide_eq_true (by rw [wrapA]; exact itoa_5)] at hF
 refine l_at hF rfl rfl rfl (x_pickT (hF.tmp 34 rfl) rfl (hF.tmp 40 rfl)) ?_; clear hF; intro a hF
 refine l_at hF rfl rfl rfl (x_move (hF.tmp 41 rfl)) ?_; clear hF; intro a hF
 refine wpList_on ((wanted_of hF rfl rfl rfl rfl).trans rfl) fun K hK => ?_
 refine w_call hF (x_enter Tryd.func24 (by kernel_rfl) rfl (by simp only [List.map_toArray, List.map_cons, List.map_nil] <;> rfl)) (mark_calls (xs := [99]) _ (by decide)) rfl rfl ?_
 rintro _ w ⟨rfl, hm_⟩; refine ⟨_, rfl, ?_⟩; clear hF; intro a hF; have hH := hH.same hm_
 refine hK _ _ ?_; clear hK K
 refine l_atg hF ((wanted_of hF rfl rfl rfl rfl).trans rfl) rfl rfl (x_eqn (xs := ([64] ++ [99])) (ys := ([64, 99] : List Int)) (hF.tmp 43 rfl) (show _ = Value.string (strOfNums ([64, 99] : List Int)) by kernel_rfl) (byte_c [64, 99] (by decide)) (byte_c [64, 99] (by decide))) ?_; clear hF; intro a hF
 rw [show decide (([64] ++ [99] : List Int) = [64, 99]) = true from decide_eq_true rfl] at hF
 refine l_at hF rfl rfl rfl (x_pickT (hF.tmp 42 rfl) rfl (hF.tmp 44 rfl)) ?_; clear hF; intro a hF
 refine l_at hF rfl rfl rfl (x_assign (hF.tmp 45 rfl)) ?_; clear hF; intro a hF
 refine wpList_nil ?_
 refine hK5 _ _ ?_
 refine wp_ret ?_
 try simp only [Exit.then, Exit.inBlock]
 exact fin_ret hF (res1 (v := .bool true) hF rfl rfl) ⟨rfl, hH.mods⟩
end Go.Proofs.YtiiklnghnifmjaaDoor.Act
