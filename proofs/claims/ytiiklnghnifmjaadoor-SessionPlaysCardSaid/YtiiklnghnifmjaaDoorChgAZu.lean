/- The walks of changes. -/
import Derived.Test.YtiiklnghnifmjaaDoorActAZu
import Derived.Test.YtiiklnghnifmjaaDoorMsgDZu
import Derived.Test.YtiiklnghnifmjaaDoorBunZu
set_option linter.unusedVariables false
set_option linter.unusedSimpArgs false
namespace Go.Proofs.YtiiklnghnifmjaaDoor.Act
open Go.RowKit Go.Proofs.YtiiklnghnifmjaaDoor.Sx Go.Proofs.YtiiklnghnifmjaaDoor.Cod Go.Proofs.YtiiklnghnifmjaaDoor.Num
theorem ty34 : TyI Tryd.prog 34 (.int .u64 0) 1 8 false := ⟨by kernel_rfl, _, Tryd.underlying34, rfl⟩
theorem ty36 : TyI Tryd.prog 36 (.int .i64 0) 1 8 false := ⟨by kernel_rfl, _, Tryd.underlying36, rfl⟩
theorem ty37 : TyI Tryd.prog 37 (.slice none 0 0) 1 24 false := ⟨by kernel_rfl, _, Tryd.underlying37, rfl⟩
theorem ty39 : TyI Tryd.prog 39 (.agg #[.string (strOfNums []), .int .i64 0, .int .u64 0, .int .u64 0, .slice none 0 0]) 5 64 true := ⟨by kernel_rfl, _, Tryd.underlying39, rfl⟩
theorem ty41 : TyI Tryd.prog 41 (.agg #[.int .i64 0, .string (strOfNums []), .string (strOfNums []), .string (strOfNums []), .int .i64 0, .int .u64 0, .int .u64 0, .slice none 0 0]) 8 104 true := ⟨by kernel_rfl, _, Tryd.underlying41, rfl⟩
theorem bI_calls (w0 : World) {n : Int} (hn : U64 n) : Calls Tryd.prog 14 #[.int .u64 n] w0 fun e w' => ∃ v, e = .returned v ∧ Mods (fun _ => False) w0 w' ∧ RowOut (.int .u8) 5 w0 w' v (bI n) := by
 have h := bytes_calls w0 n.toNat (by unfold U64 at hn; omega)
 rwa [show ((n.toNat : Nat) : Int) = n by unfold U64 at hn; omega] at h
set_option maxRecDepth 100000 in
set_option maxHeartbeats 1000000 in
theorem bare_calls (w0 : World) {t : TimerD} {okt0 : Nat → Prop} {At0 : Option Addr} {ct0 : Nat} (hrt0 : Rd StE w0 okt0 At0 t.steps ct0) : Calls Tryd.prog 77 #[.agg #[.string (strOfNums t.name), .int .i64 t.ver, .int .u64 t.tick, .int .u64 t.every, .slice At0 t.steps.length ct0]] w0 fun e w' => e = .returned (.bool (bareT t)) ∧ Mods (fun _ => False) w0 w' := by
 refine calls_of_wp Tryd.func77 rfl ?_
 have hF := Fr.enter #[.agg #[.string (strOfNums t.name), .int .i64 t.ver, .int .u64 t.tick, .int .u64 t.every, .slice At0 t.steps.length ct0]] 27 (slotsOf [.agg #[.string (strOfNums t.name), .int .i64 t.ver, .int .u64 t.tick, .int .u64 t.every, .slice At0 t.steps.length ct0]] 0) (Nat.le_of_ble_eq_true rfl) (fun i v h => by have h2 := (get_slotsOf _ 0 i v h).2; simpa only [List.getElem?_toArray, Nat.sub_zero] using h2)
 have hH := Hp.nil (fun _ => False) w0
 rw [Tryd.ntmps77]
 revert hF; generalize (⟨(#[.agg #[.string (strOfNums t.name), .int .i64 t.ver, .int .u64 t.tick, .int .u64 t.every, .slice At0 t.steps.length ct0]] : Array Value) ++ Array.replicate (27 - (#[.agg #[.string (strOfNums t.name), .int .i64 t.ver, .int .u64 t.tick, .int .u64 t.every, .slice At0 t.steps.length ct0]] : Array Value).size) undef, []⟩ : Act) = a; intro hF
 have hH := hH.arg 900 hrt0.all (fun _ h => ⟨h, fun h => h⟩)
 have hlet0 := hrt0.le; unfold maxLen at hlet0
 refine wp_seq_k fun khK1 hK1 => ?_
 refine wp_region_lit ?_
 refine wpList_plain rfl fun K hK => ?_
 refine w_box 1 hF hH rfl (hF.tmp 0 rfl) ?_
 clear hF hH; intro a w b1 hF hH
 refine hK _ _ ?_; clear hK K
 refine l_at hF rfl rfl rfl (x_assign rfl) ?_; clear hF; intro a hF
 refine wpList_nil ?_
 refine hK1 _ _ ?_
 refine wp_seq_k fun khK2 hK2 => ?_
 refine wp_region_lit ?_
 refine l_at hF rfl rfl rfl (x_faddr Tryd.underlying39 rfl ty9 (by decide) (hF.tmp 1 rfl) rfl) ?_; clear hF; intro a hF
 refine l_at hF rfl rfl rfl (x_load1 ty9 (hF.tmp 3 rfl) (blk_cell (hH.at 1 rfl) 0 rfl)) ?_; clear hF; intro a hF
 refine l_at hF rfl rfl rfl (x_eqn0 (xs := t.name) (hF.tmp 4 rfl) (show _ = Value.string (strOfNums ([] : List Int)) by kernel_rfl)) ?_; clear hF; intro a hF
 refine l_at hF rfl rfl rfl (x_move (hF.tmp 5 rfl)) ?_; clear hF; intro a hF
 refine split_bool hF 6 rfl (fun hb6 => ?_) (fun hb6 => ?_)
 ·have hc6 := hb6; try simp only [Bool.or_eq_true, Bool.and_eq_true, Bool.or_eq_false_iff, Bool.and_eq_false_iff, Bool.not_eq_true', Bool.not_eq_false', decide_eq_true_eq, decide_eq_false_iff_not, Bool.not_true, Bool.not_false] at hc6
  refine l_atg hF ((wanted_of hF rfl rfl rfl rfl).trans (by rw [hb6]; rfl)) rfl rfl (x_faddr Tryd.underlying39 rfl ty3 (by decide) (hF.tmp 1 rfl) rfl) ?_; clear hF; intro a hF
  refine l_atg hF ((wanted_of hF rfl rfl rfl rfl).trans (by rw [hb6]; rfl)) rfl rfl (x_load1 ty3 (hF.tmp 7 rfl) (blk_cell (hH.at 1 rfl) 1 rfl)) ?_; clear hF; intro a hF
  refine l_atg hF ((wanted_of hF rfl rfl rfl rfl).trans (by rw [hb6]; rfl)) rfl rfl (x_eql (hF.tmp 8 rfl) rfl) ?_; clear hF; intro a hF
  refine l_at hF rfl rfl rfl (x_pickT (hF.tmp 6 rfl) hb6 (hF.tmp 9 rfl)) ?_; clear hF; intro a hF
  refine l_at hF rfl rfl rfl (x_move (hF.tmp 10 rfl)) ?_; clear hF; intro a hF
  refine split_bool hF 11 rfl (fun hb11 => ?_) (fun hb11 => ?_)
  ·have hc11 := hb11; try simp only [Bool.or_eq_true, Bool.and_eq_true, Bool.or_eq_false_iff, Bool.and_eq_false_iff, Bool.not_eq_true', Bool.not_eq_false', decide_eq_true_eq, decide_eq_false_iff_not, Bool.not_true, Bool.not_false] at hc11
   refine l_atg hF ((wanted_of hF rfl rfl rfl rfl).trans (by rw [hb11]; rfl)) rfl rfl (x_faddr Tryd.underlying39 rfl ty34 (by decide) (hF.tmp 1 rfl) rfl) ?_; clear hF; intro a hF
   refine l_atg hF ((wanted_of hF rfl rfl rfl rfl).trans (by rw [hb11]; rfl)) rfl rfl (x_load1 ty34 (hF.tmp 12 rfl) (blk_cell (hH.at 1 rfl) 2 rfl)) ?_; clear hF; intro a hF
   refine l_atg hF ((wanted_of hF rfl rfl rfl rfl).trans (by rw [hb11]; rfl)) rfl rfl (x_eql (hF.tmp 13 rfl) rfl) ?_; clear hF; intro a hF
   refine l_at hF rfl rfl rfl (x_pickT (hF.tmp 11 rfl) hb11 (hF.tmp 14 rfl)) ?_; clear hF; intro a hF
   refine l_at hF rfl rfl rfl (x_move (hF.tmp 15 rfl)) ?_; clear hF; intro a hF
   refine split_bool hF 16 rfl (fun hb16 => ?_) (fun hb16 => ?_)
   ·have hc16 := hb16; try simp only [Bool.or_eq_true, Bool.and_eq_true, Bool.or_eq_false_iff, Bool.and_eq_false_iff, Bool.not_eq_true', Bool.not_eq_false', decide_eq_true_eq, decide_eq_false_iff_not, Bool.not_true, Bool.not_false] at hc16
    refine l_atg hF ((wanted_of hF rfl rfl rfl rfl).trans (by rw [hb16]; rfl)) rfl rfl (x_faddr Tryd.underlying39 rfl ty34 (by decide) (hF.tmp 1 rfl) rfl) ?_; clear hF; intro a hF
    refine l_atg hF ((wanted_of hF rfl rfl rfl rfl).trans (by rw [hb16]; rfl)) rfl rfl (x_load1 ty34 (hF.tmp 17 rfl) (blk_cell (hH.at 1 rfl) 3 rfl)) ?_; clear hF; intro a hF
    refine l_atg hF ((wanted_of hF rfl rfl rfl rfl).trans (by rw [hb16]; rfl)) rfl rfl (x_eql (hF.tmp 18 rfl) rfl) ?_; clear hF; intro a hF
    refine l_at hF rfl rfl rfl (x_pickT (hF.tmp 16 rfl) hb16 (hF.tmp 19 rfl)) ?_; clear hF; intro a hF
    refine l_at hF rfl rfl rfl (x_move (hF.tmp 20 rfl)) ?_; clear hF; intro a hF
    refine split_bool hF 21 rfl (fun hb21 => ?_) (fun hb21 => ?_)
    ·have hc21 := hb21; try simp only [Bool.or_eq_true, Bool.and_eq_true, Bool.or_eq_false_iff, Bool.and_eq_false_iff, Bool.not_eq_true', Bool.not_eq_false', decide_eq_true_eq, decide_eq_false_iff_not, Bool.not_true, Bool.not_false] at hc21
     refine l_atg hF ((wanted_of hF rfl rfl rfl rfl).trans (by rw [hb21]; rfl)) rfl rfl (x_faddr Tryd.underlying39 rfl ty37 (by decide) (hF.tmp 1 rfl) rfl) ?_; clear hF; intro a hF
     refine l_atg hF ((wanted_of hF rfl rfl rfl rfl).trans (by rw [hb21]; rfl)) rfl rfl (x_load1 ty37 (hF.tmp 22 rfl) (blk_cell (hH.at 1 rfl) 4 rfl)) ?_; clear hF; intro a hF
     refine l_atg hF ((wanted_of hF rfl rfl rfl rfl).trans (by rw [hb21]; rfl)) rfl rfl (x_len_slice Tryd.underlying37 (hF.tmp 23 rfl)) ?_; clear hF; intro a hF
     refine l_atg hF ((wanted_of hF rfl rfl rfl rfl).trans (by rw [hb21]; rfl)) rfl rfl (x_eql (hF.tmp 24 rfl) rfl) ?_; clear hF; intro a hF
     refine l_at hF rfl rfl rfl (x_pickT (hF.tmp 21 rfl) hb21 (hF.tmp 25 rfl)) ?_; clear hF; intro a hF
     refine l_at hF rfl rfl rfl (x_assign (hF.tmp 26 rfl)) ?_; clear hF; intro a hF
     refine wpList_nil ?_
     refine hK2 _ _ ?_
     refine wp_ret ?_
     try simp only [Exit.then, Exit.inBlock]
     refine fin_ret hF (res1 (v := .bool (decide ((t.steps.length : Int) = 0))) hF rfl rfl) ⟨?_, hH.mods⟩
     congr 2; unfold bareT; first | (simp [hc6, hc11, hc16, hc21]; done) | (simp [hc6, hc11, hc16, hc21]; omega) | (simp [hc6, hc11, hc16, hc21]; intros; omega) | (rw [Bool.eq_iff_iff]; simp [hc6, hc11, hc16, hc21]; first | omega | (intros; omega))
    ·have hc21 := hb21; try simp only [Bool.or_eq_true, Bool.and_eq_true, Bool.or_eq_false_iff, Bool.and_eq_false_iff, Bool.not_eq_true', Bool.not_eq_false', decide_eq_true_eq, decide_eq_false_iff_not, Bool.not_true, Bool.not_false] at hc21
     refine l_offg hF ((wanted_of hF rfl rfl rfl rfl).trans (by rw [hb21]; rfl)) rfl rfl ?_; clear hF; intro a hF
     refine l_offg hF ((wanted_of hF rfl rfl rfl rfl).trans (by rw [hb21]; rfl)) rfl rfl ?_; clear hF; intro a hF
     refine l_offg hF ((wanted_of hF rfl rfl rfl rfl).trans (by rw [hb21]; rfl)) rfl rfl ?_; clear hF; intro a hF
     refine l_offg hF ((wanted_of hF rfl rfl rfl rfl).trans (by rw [hb21]; rfl)) rfl rfl ?_; clear hF; intro a hF
     refine l_at hF rfl rfl rfl (x_pickF (hF.tmp 21 rfl) hb21 rfl) ?_; clear hF; intro a hF
     refine l_at hF rfl rfl rfl (x_assign (hF.tmp 26 rfl)) ?_; clear hF; intro a hF
     refine wpList_nil ?_
     refine hK2 _ _ ?_
     refine wp_ret ?_
     try simp only [Exit.then, Exit.inBlock]
     refine fin_ret hF (res1 (v := .bool false) hF rfl rfl) ⟨?_, hH.mods⟩
     congr 2; unfold bareT; first | (simp [hc6, hc11, hc16, hc21]; done) | (simp [hc6, hc11, hc16, hc21]; omega) | (simp [hc6, hc11, hc16, hc21]; intros; omega) | (rw [Bool.eq_iff_iff]; simp [hc6, hc11, hc16, hc21]; first | omega | (intros; omega))
   ·have hc16 := hb16; try simp only [Bool.or_eq_true, Bool.and_eq_true, Bool.or_eq_false_iff, Bool.and_eq_false_iff, Bool.not_eq_true', Bool.not_eq_false', decide_eq_true_eq, decide_eq_false_iff_not, Bool.not_true, Bool.not_false] at hc16
    refine l_offg hF ((wanted_of hF rfl rfl rfl rfl).trans (by rw [hb16]; rfl)) rfl rfl ?_; clear hF; intro a hF
    refine l_offg hF ((wanted_of hF rfl rfl rfl rfl).trans (by rw [hb16]; rfl)) rfl rfl ?_; clear hF; intro a hF
    refine l_offg hF ((wanted_of hF rfl rfl rfl rfl).trans (by rw [hb16]; rfl)) rfl rfl ?_; clear hF; intro a hF
    refine l_at hF rfl rfl rfl (x_pickF (hF.tmp 16 rfl) hb16 rfl) ?_; clear hF; intro a hF
    refine l_at hF rfl rfl rfl (x_move (hF.tmp 20 rfl)) ?_; clear hF; intro a hF
    refine l_offg hF ((wanted_of hF rfl rfl rfl rfl).trans rfl) rfl rfl ?_; clear hF; intro a hF
    refine l_offg hF ((wanted_of hF rfl rfl rfl rfl).trans rfl) rfl rfl ?_; clear hF; intro a hF
    refine l_offg hF ((wanted_of hF rfl rfl rfl rfl).trans rfl) rfl rfl ?_; clear hF; intro a hF
    refine l_offg hF ((wanted_of hF rfl rfl rfl rfl).trans rfl) rfl rfl ?_; clear hF; intro a hF
    refine l_at hF rfl rfl rfl (x_pickF (hF.tmp 21 rfl) rfl rfl) ?_; clear hF; intro a hF
    refine l_at hF rfl rfl rfl (x_assign (hF.tmp 26 rfl)) ?_; clear hF; intro a hF
    refine wpList_nil ?_
    refine hK2 _ _ ?_
    refine wp_ret ?_
    try simp only [Exit.then, Exit.inBlock]
    refine fin_ret hF (res1 (v := .bool false) hF rfl rfl) ⟨?_, hH.mods⟩
    congr 2; unfold bareT; first | (simp [hc6, hc11, hc16]; done) | (simp [hc6, hc11, hc16]; omega) | (simp [hc6, hc11, hc16]; intros; omega) | (rw [Bool.eq_iff_iff]; simp [hc6, hc11, hc16]; first | omega | (intros; omega))
  ·have hc11 := hb11; try simp only [Bool.or_eq_true, Bool.and_eq_true, Bool.or_eq_false_iff, Bool.and_eq_false_iff, Bool.not_eq_true', Bool.not_eq_false', decide_eq_true_eq, decide_eq_false_iff_not, Bool.not_true, Bool.not_false] at hc11
   refine l_offg hF ((wanted_of hF rfl rfl rfl rfl).trans (by rw [hb11]; rfl)) rfl rfl ?_; clear hF; intro a hF
   refine l_offg hF ((wanted_of hF rfl rfl rfl rfl).trans (by rw [hb11]; rfl)) rfl rfl ?_; clear hF; intro a hF
   refine l_offg hF ((wanted_of hF rfl rfl rfl rfl).trans (by rw [hb11]; rfl)) rfl rfl ?_; clear hF; intro a hF
   refine l_at hF rfl rfl rfl (x_pickF (hF.tmp 11 rfl) hb11 rfl) ?_; clear hF; intro a hF
   refine l_at hF rfl rfl rfl (x_move (hF.tmp 15 rfl)) ?_; clear hF; intro a hF
   refine l_offg hF ((wanted_of hF rfl rfl rfl rfl).trans rfl) rfl rfl ?_; clear hF; intro a hF
   refine l_offg hF ((wanted_of hF rfl rfl rfl rfl).trans rfl) rfl rfl ?_; clear hF; intro a hF
   refine l_offg hF ((wanted_of hF rfl rfl rfl rfl).trans rfl) rfl rfl ?_; clear hF; intro a hF
   refine l_at hF rfl rfl rfl (x_pickF (hF.tmp 16 rfl) rfl rfl) ?_; clear hF; intro a hF
   refine l_at hF rfl rfl rfl (x_move (hF.tmp 20 rfl)) ?_; clear hF; intro a hF
   refine l_offg hF ((wanted_of hF rfl rfl rfl rfl).trans rfl) rfl rfl ?_; clear hF; intro a hF
   refine l_offg hF ((wanted_of hF rfl rfl rfl rfl).trans rfl) rfl rfl ?_; clear hF; intro a hF
   refine l_offg hF ((wanted_of hF rfl rfl rfl rfl).trans rfl) rfl rfl ?_; clear hF; intro a hF
   refine l_offg hF ((wanted_of hF rfl rfl rfl rfl).trans rfl) rfl rfl ?_; clear hF; intro a hF
   refine l_at hF rfl rfl rfl (x_pickF (hF.tmp 21 rfl) rfl rfl) ?_; clear hF; intro a hF
   refine l_at hF rfl rfl rfl (x_assign (hF.tmp 26 rfl)) ?_; clear hF; intro a hF
   refine wpList_nil ?_
   refine hK2 _ _ ?_
   refine wp_ret ?_
   try simp only [Exit.then, Exit.inBlock]
   refine fin_ret hF (res1 (v := .bool false) hF rfl rfl) ⟨?_, hH.mods⟩
   congr 2; unfold bareT; first | (simp [hc6, hc11]; done) | (simp [hc6, hc11]; omega) | (simp [hc6, hc11]; intros; omega) | (rw [Bool.eq_iff_iff]; simp [hc6, hc11]; first | omega | (intros; omega))
 ·have hc6 := hb6; try simp only [Bool.or_eq_true, Bool.and_eq_true, Bool.or_eq_false_iff, Bool.and_eq_false_iff, Bool.not_eq_true', Bool.not_eq_false', decide_eq_true_eq, decide_eq_false_iff_not, Bool.not_true, Bool.not_false] at hc6
  refine l_offg hF ((wanted_of hF rfl rfl rfl rfl).trans (by rw [hb6]; rfl)) rfl rfl ?_; clear hF; intro a hF
  refine l_offg hF ((wanted_of hF rfl rfl rfl rfl).trans (by rw [hb6]; rfl)) rfl rfl ?_; clear hF; intro a hF
  refine l_offg hF ((wanted_of hF rfl rfl rfl rfl).trans (by rw [hb6]; rfl)) rfl rfl ?_; clear hF; intro a hF
  refine l_at hF rfl rfl rfl (x_pickF (hF.tmp 6 rfl) hb6 rfl) ?_; clear hF; intro a hF
  refine l_at hF rfl rfl rfl (x_move (hF.tmp 10 rfl)) ?_; clear hF; intro a hF
  refine l_offg hF ((wanted_of hF rfl rfl rfl rfl).trans rfl) rfl rfl ?_; clear hF; intro a hF
  refine l_offg hF ((wanted_of hF rfl rfl rfl rfl).trans rfl) rfl rfl ?_; clear hF; intro a hF
  refine l_offg hF ((wanted_of hF rfl rfl rfl rfl).trans rfl) rfl rfl ?_; clear hF; intro a hF
  refine l_at hF rfl rfl rfl (x_pickF (hF.tmp 11 rfl) rfl rfl) ?_; clear hF; intro a hF
  refine l_at hF rfl rfl rfl (x_move (hF.tmp 15 rfl)) ?_; clear hF; intro a hF
  refine l_offg hF ((wanted_of hF rfl rfl rfl rfl).trans rfl) rfl rfl ?_; clear hF; intro a hF
  refine l_offg hF ((wanted_of hF rfl rfl rfl rfl).trans rfl) rfl rfl ?_; clear hF; intro a hF
  refine l_offg hF ((wanted_of hF rfl rfl rfl rfl).trans rfl) rfl rfl ?_; clear hF; intro a hF
  refine l_at hF rfl rfl rfl (x_pickF (hF.tmp 16 rfl) rfl rfl) ?_; clear hF; intro a hF
  refine l_at hF rfl rfl rfl (x_move (hF.tmp 20 rfl)) ?_; clear hF; intro a hF
  refine l_offg hF ((wanted_of hF rfl rfl rfl rfl).trans rfl) rfl rfl ?_; clear hF; intro a hF
  refine l_offg hF ((wanted_of hF rfl rfl rfl rfl).trans rfl) rfl rfl ?_; clear hF; intro a hF
  refine l_offg hF ((wanted_of hF rfl rfl rfl rfl).trans rfl) rfl rfl ?_; clear hF; intro a hF
  refine l_offg hF ((wanted_of hF rfl rfl rfl rfl).trans rfl) rfl rfl ?_; clear hF; intro a hF
  refine l_at hF rfl rfl rfl (x_pickF (hF.tmp 21 rfl) rfl rfl) ?_; clear hF; intro a hF
  refine l_at hF rfl rfl rfl (x_assign (hF.tmp 26 rfl)) ?_; clear hF; intro a hF
  refine wpList_nil ?_
  refine hK2 _ _ ?_
  refine wp_ret ?_
  try simp only [Exit.then, Exit.inBlock]
  refine fin_ret hF (res1 (v := .bool false) hF rfl rfl) ⟨?_, hH.mods⟩
  congr 2; unfold bareT; first | (simp [hc6]; done) | (simp [hc6]; omega) | (simp [hc6]; intros; omega) | (rw [Bool.eq_iff_iff]; simp [hc6]; first | omega | (intros; omega))
set_option maxRecDepth 100000 in
set_option maxHeartbeats 1000000 in
theorem rightT_calls (w0 : World) {pp : Bool} (hL : LibAt pp w0) {t : TimerD} {okt0 : Nat → Prop} {At0 : Option Addr} {ct0 : Nat} (hrt0 : Rd StE w0 okt0 At0 t.steps ct0) (hb : TimerB t) : Calls Tryd.prog 60 #[.agg #[.string (strOfNums t.name), .int .i64 t.ver, .int .u64 t.tick, .int .u64 t.every, .slice At0 t.steps.length ct0]] w0 fun e w' => e = .returned (.bool (rightT t)) ∧ Mods (fun _ => False) w0 w' := by
 refine calls_of_wp Tryd.func60 rfl ?_
 have hF := Fr.enter #[.agg #[.string (strOfNums t.name), .int .i64 t.ver, .int .u64 t.tick, .int .u64 t.every, .slice At0 t.steps.length ct0]] 44 (slotsOf [.agg #[.string (strOfNums t.name), .int .i64 t.ver, .int .u64 t.tick, .int .u64 t.every, .slice At0 t.steps.length ct0]] 0) (Nat.le_of_ble_eq_true rfl) (fun i v h => by have h2 := (get_slotsOf _ 0 i v h).2; simpa only [List.getElem?_toArray, Nat.sub_zero] using h2)
 have hH := Hp.nil (fun _ => False) w0
 rw [Tryd.ntmps60]
 revert hF; generalize (⟨(#[.agg #[.string (strOfNums t.name), .int .i64 t.ver, .int .u64 t.tick, .int .u64 t.every, .slice At0 t.steps.length ct0]] : Array Value) ++ Array.replicate (44 - (#[.agg #[.string (strOfNums t.name), .int .i64 t.ver, .int .u64 t.tick, .int .u64 t.every, .slice At0 t.steps.length ct0]] : Array Value).size) undef, []⟩ : Act) = a; intro hF
 have hH := hH.arg 900 hrt0.all (fun _ h => ⟨h, fun h => h⟩)
 have hlet0 := hrt0.le; unfold maxLen at hlet0
 have hH := hH.libN 990 hL
 refine wp_seq_k fun khK1 hK1 => ?_
 refine wp_region_lit ?_
 refine wpList_plain rfl fun K hK => ?_
 refine w_box 1 hF hH rfl (hF.tmp 0 rfl) ?_
 clear hF hH; intro a w b1 hF hH
 refine hK _ _ ?_; clear hK K
 refine l_at hF rfl rfl rfl (x_assign rfl) ?_; clear hF; intro a hF
 refine wpList_nil ?_
 refine hK1 _ _ ?_
 refine wp_seq_k fun khK2 hK2 => ?_
 refine wp_region_lit ?_
 refine l_at hF rfl rfl rfl (x_faddr Tryd.underlying39 rfl ty37 (by decide) (hF.tmp 1 rfl) rfl) ?_; clear hF; intro a hF
 refine l_at hF rfl rfl rfl (x_load1 ty37 (hF.tmp 6 rfl) (blk_cell (hH.at 1 rfl) 4 rfl)) ?_; clear hF; intro a hF
 refine wpList_plain rfl fun K hK => ?_
 refine w_call hF (x_enter Tryd.func47 (by kernel_rfl) rfl (by simp only [List.map_toArray, List.map_cons, List.map_nil, hF.tmp 7 rfl] <;> rfl)) (aenc_calls _ (hH.holds 990 _ rfl) ((hH.rd 900 rfl)) hb.steps) rfl rfl ?_
 rintro _ w ⟨vr9, rfl, hm_, hr_⟩; refine ⟨_, rfl, ?_⟩; clear hF; intro a hF; have hH := Hp.rowOut hH 9 hm_ hr_; obtain ⟨Ar9, cr9, rfl⟩ := (hH.row 9 rfl).form
 refine hK _ _ ?_; clear hK K
 refine l_at hF rfl rfl rfl (x_move (hF.tmp 8 rfl)) ?_; clear hF; intro a hF
 refine l_at hF rfl rfl rfl (x_extract (hF.tmp 5 rfl) rfl) ?_; clear hF; intro a hF
 refine l_at hF rfl rfl rfl (x_extract (hF.tmp 5 rfl) rfl) ?_; clear hF; intro a hF
 refine l_at hF rfl rfl rfl (x_assign (hF.tmp 9 rfl)) ?_; clear hF; intro a hF
 refine l_at hF rfl rfl rfl (x_assign (hF.tmp 10 rfl)) ?_; clear hF; intro a hF
 refine wpList_nil ?_
 refine hK2 _ _ ?_
 refine wp_seq_k fun khK3 hK3 => ?_
 refine wp_region_lit ?_
 refine l_at hF rfl rfl rfl (x_move (hF.tmp 4 rfl)) ?_; clear hF; intro a hF
 refine l_at hF rfl rfl rfl (x_eql (hF.tmp 11 rfl) rfl) ?_; clear hF; intro a hF
 refine l_at hF rfl rfl rfl (x_move (hF.tmp 12 rfl)) ?_; clear hF; intro a hF
 refine split_bool hF 13 rfl (fun hb13 => ?_) (fun hb13 => ?_)
 ·have hc13 := hb13; try simp only [Bool.or_eq_true, Bool.and_eq_true, Bool.or_eq_false_iff, Bool.and_eq_false_iff, Bool.not_eq_true', Bool.not_eq_false', decide_eq_true_eq, decide_eq_false_iff_not, Bool.not_true, Bool.not_false] at hc13
  refine l_atg hF ((wanted_of hF rfl rfl rfl rfl).trans (by rw [hb13]; rfl)) rfl rfl (x_faddr Tryd.underlying39 rfl ty9 (by decide) (hF.tmp 1 rfl) rfl) ?_; clear hF; intro a hF
  refine l_atg hF ((wanted_of hF rfl rfl rfl rfl).trans (by rw [hb13]; rfl)) rfl rfl (x_load1 ty9 (hF.tmp 14 rfl) (blk_cell (hH.at 1 rfl) 0 rfl)) ?_; clear hF; intro a hF
  refine l_atg hF ((wanted_of hF rfl rfl rfl rfl).trans (by rw [hb13]; rfl)) rfl rfl (x_nen0 (xs := t.name) (hF.tmp 15 rfl) (show _ = Value.string (strOfNums ([] : List Int)) by kernel_rfl)) ?_; clear hF; intro a hF
  refine l_at hF rfl rfl rfl (x_pickT (hF.tmp 13 rfl) hb13 (hF.tmp 16 rfl)) ?_; clear hF; intro a hF
  refine l_at hF rfl rfl rfl (x_move (hF.tmp 17 rfl)) ?_; clear hF; intro a hF
  refine split_bool hF 18 rfl (fun hb18 => ?_) (fun hb18 => ?_)
  ·have hc18 := hb18; try simp only [Bool.or_eq_true, Bool.and_eq_true, Bool.or_eq_false_iff, Bool.and_eq_false_iff, Bool.not_eq_true', Bool.not_eq_false', decide_eq_true_eq, decide_eq_false_iff_not, Bool.not_true, Bool.not_false] at hc18
   refine l_atg hF ((wanted_of hF rfl rfl rfl rfl).trans (by rw [hb18]; rfl)) rfl rfl (x_faddr Tryd.underlying39 rfl ty9 (by decide) (hF.tmp 1 rfl) rfl) ?_; clear hF; intro a hF
   refine l_atg hF ((wanted_of hF rfl rfl rfl rfl).trans (by rw [hb18]; rfl)) rfl rfl (x_load1 ty9 (hF.tmp 19 rfl) (blk_cell (hH.at 1 rfl) 0 rfl)) ?_; clear hF; intro a hF
   refine l_atg hF ((wanted_of hF rfl rfl rfl rfl).trans (by rw [hb18]; rfl)) rfl rfl (x_len_sn (xs := t.name) Tryd.underlying9 (hF.tmp 20 rfl)) ?_; clear hF; intro a hF
   refine l_atg hF ((wanted_of hF rfl rfl rfl rfl).trans (by rw [hb18]; rfl)) rfl rfl (x_leq (hF.tmp 21 rfl) rfl) ?_; clear hF; intro a hF
   refine l_at hF rfl rfl rfl (x_pickT (hF.tmp 18 rfl) hb18 (hF.tmp 22 rfl)) ?_; clear hF; intro a hF
   refine l_at hF rfl rfl rfl (x_move (hF.tmp 23 rfl)) ?_; clear hF; intro a hF
   refine split_bool hF 24 rfl (fun hb24 => ?_) (fun hb24 => ?_)
   ·have hc24 := hb24; try simp only [Bool.or_eq_true, Bool.and_eq_true, Bool.or_eq_false_iff, Bool.and_eq_false_iff, Bool.not_eq_true', Bool.not_eq_false', decide_eq_true_eq, decide_eq_false_iff_not, Bool.not_true, Bool.not_false] at hc24
    refine l_atg hF ((wanted_of hF rfl rfl rfl rfl).trans (by rw [hb24]; rfl)) rfl rfl (x_faddr Tryd.underlying39 rfl ty3 (by decide) (hF.tmp 1 rfl) rfl) ?_; clear hF; intro a hF
    refine l_atg hF ((wanted_of hF rfl rfl rfl rfl).trans (by rw [hb24]; rfl)) rfl rfl (x_load1 ty3 (hF.tmp 25 rfl) (blk_cell (hH.at 1 rfl) 1 rfl)) ?_; clear hF; intro a hF
    refine l_atg hF ((wanted_of hF rfl rfl rfl rfl).trans (by rw [hb24]; rfl)) rfl rfl (x_geq (hF.tmp 26 rfl) rfl) ?_; clear hF; intro a hF
    refine l_at hF rfl rfl rfl (x_pickT (hF.tmp 24 rfl) hb24 (hF.tmp 27 rfl)) ?_; clear hF; intro a hF
    refine l_at hF rfl rfl rfl (x_move (hF.tmp 28 rfl)) ?_; clear hF; intro a hF
    refine split_bool hF 29 rfl (fun hb29 => ?_) (fun hb29 => ?_)
    ·have hc29 := hb29; try simp only [Bool.or_eq_true, Bool.and_eq_true, Bool.or_eq_false_iff, Bool.and_eq_false_iff, Bool.not_eq_true', Bool.not_eq_false', decide_eq_true_eq, decide_eq_false_iff_not, Bool.not_true, Bool.not_false] at hc29
     refine l_atg hF ((wanted_of hF rfl rfl rfl rfl).trans (by rw [hb29]; rfl)) rfl rfl (x_faddr Tryd.underlying39 rfl ty3 (by decide) (hF.tmp 1 rfl) rfl) ?_; clear hF; intro a hF
     refine l_atg hF ((wanted_of hF rfl rfl rfl rfl).trans (by rw [hb29]; rfl)) rfl rfl (x_load1 ty3 (hF.tmp 30 rfl) (blk_cell (hH.at 1 rfl) 1 rfl)) ?_; clear hF; intro a hF
     refine l_atg hF ((wanted_of hF rfl rfl rfl rfl).trans (by rw [hb29]; rfl)) rfl rfl (x_leq (hF.tmp 31 rfl) rfl) ?_; clear hF; intro a hF
     refine l_at hF rfl rfl rfl (x_pickT (hF.tmp 29 rfl) hb29 (hF.tmp 32 rfl)) ?_; clear hF; intro a hF
     refine l_at hF rfl rfl rfl (x_move (hF.tmp 33 rfl)) ?_; clear hF; intro a hF
     refine split_bool hF 34 rfl (fun hb34 => ?_) (fun hb34 => ?_)
     ·have hc34 := hb34; try simp only [Bool.or_eq_true, Bool.and_eq_true, Bool.or_eq_false_iff, Bool.and_eq_false_iff, Bool.not_eq_true', Bool.not_eq_false', decide_eq_true_eq, decide_eq_false_iff_not, Bool.not_true, Bool.not_false] at hc34
      refine l_atg hF ((wanted_of hF rfl rfl rfl rfl).trans (by rw [hb34]; rfl)) rfl rfl (x_faddr Tryd.underlying39 rfl ty34 (by decide) (hF.tmp 1 rfl) rfl) ?_; clear hF; intro a hF
      refine l_atg hF ((wanted_of hF rfl rfl rfl rfl).trans (by rw [hb34]; rfl)) rfl rfl (x_load1 ty34 (hF.tmp 35 rfl) (blk_cell (hH.at 1 rfl) 2 rfl)) ?_; clear hF; intro a hF
      refine l_atg hF ((wanted_of hF rfl rfl rfl rfl).trans (by rw [hb34]; rfl)) rfl rfl (x_leq (hF.tmp 36 rfl) rfl) ?_; clear hF; intro a hF
      refine l_at hF rfl rfl rfl (x_pickT (hF.tmp 34 rfl) hb34 (hF.tmp 37 rfl)) ?_; clear hF; intro a hF
      refine l_at hF rfl rfl rfl (x_move (hF.tmp 38 rfl)) ?_; clear hF; intro a hF
      refine split_bool hF 39 rfl (fun hb39 => ?_) (fun hb39 => ?_)
      ·have hc39 := hb39; try simp only [Bool.or_eq_true, Bool.and_eq_true, Bool.or_eq_false_iff, Bool.and_eq_false_iff, Bool.not_eq_true', Bool.not_eq_false', decide_eq_true_eq, decide_eq_false_iff_not, Bool.not_true, Bool.not_false] at hc39
       refine l_atg hF ((wanted_of hF rfl rfl rfl rfl).trans (by rw [hb39]; rfl)) rfl rfl (x_faddr Tryd.underlying39 rfl ty34 (by decide) (hF.tmp 1 rfl) rfl) ?_; clear hF; intro a hF
       refine l_atg hF ((wanted_of hF rfl rfl rfl rfl).trans (by rw [hb39]; rfl)) rfl rfl (x_load1 ty34 (hF.tmp 40 rfl) (blk_cell (hH.at 1 rfl) 3 rfl)) ?_; clear hF; intro a hF
       refine l_atg hF ((wanted_of hF rfl rfl rfl rfl).trans (by rw [hb39]; rfl)) rfl rfl (x_leq (hF.tmp 41 rfl) rfl) ?_; clear hF; intro a hF
       refine l_at hF rfl rfl rfl (x_pickT (hF.tmp 39 rfl) hb39 (hF.tmp 42 rfl)) ?_; clear hF; intro a hF
       refine l_at hF rfl rfl rfl (x_assign (hF.tmp 43 rfl)) ?_; clear hF; intro a hF
       refine wpList_nil ?_
       refine hK3 _ _ ?_
       refine wp_ret ?_
       try simp only [Exit.then, Exit.inBlock]
       refine fin_ret hF (res1 (v := .bool (decide (t.every ≤ 4611686018427387904))) hF rfl rfl) ⟨?_, hH.mods⟩
       congr 2; unfold rightT; first | (simp [hc13, hc18, hc24, hc29, hc34, hc39]; done) | (simp [hc13, hc18, hc24, hc29, hc34, hc39]; omega) | (simp [hc13, hc18, hc24, hc29, hc34, hc39]; intros; omega) | (rw [Bool.eq_iff_iff]; simp [hc13, hc18, hc24, hc29, hc34, hc39]; first | omega | (intros; omega))
      ·have hc39 := hb39; try simp only [Bool.or_eq_true, Bool.and_eq_true, Bool.or_eq_false_iff, Bool.and_eq_false_iff, Bool.not_eq_true', Bool.not_eq_false', decide_eq_true_eq, decide_eq_false_iff_not, Bool.not_true, Bool.not_false] at hc39
       refine l_offg hF ((wanted_of hF rfl rfl rfl rfl).trans (by rw [hb39]; rfl)) rfl rfl ?_; clear hF; intro a hF
       refine l_offg hF ((wanted_of hF rfl rfl rfl rfl).trans (by rw [hb39]; rfl)) rfl rfl ?_; clear hF; intro a hF
       refine l_offg hF ((wanted_of hF rfl rfl rfl rfl).trans (by rw [hb39]; rfl)) rfl rfl ?_; clear hF; intro a hF
       refine l_at hF rfl rfl rfl (x_pickF (hF.tmp 39 rfl) hb39 rfl) ?_; clear hF; intro a hF
       refine l_at hF rfl rfl rfl (x_assign (hF.tmp 43 rfl)) ?_; clear hF; intro a hF
       refine wpList_nil ?_
       refine hK3 _ _ ?_
       refine wp_ret ?_
       try simp only [Exit.then, Exit.inBlock]
       refine fin_ret hF (res1 (v := .bool false) hF rfl rfl) ⟨?_, hH.mods⟩
       congr 2; unfold rightT; first | (simp [hc13, hc18, hc24, hc29, hc34, hc39]; done) | (simp [hc13, hc18, hc24, hc29, hc34, hc39]; omega) | (simp [hc13, hc18, hc24, hc29, hc34, hc39]; intros; omega) | (rw [Bool.eq_iff_iff]; simp [hc13, hc18, hc24, hc29, hc34, hc39]; first | omega | (intros; omega))
     ·have hc34 := hb34; try simp only [Bool.or_eq_true, Bool.and_eq_true, Bool.or_eq_false_iff, Bool.and_eq_false_iff, Bool.not_eq_true', Bool.not_eq_false', decide_eq_true_eq, decide_eq_false_iff_not, Bool.not_true, Bool.not_false] at hc34
      refine l_offg hF ((wanted_of hF rfl rfl rfl rfl).trans (by rw [hb34]; rfl)) rfl rfl ?_; clear hF; intro a hF
      refine l_offg hF ((wanted_of hF rfl rfl rfl rfl).trans (by rw [hb34]; rfl)) rfl rfl ?_; clear hF; intro a hF
      refine l_offg hF ((wanted_of hF rfl rfl rfl rfl).trans (by rw [hb34]; rfl)) rfl rfl ?_; clear hF; intro a hF
      refine l_at hF rfl rfl rfl (x_pickF (hF.tmp 34 rfl) hb34 rfl) ?_; clear hF; intro a hF
      refine l_at hF rfl rfl rfl (x_move (hF.tmp 38 rfl)) ?_; clear hF; intro a hF
      refine l_offg hF ((wanted_of hF rfl rfl rfl rfl).trans rfl) rfl rfl ?_; clear hF; intro a hF
      refine l_offg hF ((wanted_of hF rfl rfl rfl rfl).trans rfl) rfl rfl ?_; clear hF; intro a hF
      refine l_offg hF ((wanted_of hF rfl rfl rfl rfl).trans rfl) rfl rfl ?_; clear hF; intro a hF
      refine l_at hF rfl rfl rfl (x_pickF (hF.tmp 39 rfl) rfl rfl) ?_; clear hF; intro a hF
      refine l_at hF rfl rfl rfl (x_assign (hF.tmp 43 rfl)) ?_; clear hF; intro a hF
      refine wpList_nil ?_
      refine hK3 _ _ ?_
      refine wp_ret ?_
      try simp only [Exit.then, Exit.inBlock]
      refine fin_ret hF (res1 (v := .bool false) hF rfl rfl) ⟨?_, hH.mods⟩
      congr 2; unfold rightT; first | (simp [hc13, hc18, hc24, hc29, hc34]; done) | (simp [hc13, hc18, hc24, hc29, hc34]; omega) | (simp [hc13, hc18, hc24, hc29, hc34]; intros; omega) | (rw [Bool.eq_iff_iff]; simp [hc13, hc18, hc24, hc29, hc34]; first | omega | (intros; omega))
    ·have hc29 := hb29; try simp only [Bool.or_eq_true, Bool.and_eq_true, Bool.or_eq_false_iff, Bool.and_eq_false_iff, Bool.not_eq_true', Bool.not_eq_false', decide_eq_true_eq, decide_eq_false_iff_not, Bool.not_true, Bool.not_false] at hc29
     refine l_offg hF ((wanted_of hF rfl rfl rfl rfl).trans (by rw [hb29]; rfl)) rfl rfl ?_; clear hF; intro a hF
     refine l_offg hF ((wanted_of hF rfl rfl rfl rfl).trans (by rw [hb29]; rfl)) rfl rfl ?_; clear hF; intro a hF
     refine l_offg hF ((wanted_of hF rfl rfl rfl rfl).trans (by rw [hb29]; rfl)) rfl rfl ?_; clear hF; intro a hF
     refine l_at hF rfl rfl rfl (x_pickF (hF.tmp 29 rfl) hb29 rfl) ?_; clear hF; intro a hF
     refine l_at hF rfl rfl rfl (x_move (hF.tmp 33 rfl)) ?_; clear hF; intro a hF
     refine l_offg hF ((wanted_of hF rfl rfl rfl rfl).trans rfl) rfl rfl ?_; clear hF; intro a hF
     refine l_offg hF ((wanted_of hF rfl rfl rfl rfl).trans rfl) rfl rfl ?_; clear hF; intro a hF
     refine l_offg hF ((wanted_of hF rfl rfl rfl rfl).trans rfl) rfl rfl ?_; clear hF; intro a hF
     refine l_at hF rfl rfl rfl (x_pickF (hF.tmp 34 rfl) rfl rfl) ?_; clear hF; intro a hF
     refine l_at hF rfl rfl rfl (x_move (hF.tmp 38 rfl)) ?_; clear hF; intro a hF
     refine l_offg hF ((wanted_of hF rfl rfl rfl rfl).trans rfl) rfl rfl ?_; clear hF; intro a hF
     refine l_offg hF ((wanted_of hF rfl rfl rfl rfl).trans rfl) rfl rfl ?_; clear hF; intro a hF
     refine l_offg hF ((wanted_of hF rfl rfl rfl rfl).trans rfl) rfl rfl ?_; clear hF; intro a hF
     refine l_at hF rfl rfl rfl (x_pickF (hF.tmp 39 rfl) rfl rfl) ?_; clear hF; intro a hF
     refine l_at hF rfl rfl rfl (x_assign (hF.tmp 43 rfl)) ?_; clear hF; intro a hF
     refine wpList_nil ?_
     refine hK3 _ _ ?_
     refine wp_ret ?_
     try simp only [Exit.then, Exit.inBlock]
     refine fin_ret hF (res1 (v := .bool false) hF rfl rfl) ⟨?_, hH.mods⟩
     congr 2; unfold rightT; first | (simp [hc13, hc18, hc24, hc29]; done) | (simp [hc13, hc18, hc24, hc29]; omega) | (simp [hc13, hc18, hc24, hc29]; intros; omega) | (rw [Bool.eq_iff_iff]; simp [hc13, hc18, hc24, hc29]; first | omega | (intros; omega))
   ·have hc24 := hb24; try simp only [Bool.or_eq_true, Bool.and_eq_true, Bool.or_eq_false_iff, Bool.and_eq_false_iff, Bool.not_eq_true', Bool.not_eq_false', decide_eq_true_eq, decide_eq_false_iff_not, Bool.not_true, Bool.not_false] at hc24
    refine l_offg hF ((wanted_of hF rfl rfl rfl rfl).trans (by rw [hb24]; rfl)) rfl rfl ?_; clear hF; intro a hF
    refine l_offg hF ((wanted_of hF rfl rfl rfl rfl).trans (by rw [hb24]; rfl)) rfl rfl ?_; clear hF; intro a hF
    refine l_offg hF ((wanted_of hF rfl rfl rfl rfl).trans (by rw [hb24]; rfl)) rfl rfl ?_; clear hF; intro a hF
    refine l_at hF rfl rfl rfl (x_pickF (hF.tmp 24 rfl) hb24 rfl) ?_; clear hF; intro a hF
    refine l_at hF rfl rfl rfl (x_move (hF.tmp 28 rfl)) ?_; clear hF; intro a hF
    refine l_offg hF ((wanted_of hF rfl rfl rfl rfl).trans rfl) rfl rfl ?_; clear hF; intro a hF
    refine l_offg hF ((wanted_of hF rfl rfl rfl rfl).trans rfl) rfl rfl ?_; clear hF; intro a hF
    refine l_offg hF ((wanted_of hF rfl rfl rfl rfl).trans rfl) rfl rfl ?_; clear hF; intro a hF
    refine l_at hF rfl rfl rfl (x_pickF (hF.tmp 29 rfl) rfl rfl) ?_; clear hF; intro a hF
    refine l_at hF rfl rfl rfl (x_move (hF.tmp 33 rfl)) ?_; clear hF; intro a hF
    refine l_offg hF ((wanted_of hF rfl rfl rfl rfl).trans rfl) rfl rfl ?_; clear hF; intro a hF
    refine l_offg hF ((wanted_of hF rfl rfl rfl rfl).trans rfl) rfl rfl ?_; clear hF; intro a hF
    refine l_offg hF ((wanted_of hF rfl rfl rfl rfl).trans rfl) rfl rfl ?_; clear hF; intro a hF
    refine l_at hF rfl rfl rfl (x_pickF (hF.tmp 34 rfl) rfl rfl) ?_; clear hF; intro a hF
    refine l_at hF rfl rfl rfl (x_move (hF.tmp 38 rfl)) ?_; clear hF; intro a hF
    refine l_offg hF ((wanted_of hF rfl rfl rfl rfl).trans rfl) rfl rfl ?_; clear hF; intro a hF
    refine l_offg hF ((wanted_of hF rfl rfl rfl rfl).trans rfl) rfl rfl ?_; clear hF; intro a hF
    refine l_offg hF ((wanted_of hF rfl rfl rfl rfl).trans rfl) rfl rfl ?_; clear hF; intro a hF
    refine l_at hF rfl rfl rfl (x_pickF (hF.tmp 39 rfl) rfl rfl) ?_; clear hF; intro a hF
    refine l_at hF rfl rfl rfl (x_assign (hF.tmp 43 rfl)) ?_; clear hF; intro a hF
    refine wpList_nil ?_
    refine hK3 _ _ ?_
    refine wp_ret ?_
    try simp only [Exit.then, Exit.inBlock]
    refine fin_ret hF (res1 (v := .bool false) hF rfl rfl) ⟨?_, hH.mods⟩
    congr 2; unfold rightT; first | (simp [hc13, hc18, hc24]; done) | (simp [hc13, hc18, hc24]; omega) | (simp [hc13, hc18, hc24]; intros; omega) | (rw [Bool.eq_iff_iff]; simp [hc13, hc18, hc24]; first | omega | (intros; omega))
  ·have hc18 := hb18; try simp only [Bool.or_eq_true, Bool.and_eq_true, Bool.or_eq_false_iff, Bool.and_eq_false_iff, Bool.not_eq_true', Bool.not_eq_false', decide_eq_true_eq, decide_eq_false_iff_not, Bool.not_true, Bool.not_false] at hc18
   refine l_offg hF ((wanted_of hF rfl rfl rfl rfl).trans (by rw [hb18]; rfl)) rfl rfl ?_; clear hF; intro a hF
   refine l_offg hF ((wanted_of hF rfl rfl rfl rfl).trans (by rw [hb18]; rfl)) rfl rfl ?_; clear hF; intro a hF
   refine l_offg hF ((wanted_of hF rfl rfl rfl rfl).trans (by rw [hb18]; rfl)) rfl rfl ?_; clear hF; intro a hF
   refine l_offg hF ((wanted_of hF rfl rfl rfl rfl).trans (by rw [hb18]; rfl)) rfl rfl ?_; clear hF; intro a hF
   refine l_at hF rfl rfl rfl (x_pickF (hF.tmp 18 rfl) hb18 rfl) ?_; clear hF; intro a hF
   refine l_at hF rfl rfl rfl (x_move (hF.tmp 23 rfl)) ?_; clear hF; intro a hF
   refine l_offg hF ((wanted_of hF rfl rfl rfl rfl).trans rfl) rfl rfl ?_; clear hF; intro a hF
   refine l_offg hF ((wanted_of hF rfl rfl rfl rfl).trans rfl) rfl rfl ?_; clear hF; intro a hF
   refine l_offg hF ((wanted_of hF rfl rfl rfl rfl).trans rfl) rfl rfl ?_; clear hF; intro a hF
   refine l_at hF rfl rfl rfl (x_pickF (hF.tmp 24 rfl) rfl rfl) ?_; clear hF; intro a hF
   refine l_at hF rfl rfl rfl (x_move (hF.tmp 28 rfl)) ?_; clear hF; intro a hF
   refine l_offg hF ((wanted_of hF rfl rfl rfl rfl).trans rfl) rfl rfl ?_; clear hF; intro a hF
   refine l_offg hF ((wanted_of hF rfl rfl rfl rfl).trans rfl) rfl rfl ?_; clear hF; intro a hF
   refine l_offg hF ((wanted_of hF rfl rfl rfl rfl).trans rfl) rfl rfl ?_; clear hF; intro a hF
   refine l_at hF rfl rfl rfl (x_pickF (hF.tmp 29 rfl) rfl rfl) ?_; clear hF; intro a hF
   refine l_at hF rfl rfl rfl (x_move (hF.tmp 33 rfl)) ?_; clear hF; intro a hF
   refine l_offg hF ((wanted_of hF rfl rfl rfl rfl).trans rfl) rfl rfl ?_; clear hF; intro a hF
   refine l_offg hF ((wanted_of hF rfl rfl rfl rfl).trans rfl) rfl rfl ?_; clear hF; intro a hF
   refine l_offg hF ((wanted_of hF rfl rfl rfl rfl).trans rfl) rfl rfl ?_; clear hF; intro a hF
   refine l_at hF rfl rfl rfl (x_pickF (hF.tmp 34 rfl) rfl rfl) ?_; clear hF; intro a hF
   refine l_at hF rfl rfl rfl (x_move (hF.tmp 38 rfl)) ?_; clear hF; intro a hF
   refine l_offg hF ((wanted_of hF rfl rfl rfl rfl).trans rfl) rfl rfl ?_; clear hF; intro a hF
   refine l_offg hF ((wanted_of hF rfl rfl rfl rfl).trans rfl) rfl rfl ?_; clear hF; intro a hF
   refine l_offg hF ((wanted_of hF rfl rfl rfl rfl).trans rfl) rfl rfl ?_; clear hF; intro a hF
   refine l_at hF rfl rfl rfl (x_pickF (hF.tmp 39 rfl) rfl rfl) ?_; clear hF; intro a hF
   refine l_at hF rfl rfl rfl (x_assign (hF.tmp 43 rfl)) ?_; clear hF; intro a hF
   refine wpList_nil ?_
   refine hK3 _ _ ?_
   refine wp_ret ?_
   try simp only [Exit.then, Exit.inBlock]
   refine fin_ret hF (res1 (v := .bool false) hF rfl rfl) ⟨?_, hH.mods⟩
   congr 2; unfold rightT; first | (simp [hc13, hc18]; done) | (simp [hc13, hc18]; omega) | (simp [hc13, hc18]; intros; omega) | (rw [Bool.eq_iff_iff]; simp [hc13, hc18]; first | omega | (intros; omega))
 ·have hc13 := hb13; try simp only [Bool.or_eq_true, Bool.and_eq_true, Bool.or_eq_false_iff, Bool.and_eq_false_iff, Bool.not_eq_true', Bool.not_eq_false', decide_eq_true_eq, decide_eq_false_iff_not, Bool.not_true, Bool.not_false] at hc13
  refine l_offg hF ((wanted_of hF rfl rfl rfl rfl).trans (by rw [hb13]; rfl)) rfl rfl ?_; clear hF; intro a hF
  refine l_offg hF ((wanted_of hF rfl rfl rfl rfl).trans (by rw [hb13]; rfl)) rfl rfl ?_; clear hF; intro a hF
  refine l_offg hF ((wanted_of hF rfl rfl rfl rfl).trans (by rw [hb13]; rfl)) rfl rfl ?_; clear hF; intro a hF
  refine l_at hF rfl rfl rfl (x_pickF (hF.tmp 13 rfl) hb13 rfl) ?_; clear hF; intro a hF
  refine l_at hF rfl rfl rfl (x_move (hF.tmp 17 rfl)) ?_; clear hF; intro a hF
  refine l_offg hF ((wanted_of hF rfl rfl rfl rfl).trans rfl) rfl rfl ?_; clear hF; intro a hF
  refine l_offg hF ((wanted_of hF rfl rfl rfl rfl).trans rfl) rfl rfl ?_; clear hF; intro a hF
  refine l_offg hF ((wanted_of hF rfl rfl rfl rfl).trans rfl) rfl rfl ?_; clear hF; intro a hF
  refine l_offg hF ((wanted_of hF rfl rfl rfl rfl).trans rfl) rfl rfl ?_; clear hF; intro a hF
  refine l_at hF rfl rfl rfl (x_pickF (hF.tmp 18 rfl) rfl rfl) ?_; clear hF; intro a hF
  refine l_at hF rfl rfl rfl (x_move (hF.tmp 23 rfl)) ?_; clear hF; intro a hF
  refine l_offg hF ((wanted_of hF rfl rfl rfl rfl).trans rfl) rfl rfl ?_; clear hF; intro a hF
  refine l_offg hF ((wanted_of hF rfl rfl rfl rfl).trans rfl) rfl rfl ?_; clear hF; intro a hF
  refine l_offg hF ((wanted_of hF rfl rfl rfl rfl).trans rfl) rfl rfl ?_; clear hF; intro a hF
  refine l_at hF rfl rfl rfl (x_pickF (hF.tmp 24 rfl) rfl rfl) ?_; clear hF; intro a hF
  refine l_at hF rfl rfl rfl (x_move (hF.tmp 28 rfl)) ?_; clear hF; intro a hF
  refine l_offg hF ((wanted_of hF rfl rfl rfl rfl).trans rfl) rfl rfl ?_; clear hF; intro a hF
  refine l_offg hF ((wanted_of hF rfl rfl rfl rfl).trans rfl) rfl rfl ?_; clear hF; intro a hF
  refine l_offg hF ((wanted_of hF rfl rfl rfl rfl).trans rfl) rfl rfl ?_; clear hF; intro a hF
  refine l_at hF rfl rfl rfl (x_pickF (hF.tmp 29 rfl) rfl rfl) ?_; clear hF; intro a hF
  refine l_at hF rfl rfl rfl (x_move (hF.tmp 33 rfl)) ?_; clear hF; intro a hF
  refine l_offg hF ((wanted_of hF rfl rfl rfl rfl).trans rfl) rfl rfl ?_; clear hF; intro a hF
  refine l_offg hF ((wanted_of hF rfl rfl rfl rfl).trans rfl) rfl rfl ?_; clear hF; intro a hF
  refine l_offg hF ((wanted_of hF rfl rfl rfl rfl).trans rfl) rfl rfl ?_; clear hF; intro a hF
  refine l_at hF rfl rfl rfl (x_pickF (hF.tmp 34 rfl) rfl rfl) ?_; clear hF; intro a hF
  refine l_at hF rfl rfl rfl (x_move (hF.tmp 38 rfl)) ?_; clear hF; intro a hF
  refine l_offg hF ((wanted_of hF rfl rfl rfl rfl).trans rfl) rfl rfl ?_; clear hF; intro a hF
  refine l_offg hF ((wanted_of hF rfl rfl rfl rfl).trans rfl) rfl rfl ?_; clear hF; intro a hF
  refine l_offg hF ((wanted_of hF rfl rfl rfl rfl).trans rfl) rfl rfl ?_; clear hF; intro a hF
  refine l_at hF rfl rfl rfl (x_pickF (hF.tmp 39 rfl) rfl rfl) ?_; clear hF; intro a hF
  refine l_at hF rfl rfl rfl (x_assign (hF.tmp 43 rfl)) ?_; clear hF; intro a hF
  refine wpList_nil ?_
  refine hK3 _ _ ?_
  refine wp_ret ?_
  try simp only [Exit.then, Exit.inBlock]
  refine fin_ret hF (res1 (v := .bool false) hF rfl rfl) ⟨?_, hH.mods⟩
  congr 2; unfold rightT; first | (simp [hc13]; done) | (simp [hc13]; omega) | (simp [hc13]; intros; omega) | (rw [Bool.eq_iff_iff]; simp [hc13]; first | omega | (intros; omega))
set_option maxRecDepth 100000 in
set_option maxHeartbeats 1000000 in
theorem rightC_calls (w0 : World) {pp : Bool} (hL : LibAt pp w0) {c : ChangeD} {okc0 : Nat → Prop} {Ac0 : Option Addr} {cc0 : Nat} (hrc0 : Rd StE w0 okc0 Ac0 c.timer.steps cc0) (hb : ChangeB c) : Calls Tryd.prog 45 #[.agg #[.int .i64 c.kind, .string (strOfNums c.key), .string (strOfNums c.value), .string (strOfNums c.timer.name), .int .i64 c.timer.ver, .int .u64 c.timer.tick, .int .u64 c.timer.every, .slice Ac0 c.timer.steps.length cc0]] w0 fun e w' => e = .returned (.bool (rightC c)) ∧ Mods (fun _ => False) w0 w' := by
 refine calls_of_wp Tryd.func45 rfl ?_
 have hF := Fr.enter #[.agg #[.int .i64 c.kind, .string (strOfNums c.key), .string (strOfNums c.value), .string (strOfNums c.timer.name), .int .i64 c.timer.ver, .int .u64 c.timer.tick, .int .u64 c.timer.every, .slice Ac0 c.timer.steps.length cc0]] 53 (slotsOf [.agg #[.int .i64 c.kind, .string (strOfNums c.key), .string (strOfNums c.value), .string (strOfNums c.timer.name), .int .i64 c.timer.ver, .int .u64 c.timer.tick, .int .u64 c.timer.every, .slice Ac0 c.timer.steps.length cc0]] 0) (Nat.le_of_ble_eq_true rfl) (fun i v h => by have h2 := (get_slotsOf _ 0 i v h).2; simpa only [List.getElem?_toArray, Nat.sub_zero] using h2)
 have hH := Hp.nil (fun _ => False) w0
 rw [Tryd.ntmps45]
 revert hF; generalize (⟨(#[.agg #[.int .i64 c.kind, .string (strOfNums c.key), .string (strOfNums c.value), .string (strOfNums c.timer.name), .int .i64 c.timer.ver, .int .u64 c.timer.tick, .int .u64 c.timer.every, .slice Ac0 c.timer.steps.length cc0]] : Array Value) ++ Array.replicate (53 - (#[.agg #[.int .i64 c.kind, .string (strOfNums c.key), .string (strOfNums c.value), .string (strOfNums c.timer.name), .int .i64 c.timer.ver, .int .u64 c.timer.tick, .int .u64 c.timer.every, .slice Ac0 c.timer.steps.length cc0]] : Array Value).size) undef, []⟩ : Act) = a; intro hF
 have hH := hH.arg 900 hrc0.all (fun _ h => ⟨h, fun h => h⟩)
 have hlec0 := hrc0.le; unfold maxLen at hlec0
 have hH := hH.libN 990 hL
 refine wp_seq_k fun khK1 hK1 => ?_
 refine wp_region_lit ?_
 refine wpList_plain rfl fun K hK => ?_
 refine w_box 1 hF hH rfl (hF.tmp 0 rfl) ?_
 clear hF hH; intro a w b1 hF hH
 refine hK _ _ ?_; clear hK K
 refine l_at hF rfl rfl rfl (x_assign rfl) ?_; clear hF; intro a hF
 refine wpList_nil ?_
 refine hK1 _ _ ?_
 refine wp_seq_k fun khK2 hK2 => ?_
 refine wp_region_lit ?_
 refine l_at hF rfl rfl rfl (x_faddr Tryd.underlying41 rfl ty9 (by decide) (hF.tmp 1 rfl) rfl) ?_; clear hF; intro a hF
 refine l_at hF rfl rfl rfl (x_load1 ty9 (hF.tmp 4 rfl) (blk_cell (hH.at 1 rfl) 1 rfl)) ?_; clear hF; intro a hF
 refine l_at hF rfl rfl rfl (x_nen0 (xs := c.key) (hF.tmp 5 rfl) (show _ = Value.string (strOfNums ([] : List Int)) by kernel_rfl)) ?_; clear hF; intro a hF
 refine l_at hF rfl rfl rfl (x_move (hF.tmp 6 rfl)) ?_; clear hF; intro a hF
 refine split_bool hF 7 rfl (fun hb7 => ?_) (fun hb7 => ?_)
 ·have hc7 := hb7; try simp only [Bool.or_eq_true, Bool.and_eq_true, Bool.or_eq_false_iff, Bool.and_eq_false_iff, Bool.not_eq_true', Bool.not_eq_false', decide_eq_true_eq, decide_eq_false_iff_not, Bool.not_true, Bool.not_false] at hc7
  refine l_atg hF ((wanted_of hF rfl rfl rfl rfl).trans (by rw [hb7]; rfl)) rfl rfl (x_faddr Tryd.underlying41 rfl ty9 (by decide) (hF.tmp 1 rfl) rfl) ?_; clear hF; intro a hF
  refine l_atg hF ((wanted_of hF rfl rfl rfl rfl).trans (by rw [hb7]; rfl)) rfl rfl (x_load1 ty9 (hF.tmp 8 rfl) (blk_cell (hH.at 1 rfl) 1 rfl)) ?_; clear hF; intro a hF
  refine l_atg hF ((wanted_of hF rfl rfl rfl rfl).trans (by rw [hb7]; rfl)) rfl rfl (x_len_sn (xs := c.key) Tryd.underlying9 (hF.tmp 9 rfl)) ?_; clear hF; intro a hF
  refine l_atg hF ((wanted_of hF rfl rfl rfl rfl).trans (by rw [hb7]; rfl)) rfl rfl (x_leq (hF.tmp 10 rfl) rfl) ?_; clear hF; intro a hF
  refine l_at hF rfl rfl rfl (x_pickT (hF.tmp 7 rfl) hb7 (hF.tmp 11 rfl)) ?_; clear hF; intro a hF
  refine l_at hF rfl rfl rfl (x_move (hF.tmp 12 rfl)) ?_; clear hF; intro a hF
  refine split_bool hF 13 rfl (fun hb13 => ?_) (fun hb13 => ?_)
  ·have hc13 := hb13; try simp only [Bool.or_eq_true, Bool.and_eq_true, Bool.or_eq_false_iff, Bool.and_eq_false_iff, Bool.not_eq_true', Bool.not_eq_false', decide_eq_true_eq, decide_eq_false_iff_not, Bool.not_true, Bool.not_false] at hc13
   refine l_atg hF ((wanted_of hF rfl rfl rfl rfl).trans (by rw [hb13]; rfl)) rfl rfl (x_faddr Tryd.underlying41 rfl ty39 (by decide) (hF.tmp 1 rfl) rfl) ?_; clear hF; intro a hF
   refine l_atg hF ((wanted_of hF rfl rfl rfl rfl).trans (by rw [hb13]; rfl)) rfl rfl (x_loadn (cs := #[.string (strOfNums c.timer.name), .int .i64 c.timer.ver, .int .u64 c.timer.tick, .int .u64 c.timer.every, .slice Ac0 c.timer.steps.length cc0]) ty39 (hF.tmp 14 rfl) rfl (blk_sub (hH.at 1 rfl) 3 5 rfl)) ?_; clear hF; intro a hF
   refine wpList_on ((wanted_of hF rfl rfl rfl rfl).trans (by rw [hb13]; rfl)) fun K hK => ?_
   refine w_call hF (x_enter Tryd.func77 (by kernel_rfl) rfl (by simp only [List.map_toArray, List.map_cons, List.map_nil, hF.tmp 15 rfl] <;> rfl)) (bare_calls _ ((hH.rd 900 rfl))) rfl rfl ?_
   rintro _ w ⟨rfl, hm_⟩; refine ⟨_, rfl, ?_⟩; clear hF; intro a hF; have hH := hH.same hm_
   refine hK _ _ ?_; clear hK K
   refine l_at hF rfl rfl rfl (x_pickT (hF.tmp 13 rfl) hb13 (hF.tmp 16 rfl)) ?_; clear hF; intro a hF
   refine l_at hF rfl rfl rfl (x_assign (hF.tmp 17 rfl)) ?_; clear hF; intro a hF
   refine wpList_nil ?_
   refine hK2 _ _ ?_
   refine wp_seq_k fun khK3 hK3 => ?_
   refine wp_seq_k fun khK4 hK4 => ?_
   refine wp_region_lit ?_
   refine l_at hF rfl rfl rfl (x_faddr Tryd.underlying41 rfl ty36 (by decide) (hF.tmp 1 rfl) rfl) ?_; clear hF; intro a hF
   refine l_at hF rfl rfl rfl (x_load1 ty36 (hF.tmp 18 rfl) (blk_cell (hH.at 1 rfl) 0 rfl)) ?_; clear hF; intro a hF
   refine wpList_nil ?_
   refine hK4 _ _ ?_
   refine wp_block ?_
   refine wp_seq_k fun khK5 hK5 => ?_
   refine wp_region_lit ?_
   refine l_at hF rfl rfl rfl (x_eql (hF.tmp 19 rfl) rfl) ?_; clear hF; intro a hF
   refine l_at hF rfl rfl rfl (x_assign (hF.tmp 21 rfl)) ?_; clear hF; intro a hF
   refine wpList_nil ?_
   refine hK5 _ _ ?_
   refine wp_cond_split (hF.tmp 20 rfl) (fun hc20 => ?_) (fun hc20 => ?_)
   ·have hk20_1 := hc20; try simp only [Bool.or_eq_true, Bool.and_eq_true, Bool.or_eq_false_iff, Bool.and_eq_false_iff, Bool.not_eq_true', Bool.not_eq_false', decide_eq_true_eq, decide_eq_false_iff_not, Bool.not_true, Bool.not_false] at hc20
    refine wp_seq_k fun khK6 hK6 => ?_
    refine wp_region_lit ?_
    refine l_at hF rfl rfl rfl (x_move (hF.tmp 3 rfl)) ?_; clear hF; intro a hF
    refine l_at hF rfl rfl rfl (x_move (hF.tmp 22 rfl)) ?_; clear hF; intro a hF
    refine split_bool hF 23 rfl (fun hb23 => ?_) (fun hb23 => ?_)
    ·have hc23 := hb23; try simp only [Bool.or_eq_true, Bool.and_eq_true, Bool.or_eq_false_iff, Bool.and_eq_false_iff, Bool.not_eq_true', Bool.not_eq_false', decide_eq_true_eq, decide_eq_false_iff_not, Bool.not_true, Bool.not_false] at hc23
     refine l_atg hF ((wanted_of hF rfl rfl rfl rfl).trans (by rw [hb23]; rfl)) rfl rfl (x_faddr Tryd.underlying41 rfl ty9 (by decide) (hF.tmp 1 rfl) rfl) ?_; clear hF; intro a hF
     refine l_atg hF ((wanted_of hF rfl rfl rfl rfl).trans (by rw [hb23]; rfl)) rfl rfl (x_load1 ty9 (hF.tmp 24 rfl) (blk_cell (hH.at 1 rfl) 2 rfl)) ?_; clear hF; intro a hF
     refine l_atg hF ((wanted_of hF rfl rfl rfl rfl).trans (by rw [hb23]; rfl)) rfl rfl (x_len_sn (xs := c.value) Tryd.underlying9 (hF.tmp 25 rfl)) ?_; clear hF; intro a hF
     refine l_atg hF ((wanted_of hF rfl rfl rfl rfl).trans (by rw [hb23]; rfl)) rfl rfl (x_leq (hF.tmp 26 rfl) rfl) ?_; clear hF; intro a hF
     refine l_at hF rfl rfl rfl (x_pickT (hF.tmp 23 rfl) hb23 (hF.tmp 27 rfl)) ?_; clear hF; intro a hF
     refine l_at hF rfl rfl rfl (x_assign (hF.tmp 28 rfl)) ?_; clear hF; intro a hF
     refine wpList_nil ?_
     refine hK6 _ _ ?_
     refine wp_ret ?_
     try simp only [Exit.then, Exit.inBlock]
     refine fin_ret hF (res1 (v := .bool (decide ((c.value.length : Int) ≤ 60))) hF rfl rfl) ⟨?_, hH.mods⟩
     congr 2; unfold rightC nameI; first | (simp [hc7, hc13, hc20, hc23]; done) | (simp [hc7, hc13, hc20, hc23]; omega) | (simp [hc7, hc13, hc20, hc23]; intros; omega) | (rw [Bool.eq_iff_iff]; simp [hc7, hc13, hc20, hc23]; first | omega | (intros; omega))
    ·have hc23 := hb23; try simp only [Bool.or_eq_true, Bool.and_eq_true, Bool.or_eq_false_iff, Bool.and_eq_false_iff, Bool.not_eq_true', Bool.not_eq_false', decide_eq_true_eq, decide_eq_false_iff_not, Bool.not_true, Bool.not_false] at hc23
     refine l_offg hF ((wanted_of hF rfl rfl rfl rfl).trans (by rw [hb23]; rfl)) rfl rfl ?_; clear hF; intro a hF
     refine l_offg hF ((wanted_of hF rfl rfl rfl rfl).trans (by rw [hb23]; rfl)) rfl rfl ?_; clear hF; intro a hF
     refine l_offg hF ((wanted_of hF rfl rfl rfl rfl).trans (by rw [hb23]; rfl)) rfl rfl ?_; clear hF; intro a hF
     refine l_offg hF ((wanted_of hF rfl rfl rfl rfl).trans (by rw [hb23]; rfl)) rfl rfl ?_; clear hF; intro a hF
     refine l_at hF rfl rfl rfl (x_pickF (hF.tmp 23 rfl) hb23 rfl) ?_; clear hF; intro a hF
     refine l_at hF rfl rfl rfl (x_assign (hF.tmp 28 rfl)) ?_; clear hF; intro a hF
     refine wpList_nil ?_
     refine hK6 _ _ ?_
     refine wp_ret ?_
     try simp only [Exit.then, Exit.inBlock]
     refine fin_ret hF (res1 (v := .bool false) hF rfl rfl) ⟨?_, hH.mods⟩
     congr 2; unfold rightC nameI; first | (simp [hc7, hc13, hc20, hc23]; done) | (simp [hc7, hc13, hc20, hc23]; omega) | (simp [hc7, hc13, hc20, hc23]; intros; omega) | (rw [Bool.eq_iff_iff]; simp [hc7, hc13, hc20, hc23]; first | omega | (intros; omega))
   ·have hk20_2 := hc20; try simp only [Bool.or_eq_true, Bool.and_eq_true, Bool.or_eq_false_iff, Bool.and_eq_false_iff, Bool.not_eq_true', Bool.not_eq_false', decide_eq_true_eq, decide_eq_false_iff_not, Bool.not_true, Bool.not_false] at hc20
    refine wp_seq_k fun khK7 hK7 => ?_
    refine wp_seq_k fun khK8 hK8 => ?_
    refine wp_region_lit ?_
    refine l_at hF rfl rfl rfl (x_eql (hF.tmp 19 rfl) rfl) ?_; clear hF; intro a hF
    refine l_at hF rfl rfl rfl (x_assign (hF.tmp 30 rfl)) ?_; clear hF; intro a hF
    refine wpList_nil ?_
    refine hK8 _ _ ?_
    refine wp_cond_split (hF.tmp 29 rfl) (fun hc29 => ?_) (fun hc29 => ?_)
    ·have hk29_3 := hc29; try simp only [Bool.or_eq_true, Bool.and_eq_true, Bool.or_eq_false_iff, Bool.and_eq_false_iff, Bool.not_eq_true', Bool.not_eq_false', decide_eq_true_eq, decide_eq_false_iff_not, Bool.not_true, Bool.not_false] at hc29
     refine wp_skip ?_
     refine hK7 _ _ ?_
     refine wp_cond_true ((hF.tmp 29 rfl).trans (by rw [hk29_3])) ?_
     refine wp_seq_k fun khK9 hK9 => ?_
     refine wp_region_lit ?_
     refine l_at hF rfl rfl rfl (x_move (hF.tmp 3 rfl)) ?_; clear hF; intro a hF
     refine l_at hF rfl rfl rfl (x_move (hF.tmp 32 rfl)) ?_; clear hF; intro a hF
     refine split_bool hF 33 rfl (fun hb33 => ?_) (fun hb33 => ?_)
     ·have hc33 := hb33; try simp only [Bool.or_eq_true, Bool.and_eq_true, Bool.or_eq_false_iff, Bool.and_eq_false_iff, Bool.not_eq_true', Bool.not_eq_false', decide_eq_true_eq, decide_eq_false_iff_not, Bool.not_true, Bool.not_false] at hc33
      refine l_atg hF ((wanted_of hF rfl rfl rfl rfl).trans (by rw [hb33]; rfl)) rfl rfl (x_faddr Tryd.underlying41 rfl ty9 (by decide) (hF.tmp 1 rfl) rfl) ?_; clear hF; intro a hF
      refine l_atg hF ((wanted_of hF rfl rfl rfl rfl).trans (by rw [hb33]; rfl)) rfl rfl (x_load1 ty9 (hF.tmp 34 rfl) (blk_cell (hH.at 1 rfl) 2 rfl)) ?_; clear hF; intro a hF
      refine l_atg hF ((wanted_of hF rfl rfl rfl rfl).trans (by rw [hb33]; rfl)) rfl rfl (x_eqn0 (xs := c.value) (hF.tmp 35 rfl) (show _ = Value.string (strOfNums ([] : List Int)) by kernel_rfl)) ?_; clear hF; intro a hF
      refine l_at hF rfl rfl rfl (x_pickT (hF.tmp 33 rfl) hb33 (hF.tmp 36 rfl)) ?_; clear hF; intro a hF
      refine l_at hF rfl rfl rfl (x_assign (hF.tmp 37 rfl)) ?_; clear hF; intro a hF
      refine wpList_nil ?_
      refine hK9 _ _ ?_
      refine wp_ret ?_
      try simp only [Exit.then, Exit.inBlock]
      refine fin_ret hF (res1 (v := .bool (decide (c.value.length = 0))) hF rfl rfl) ⟨?_, hH.mods⟩
      congr 2; unfold rightC nameI; first | (simp [hc7, hc13, hc20, hc29, hc33]; done) | (simp [hc7, hc13, hc20, hc29, hc33]; omega) | (simp [hc7, hc13, hc20, hc29, hc33]; intros; omega) | (rw [Bool.eq_iff_iff]; simp [hc7, hc13, hc20, hc29, hc33]; first | omega | (intros; omega))
     ·have hc33 := hb33; try simp only [Bool.or_eq_true, Bool.and_eq_true, Bool.or_eq_false_iff, Bool.and_eq_false_iff, Bool.not_eq_true', Bool.not_eq_false', decide_eq_true_eq, decide_eq_false_iff_not, Bool.not_true, Bool.not_false] at hc33
      refine l_offg hF ((wanted_of hF rfl rfl rfl rfl).trans (by rw [hb33]; rfl)) rfl rfl ?_; clear hF; intro a hF
      refine l_offg hF ((wanted_of hF rfl rfl rfl rfl).trans (by rw [hb33]; rfl)) rfl rfl ?_; clear hF; intro a hF
      refine l_offg hF ((wanted_of hF rfl rfl rfl rfl).trans (by rw [hb33]; rfl)) rfl rfl ?_; clear hF; intro a hF
      refine l_at hF rfl rfl rfl (x_pickF (hF.tmp 33 rfl) hb33 rfl) ?_; clear hF; intro a hF
      refine l_at hF rfl rfl rfl (x_assign (hF.tmp 37 rfl)) ?_; clear hF; intro a hF
      refine wpList_nil ?_
      refine hK9 _ _ ?_
      refine wp_ret ?_
      try simp only [Exit.then, Exit.inBlock]
      refine fin_ret hF (res1 (v := .bool false) hF rfl rfl) ⟨?_, hH.mods⟩
      congr 2; unfold rightC nameI; first | (simp [hc7, hc13, hc20, hc29, hc33]; done) | (simp [hc7, hc13, hc20, hc29, hc33]; omega) | (simp [hc7, hc13, hc20, hc29, hc33]; intros; omega) | (rw [Bool.eq_iff_iff]; simp [hc7, hc13, hc20, hc29, hc33]; first | omega | (intros; omega))
    ·have hk29_4 := hc29; try simp only [Bool.or_eq_true, Bool.and_eq_true, Bool.or_eq_false_iff, Bool.and_eq_false_iff, Bool.not_eq_true', Bool.not_eq_false', decide_eq_true_eq, decide_eq_false_iff_not, Bool.not_true, Bool.not_false] at hc29
     refine wp_region_lit ?_
     refine l_at hF rfl rfl rfl (x_eql (hF.tmp 19 rfl) rfl) ?_; clear hF; intro a hF
     refine l_at hF rfl rfl rfl (x_assign (hF.tmp 31 rfl)) ?_; clear hF; intro a hF
     refine wpList_nil ?_
     refine hK7 _ _ ?_
     refine wp_cond_split (hF.tmp 29 rfl) (fun hc29 => ?_) (fun hc29 => ?_)
     ·have hk29_5 := hc29; try simp only [Bool.or_eq_true, Bool.and_eq_true, Bool.or_eq_false_iff, Bool.and_eq_false_iff, Bool.not_eq_true', Bool.not_eq_false', decide_eq_true_eq, decide_eq_false_iff_not, Bool.not_true, Bool.not_false] at hc29
      refine wp_seq_k fun khK10 hK10 => ?_
      refine wp_region_lit ?_
      refine l_at hF rfl rfl rfl (x_move (hF.tmp 3 rfl)) ?_; clear hF; intro a hF
      refine l_at hF rfl rfl rfl (x_move (hF.tmp 32 rfl)) ?_; clear hF; intro a hF
      refine split_bool hF 33 rfl (fun hb33 => ?_) (fun hb33 => ?_)
      ·have hc33 := hb33; try simp only [Bool.or_eq_true, Bool.and_eq_true, Bool.or_eq_false_iff, Bool.and_eq_false_iff, Bool.not_eq_true', Bool.not_eq_false', decide_eq_true_eq, decide_eq_false_iff_not, Bool.not_true, Bool.not_false] at hc33
       refine l_atg hF ((wanted_of hF rfl rfl rfl rfl).trans (by rw [hb33]; rfl)) rfl rfl (x_faddr Tryd.underlying41 rfl ty9 (by decide) (hF.tmp 1 rfl) rfl) ?_; clear hF; intro a hF
       refine l_atg hF ((wanted_of hF rfl rfl rfl rfl).trans (by rw [hb33]; rfl)) rfl rfl (x_load1 ty9 (hF.tmp 34 rfl) (blk_cell (hH.at 1 rfl) 2 rfl)) ?_; clear hF; intro a hF
       refine l_atg hF ((wanted_of hF rfl rfl rfl rfl).trans (by rw [hb33]; rfl)) rfl rfl (x_eqn0 (xs := c.value) (hF.tmp 35 rfl) (show _ = Value.string (strOfNums ([] : List Int)) by kernel_rfl)) ?_; clear hF; intro a hF
       refine l_at hF rfl rfl rfl (x_pickT (hF.tmp 33 rfl) hb33 (hF.tmp 36 rfl)) ?_; clear hF; intro a hF
       refine l_at hF rfl rfl rfl (x_assign (hF.tmp 37 rfl)) ?_; clear hF; intro a hF
       refine wpList_nil ?_
       refine hK10 _ _ ?_
       refine wp_ret ?_
       try simp only [Exit.then, Exit.inBlock]
       refine fin_ret hF (res1 (v := .bool (decide (c.value.length = 0))) hF rfl rfl) ⟨?_, hH.mods⟩
       congr 2; unfold rightC nameI; first | (simp [hc7, hc13, hc20, hc29, hc29, hc33]; done) | (simp [hc7, hc13, hc20, hc29, hc29, hc33]; omega) | (simp [hc7, hc13, hc20, hc29, hc29, hc33]; intros; omega) | (rw [Bool.eq_iff_iff]; simp [hc7, hc13, hc20, hc29, hc29, hc33]; first | omega | (intros; omega))
      ·have hc33 := hb33; try simp only [Bool.or_eq_true, Bool.and_eq_true, Bool.or_eq_false_iff, Bool.and_eq_false_iff, Bool.not_eq_true', Bool.not_eq_false', decide_eq_true_eq, decide_eq_false_iff_not, Bool.not_true, Bool.not_false] at hc33
       refine l_offg hF ((wanted_of hF rfl rfl rfl rfl).trans (by rw [hb33]; rfl)) rfl rfl ?_; clear hF; intro a hF
       refine l_offg hF ((wanted_of hF rfl rfl rfl rfl).trans (by rw [hb33]; rfl)) rfl rfl ?_; clear hF; intro a hF
       refine l_offg hF ((wanted_of hF rfl rfl rfl rfl).trans (by rw [hb33]; rfl)) rfl rfl ?_; clear hF; intro a hF
       refine l_at hF rfl rfl rfl (x_pickF (hF.tmp 33 rfl) hb33 rfl) ?_; clear hF; intro a hF
       refine l_at hF rfl rfl rfl (x_assign (hF.tmp 37 rfl)) ?_; clear hF; intro a hF
       refine wpList_nil ?_
       refine hK10 _ _ ?_
       refine wp_ret ?_
       try simp only [Exit.then, Exit.inBlock]
       refine fin_ret hF (res1 (v := .bool false) hF rfl rfl) ⟨?_, hH.mods⟩
       congr 2; unfold rightC nameI; first | (simp [hc7, hc13, hc20, hc29, hc29, hc33]; done) | (simp [hc7, hc13, hc20, hc29, hc29, hc33]; omega) | (simp [hc7, hc13, hc20, hc29, hc29, hc33]; intros; omega) | (rw [Bool.eq_iff_iff]; simp [hc7, hc13, hc20, hc29, hc29, hc33]; first | omega | (intros; omega))
     ·have hk29_6 := hc29; try simp only [Bool.or_eq_true, Bool.and_eq_true, Bool.or_eq_false_iff, Bool.and_eq_false_iff, Bool.not_eq_true', Bool.not_eq_false', decide_eq_true_eq, decide_eq_false_iff_not, Bool.not_true, Bool.not_false] at hc29
      refine wp_seq_k fun khK11 hK11 => ?_
      refine wp_region_lit ?_
      refine l_at hF rfl rfl rfl (x_eql (hF.tmp 19 rfl) rfl) ?_; clear hF; intro a hF
      refine l_at hF rfl rfl rfl (x_assign (hF.tmp 39 rfl)) ?_; clear hF; intro a hF
      refine wpList_nil ?_
      refine hK11 _ _ ?_
      refine wp_cond_split (hF.tmp 38 rfl) (fun hc38 => ?_) (fun hc38 => ?_)
      ·have hk38_7 := hc38; try simp only [Bool.or_eq_true, Bool.and_eq_true, Bool.or_eq_false_iff, Bool.and_eq_false_iff, Bool.not_eq_true', Bool.not_eq_false', decide_eq_true_eq, decide_eq_false_iff_not, Bool.not_true, Bool.not_false] at hc38
       refine wp_seq_k fun khK12 hK12 => ?_
       refine wp_region_lit ?_
       refine l_at hF rfl rfl rfl (x_faddr Tryd.underlying41 rfl ty9 (by decide) (hF.tmp 1 rfl) rfl) ?_; clear hF; intro a hF
       refine l_at hF rfl rfl rfl (x_load1 ty9 (hF.tmp 40 rfl) (blk_cell (hH.at 1 rfl) 1 rfl)) ?_; clear hF; intro a hF
       refine l_at hF rfl rfl rfl (x_eqn0 (xs := c.key) (hF.tmp 41 rfl) (show _ = Value.string (strOfNums ([] : List Int)) by kernel_rfl)) ?_; clear hF; intro a hF
       refine l_at hF rfl rfl rfl (x_move (hF.tmp 42 rfl)) ?_; clear hF; intro a hF
       have hb43 : ((decide (c.key.length = 0))) = false := (by simpa using hb7)
       refine l_offg hF ((wanted_of hF rfl rfl rfl rfl).trans (by rw [hb43]; rfl)) rfl rfl ?_; clear hF; intro a hF
       refine l_offg hF ((wanted_of hF rfl rfl rfl rfl).trans (by rw [hb43]; rfl)) rfl rfl ?_; clear hF; intro a hF
       refine l_offg hF ((wanted_of hF rfl rfl rfl rfl).trans (by rw [hb43]; rfl)) rfl rfl ?_; clear hF; intro a hF
       refine l_at hF rfl rfl rfl (x_pickF (hF.tmp 43 rfl) hb43 rfl) ?_; clear hF; intro a hF
       refine l_at hF rfl rfl rfl (x_move (hF.tmp 47 rfl)) ?_; clear hF; intro a hF
       refine l_offg hF ((wanted_of hF rfl rfl rfl rfl).trans rfl) rfl rfl ?_; clear hF; intro a hF
       refine l_offg hF ((wanted_of hF rfl rfl rfl rfl).trans rfl) rfl rfl ?_; clear hF; intro a hF
       refine l_offg hF ((wanted_of hF rfl rfl rfl rfl).trans rfl) rfl rfl ?_; clear hF; intro a hF
       refine l_at hF rfl rfl rfl (x_pickF (hF.tmp 48 rfl) rfl rfl) ?_; clear hF; intro a hF
       refine l_at hF rfl rfl rfl (x_assign (hF.tmp 52 rfl)) ?_; clear hF; intro a hF
       refine wpList_nil ?_
       refine hK12 _ _ ?_
       refine wp_ret ?_
       try simp only [Exit.then, Exit.inBlock]
       refine fin_ret hF (res1 (v := .bool false) hF rfl rfl) ⟨?_, hH.mods⟩
       congr 2; unfold rightC nameI; first | (simp [hc7, hc13, hc20, hc29, hc29, hc38]; done) | (simp [hc7, hc13, hc20, hc29, hc29, hc38]; omega) | (simp [hc7, hc13, hc20, hc29, hc29, hc38]; intros; omega) | (rw [Bool.eq_iff_iff]; simp [hc7, hc13, hc20, hc29, hc29, hc38]; first | omega | (intros; omega))
      ·have hk38_8 := hc38; try simp only [Bool.or_eq_true, Bool.and_eq_true, Bool.or_eq_false_iff, Bool.and_eq_false_iff, Bool.not_eq_true', Bool.not_eq_false', decide_eq_true_eq, decide_eq_false_iff_not, Bool.not_true, Bool.not_false] at hc38
       refine wp_skip ?_
       refine hK3 _ _ ?_
       refine wp_seq_k fun khK13 hK13 => ?_
       refine wp_region_lit ?_
       refine l_at hF rfl rfl rfl (x_assign rfl) ?_; clear hF; intro a hF
       refine wpList_nil ?_
       refine hK13 _ _ ?_
       refine wp_ret ?_
       try simp only [Exit.then, Exit.inBlock]
       refine fin_ret hF (res1 (v := .bool false) hF rfl rfl) ⟨?_, hH.mods⟩
       congr 2; unfold rightC nameI; first | (simp [hc7, hc13, hc20, hc29, hc29, hc38]; done) | (simp [hc7, hc13, hc20, hc29, hc29, hc38]; omega) | (simp [hc7, hc13, hc20, hc29, hc29, hc38]; intros; omega) | (rw [Bool.eq_iff_iff]; simp [hc7, hc13, hc20, hc29, hc29, hc38]; first | omega | (intros; omega))
  ·have hc13 := hb13; try simp only [Bool.or_eq_true, Bool.and_eq_true, Bool.or_eq_false_iff, Bool.and_eq_false_iff, Bool.not_eq_true', Bool.not_eq_false', decide_eq_true_eq, decide_eq_false_iff_not, Bool.not_true, Bool.not_false] at hc13
   refine l_offg hF ((wanted_of hF rfl rfl rfl rfl).trans (by rw [hb13]; rfl)) rfl rfl ?_; clear hF; intro a hF
   refine l_offg hF ((wanted_of hF rfl rfl rfl rfl).trans (by rw [hb13]; rfl)) rfl rfl ?_; clear hF; intro a hF
   refine l_offg hF ((wanted_of hF rfl rfl rfl rfl).trans (by rw [hb13]; rfl)) rfl rfl ?_; clear hF; intro a hF
   refine l_at hF rfl rfl rfl (x_pickF (hF.tmp 13 rfl) hb13 rfl) ?_; clear hF; intro a hF
   refine l_at hF rfl rfl rfl (x_assign (hF.tmp 17 rfl)) ?_; clear hF; intro a hF
   refine wpList_nil ?_
   refine hK2 _ _ ?_
   refine wp_seq_k fun khK14 hK14 => ?_
   refine wp_seq_k fun khK15 hK15 => ?_
   refine wp_region_lit ?_
   refine l_at hF rfl rfl rfl (x_faddr Tryd.underlying41 rfl ty36 (by decide) (hF.tmp 1 rfl) rfl) ?_; clear hF; intro a hF
   refine l_at hF rfl rfl rfl (x_load1 ty36 (hF.tmp 18 rfl) (blk_cell (hH.at 1 rfl) 0 rfl)) ?_; clear hF; intro a hF
   refine wpList_nil ?_
   refine hK15 _ _ ?_
   refine wp_block ?_
   refine wp_seq_k fun khK16 hK16 => ?_
   refine wp_region_lit ?_
   refine l_at hF rfl rfl rfl (x_eql (hF.tmp 19 rfl) rfl) ?_; clear hF; intro a hF
   refine l_at hF rfl rfl rfl (x_assign (hF.tmp 21 rfl)) ?_; clear hF; intro a hF
   refine wpList_nil ?_
   refine hK16 _ _ ?_
   refine wp_cond_split (hF.tmp 20 rfl) (fun hc20 => ?_) (fun hc20 => ?_)
   ·have hk20_9 := hc20; try simp only [Bool.or_eq_true, Bool.and_eq_true, Bool.or_eq_false_iff, Bool.and_eq_false_iff, Bool.not_eq_true', Bool.not_eq_false', decide_eq_true_eq, decide_eq_false_iff_not, Bool.not_true, Bool.not_false] at hc20
    refine wp_seq_k fun khK17 hK17 => ?_
    refine wp_region_lit ?_
    refine l_at hF rfl rfl rfl (x_move (hF.tmp 3 rfl)) ?_; clear hF; intro a hF
    refine l_at hF rfl rfl rfl (x_move (hF.tmp 22 rfl)) ?_; clear hF; intro a hF
    refine l_offg hF ((wanted_of hF rfl rfl rfl rfl).trans rfl) rfl rfl ?_; clear hF; intro a hF
    refine l_offg hF ((wanted_of hF rfl rfl rfl rfl).trans rfl) rfl rfl ?_; clear hF; intro a hF
    refine l_offg hF ((wanted_of hF rfl rfl rfl rfl).trans rfl) rfl rfl ?_; clear hF; intro a hF
    refine l_offg hF ((wanted_of hF rfl rfl rfl rfl).trans rfl) rfl rfl ?_; clear hF; intro a hF
    refine l_at hF rfl rfl rfl (x_pickF (hF.tmp 23 rfl) rfl rfl) ?_; clear hF; intro a hF
    refine l_at hF rfl rfl rfl (x_assign (hF.tmp 28 rfl)) ?_; clear hF; intro a hF
    refine wpList_nil ?_
    refine hK17 _ _ ?_
    refine wp_ret ?_
    try simp only [Exit.then, Exit.inBlock]
    refine fin_ret hF (res1 (v := .bool false) hF rfl rfl) ⟨?_, hH.mods⟩
    congr 2; unfold rightC nameI; first | (simp [hc7, hc13, hc20]; done) | (simp [hc7, hc13, hc20]; omega) | (simp [hc7, hc13, hc20]; intros; omega) | (rw [Bool.eq_iff_iff]; simp [hc7, hc13, hc20]; first | omega | (intros; omega))
   ·have hk20_10 := hc20; try simp only [Bool.or_eq_true, Bool.and_eq_true, Bool.or_eq_false_iff, Bool.and_eq_false_iff, Bool.not_eq_true', Bool.not_eq_false', decide_eq_true_eq, decide_eq_false_iff_not, Bool.not_true, Bool.not_false] at hc20
    refine wp_seq_k fun khK18 hK18 => ?_
    refine wp_seq_k fun khK19 hK19 => ?_
    refine wp_region_lit ?_
    refine l_at hF rfl rfl rfl (x_eql (hF.tmp 19 rfl) rfl) ?_; clear hF; intro a hF
    refine l_at hF rfl rfl rfl (x_assign (hF.tmp 30 rfl)) ?_; clear hF; intro a hF
    refine wpList_nil ?_
    refine hK19 _ _ ?_
    refine wp_cond_split (hF.tmp 29 rfl) (fun hc29 => ?_) (fun hc29 => ?_)
    ·have hk29_11 := hc29; try simp only [Bool.or_eq_true, Bool.and_eq_true, Bool.or_eq_false_iff, Bool.and_eq_false_iff, Bool.not_eq_true', Bool.not_eq_false', decide_eq_true_eq, decide_eq_false_iff_not, Bool.not_true, Bool.not_false] at hc29
     refine wp_skip ?_
     refine hK18 _ _ ?_
     refine wp_cond_true ((hF.tmp 29 rfl).trans (by rw [hk29_11])) ?_
     refine wp_seq_k fun khK20 hK20 => ?_
     refine wp_region_lit ?_
     refine l_at hF rfl rfl rfl (x_move (hF.tmp 3 rfl)) ?_; clear hF; intro a hF
     refine l_at hF rfl rfl rfl (x_move (hF.tmp 32 rfl)) ?_; clear hF; intro a hF
     refine l_offg hF ((wanted_of hF rfl rfl rfl rfl).trans rfl) rfl rfl ?_; clear hF; intro a hF
     refine l_offg hF ((wanted_of hF rfl rfl rfl rfl).trans rfl) rfl rfl ?_; clear hF; intro a hF
     refine l_offg hF ((wanted_of hF rfl rfl rfl rfl).trans rfl) rfl rfl ?_; clear hF; intro a hF
     refine l_at hF rfl rfl rfl (x_pickF (hF.tmp 33 rfl) rfl rfl) ?_; clear hF; intro a hF
     refine l_at hF rfl rfl rfl (x_assign (hF.tmp 37 rfl)) ?_; clear hF; intro a hF
     refine wpList_nil ?_
     refine hK20 _ _ ?_
     refine wp_ret ?_
     try simp only [Exit.then, Exit.inBlock]
     refine fin_ret hF (res1 (v := .bool false) hF rfl rfl) ⟨?_, hH.mods⟩
     congr 2; unfold rightC nameI; first | (simp [hc7, hc13, hc20, hc29]; done) | (simp [hc7, hc13, hc20, hc29]; omega) | (simp [hc7, hc13, hc20, hc29]; intros; omega) | (rw [Bool.eq_iff_iff]; simp [hc7, hc13, hc20, hc29]; first | omega | (intros; omega))
    ·have hk29_12 := hc29; try simp only [Bool.or_eq_true, Bool.and_eq_true, Bool.or_eq_false_iff, Bool.and_eq_false_iff, Bool.not_eq_true', Bool.not_eq_false', decide_eq_true_eq, decide_eq_false_iff_not, Bool.not_true, Bool.not_false] at hc29
     refine wp_region_lit ?_
     refine l_at hF rfl rfl rfl (x_eql (hF.tmp 19 rfl) rfl) ?_; clear hF; intro a hF
     refine l_at hF rfl rfl rfl (x_assign (hF.tmp 31 rfl)) ?_; clear hF; intro a hF
     refine wpList_nil ?_
     refine hK18 _ _ ?_
     refine wp_cond_split (hF.tmp 29 rfl) (fun hc29 => ?_) (fun hc29 => ?_)
     ·have hk29_13 := hc29; try simp only [Bool.or_eq_true, Bool.and_eq_true, Bool.or_eq_false_iff, Bool.and_eq_false_iff, Bool.not_eq_true', Bool.not_eq_false', decide_eq_true_eq, decide_eq_false_iff_not, Bool.not_true, Bool.not_false] at hc29
      refine wp_seq_k fun khK21 hK21 => ?_
      refine wp_region_lit ?_
      refine l_at hF rfl rfl rfl (x_move (hF.tmp 3 rfl)) ?_; clear hF; intro a hF
      refine l_at hF rfl rfl rfl (x_move (hF.tmp 32 rfl)) ?_; clear hF; intro a hF
      refine l_offg hF ((wanted_of hF rfl rfl rfl rfl).trans rfl) rfl rfl ?_; clear hF; intro a hF
      refine l_offg hF ((wanted_of hF rfl rfl rfl rfl).trans rfl) rfl rfl ?_; clear hF; intro a hF
      refine l_offg hF ((wanted_of hF rfl rfl rfl rfl).trans rfl) rfl rfl ?_; clear hF; intro a hF
      refine l_at hF rfl rfl rfl (x_pickF (hF.tmp 33 rfl) rfl rfl) ?_; clear hF; intro a hF
      refine l_at hF rfl rfl rfl (x_assign (hF.tmp 37 rfl)) ?_; clear hF; intro a hF
      refine wpList_nil ?_
      refine hK21 _ _ ?_
      refine wp_ret ?_
      try simp only [Exit.then, Exit.inBlock]
      refine fin_ret hF (res1 (v := .bool false) hF rfl rfl) ⟨?_, hH.mods⟩
      congr 2; unfold rightC nameI; first | (simp [hc7, hc13, hc20, hc29, hc29]; done) | (simp [hc7, hc13, hc20, hc29, hc29]; omega) | (simp [hc7, hc13, hc20, hc29, hc29]; intros; omega) | (rw [Bool.eq_iff_iff]; simp [hc7, hc13, hc20, hc29, hc29]; first | omega | (intros; omega))
     ·have hk29_14 := hc29; try simp only [Bool.or_eq_true, Bool.and_eq_true, Bool.or_eq_false_iff, Bool.and_eq_false_iff, Bool.not_eq_true', Bool.not_eq_false', decide_eq_true_eq, decide_eq_false_iff_not, Bool.not_true, Bool.not_false] at hc29
      refine wp_seq_k fun khK22 hK22 => ?_
      refine wp_region_lit ?_
      refine l_at hF rfl rfl rfl (x_eql (hF.tmp 19 rfl) rfl) ?_; clear hF; intro a hF
      refine l_at hF rfl rfl rfl (x_assign (hF.tmp 39 rfl)) ?_; clear hF; intro a hF
      refine wpList_nil ?_
      refine hK22 _ _ ?_
      refine wp_cond_split (hF.tmp 38 rfl) (fun hc38 => ?_) (fun hc38 => ?_)
      ·have hk38_15 := hc38; try simp only [Bool.or_eq_true, Bool.and_eq_true, Bool.or_eq_false_iff, Bool.and_eq_false_iff, Bool.not_eq_true', Bool.not_eq_false', decide_eq_true_eq, decide_eq_false_iff_not, Bool.not_true, Bool.not_false] at hc38
       refine wp_seq_k fun khK23 hK23 => ?_
       refine wp_region_lit ?_
       refine l_at hF rfl rfl rfl (x_faddr Tryd.underlying41 rfl ty9 (by decide) (hF.tmp 1 rfl) rfl) ?_; clear hF; intro a hF
       refine l_at hF rfl rfl rfl (x_load1 ty9 (hF.tmp 40 rfl) (blk_cell (hH.at 1 rfl) 1 rfl)) ?_; clear hF; intro a hF
       refine l_at hF rfl rfl rfl (x_eqn0 (xs := c.key) (hF.tmp 41 rfl) (show _ = Value.string (strOfNums ([] : List Int)) by kernel_rfl)) ?_; clear hF; intro a hF
       refine l_at hF rfl rfl rfl (x_move (hF.tmp 42 rfl)) ?_; clear hF; intro a hF
       have hb43 : ((decide (c.key.length = 0))) = false := (by simpa using hb7)
       refine l_offg hF ((wanted_of hF rfl rfl rfl rfl).trans (by rw [hb43]; rfl)) rfl rfl ?_; clear hF; intro a hF
       refine l_offg hF ((wanted_of hF rfl rfl rfl rfl).trans (by rw [hb43]; rfl)) rfl rfl ?_; clear hF; intro a hF
       refine l_offg hF ((wanted_of hF rfl rfl rfl rfl).trans (by rw [hb43]; rfl)) rfl rfl ?_; clear hF; intro a hF
       refine l_at hF rfl rfl rfl (x_pickF (hF.tmp 43 rfl) hb43 rfl) ?_; clear hF; intro a hF
       refine l_at hF rfl rfl rfl (x_move (hF.tmp 47 rfl)) ?_; clear hF; intro a hF
       refine l_offg hF ((wanted_of hF rfl rfl rfl rfl).trans rfl) rfl rfl ?_; clear hF; intro a hF
       refine l_offg hF ((wanted_of hF rfl rfl rfl rfl).trans rfl) rfl rfl ?_; clear hF; intro a hF
       refine l_offg hF ((wanted_of hF rfl rfl rfl rfl).trans rfl) rfl rfl ?_; clear hF; intro a hF
       refine l_at hF rfl rfl rfl (x_pickF (hF.tmp 48 rfl) rfl rfl) ?_; clear hF; intro a hF
       refine l_at hF rfl rfl rfl (x_assign (hF.tmp 52 rfl)) ?_; clear hF; intro a hF
       refine wpList_nil ?_
       refine hK23 _ _ ?_
       refine wp_ret ?_
       try simp only [Exit.then, Exit.inBlock]
       refine fin_ret hF (res1 (v := .bool false) hF rfl rfl) ⟨?_, hH.mods⟩
       congr 2; unfold rightC nameI; first | (simp [hc7, hc13, hc20, hc29, hc29, hc38]; done) | (simp [hc7, hc13, hc20, hc29, hc29, hc38]; omega) | (simp [hc7, hc13, hc20, hc29, hc29, hc38]; intros; omega) | (rw [Bool.eq_iff_iff]; simp [hc7, hc13, hc20, hc29, hc29, hc38]; first | omega | (intros; omega))
      ·have hk38_16 := hc38; try simp only [Bool.or_eq_true, Bool.and_eq_true, Bool.or_eq_false_iff, Bool.and_eq_false_iff, Bool.not_eq_true', Bool.not_eq_false', decide_eq_true_eq, decide_eq_false_iff_not, Bool.not_true, Bool.not_false] at hc38
       refine wp_skip ?_
       refine hK14 _ _ ?_
       refine wp_seq_k fun khK24 hK24 => ?_
       refine wp_region_lit ?_
       refine l_at hF rfl rfl rfl (x_assign rfl) ?_; clear hF; intro a hF
       refine wpList_nil ?_
       refine hK24 _ _ ?_
       refine wp_ret ?_
       try simp only [Exit.then, Exit.inBlock]
       refine fin_ret hF (res1 (v := .bool false) hF rfl rfl) ⟨?_, hH.mods⟩
       congr 2; unfold rightC nameI; first | (simp [hc7, hc13, hc20, hc29, hc29, hc38]; done) | (simp [hc7, hc13, hc20, hc29, hc29, hc38]; omega) | (simp [hc7, hc13, hc20, hc29, hc29, hc38]; intros; omega) | (rw [Bool.eq_iff_iff]; simp [hc7, hc13, hc20, hc29, hc29, hc38]; first | omega | (intros; omega))
 ·have hc7 := hb7; try simp only [Bool.or_eq_true, Bool.and_eq_true, Bool.or_eq_false_iff, Bool.and_eq_false_iff, Bool.not_eq_true', Bool.not_eq_false', decide_eq_true_eq, decide_eq_false_iff_not, Bool.not_true, Bool.not_false] at hc7
  refine l_offg hF ((wanted_of hF rfl rfl rfl rfl).trans (by rw [hb7]; rfl)) rfl rfl ?_; clear hF; intro a hF
  refine l_offg hF ((wanted_of hF rfl rfl rfl rfl).trans (by rw [hb7]; rfl)) rfl rfl ?_; clear hF; intro a hF
  refine l_offg hF ((wanted_of hF rfl rfl rfl rfl).trans (by rw [hb7]; rfl)) rfl rfl ?_; clear hF; intro a hF
  refine l_offg hF ((wanted_of hF rfl rfl rfl rfl).trans (by rw [hb7]; rfl)) rfl rfl ?_; clear hF; intro a hF
  refine l_at hF rfl rfl rfl (x_pickF (hF.tmp 7 rfl) hb7 rfl) ?_; clear hF; intro a hF
  refine l_at hF rfl rfl rfl (x_move (hF.tmp 12 rfl)) ?_; clear hF; intro a hF
  refine l_offg hF ((wanted_of hF rfl rfl rfl rfl).trans rfl) rfl rfl ?_; clear hF; intro a hF
  refine l_offg hF ((wanted_of hF rfl rfl rfl rfl).trans rfl) rfl rfl ?_; clear hF; intro a hF
  refine l_offg hF ((wanted_of hF rfl rfl rfl rfl).trans rfl) rfl rfl ?_; clear hF; intro a hF
  refine l_at hF rfl rfl rfl (x_pickF (hF.tmp 13 rfl) rfl rfl) ?_; clear hF; intro a hF
  refine l_at hF rfl rfl rfl (x_assign (hF.tmp 17 rfl)) ?_; clear hF; intro a hF
  refine wpList_nil ?_
  refine hK2 _ _ ?_
  refine wp_seq_k fun khK25 hK25 => ?_
  refine wp_seq_k fun khK26 hK26 => ?_
  refine wp_region_lit ?_
  refine l_at hF rfl rfl rfl (x_faddr Tryd.underlying41 rfl ty36 (by decide) (hF.tmp 1 rfl) rfl) ?_; clear hF; intro a hF
  refine l_at hF rfl rfl rfl (x_load1 ty36 (hF.tmp 18 rfl) (blk_cell (hH.at 1 rfl) 0 rfl)) ?_; clear hF; intro a hF
  refine wpList_nil ?_
  refine hK26 _ _ ?_
  refine wp_block ?_
  refine wp_seq_k fun khK27 hK27 => ?_
  refine wp_region_lit ?_
  refine l_at hF rfl rfl rfl (x_eql (hF.tmp 19 rfl) rfl) ?_; clear hF; intro a hF
  refine l_at hF rfl rfl rfl (x_assign (hF.tmp 21 rfl)) ?_; clear hF; intro a hF
  refine wpList_nil ?_
  refine hK27 _ _ ?_
  refine wp_cond_split (hF.tmp 20 rfl) (fun hc20 => ?_) (fun hc20 => ?_)
  ·have hk20_17 := hc20; try simp only [Bool.or_eq_true, Bool.and_eq_true, Bool.or_eq_false_iff, Bool.and_eq_false_iff, Bool.not_eq_true', Bool.not_eq_false', decide_eq_true_eq, decide_eq_false_iff_not, Bool.not_true, Bool.not_false] at hc20
   refine wp_seq_k fun khK28 hK28 => ?_
   refine wp_region_lit ?_
   refine l_at hF rfl rfl rfl (x_move (hF.tmp 3 rfl)) ?_; clear hF; intro a hF
   refine l_at hF rfl rfl rfl (x_move (hF.tmp 22 rfl)) ?_; clear hF; intro a hF
   refine l_offg hF ((wanted_of hF rfl rfl rfl rfl).trans rfl) rfl rfl ?_; clear hF; intro a hF
   refine l_offg hF ((wanted_of hF rfl rfl rfl rfl).trans rfl) rfl rfl ?_; clear hF; intro a hF
   refine l_offg hF ((wanted_of hF rfl rfl rfl rfl).trans rfl) rfl rfl ?_; clear hF; intro a hF
   refine l_offg hF ((wanted_of hF rfl rfl rfl rfl).trans rfl) rfl rfl ?_; clear hF; intro a hF
   refine l_at hF rfl rfl rfl (x_pickF (hF.tmp 23 rfl) rfl rfl) ?_; clear hF; intro a hF
   refine l_at hF rfl rfl rfl (x_assign (hF.tmp 28 rfl)) ?_; clear hF; intro a hF
   refine wpList_nil ?_
   refine hK28 _ _ ?_
   refine wp_ret ?_
   try simp only [Exit.then, Exit.inBlock]
   refine fin_ret hF (res1 (v := .bool false) hF rfl rfl) ⟨?_, hH.mods⟩
   congr 2; unfold rightC nameI; first | (simp [hc7, hc20]; done) | (simp [hc7, hc20]; omega) | (simp [hc7, hc20]; intros; omega) | (rw [Bool.eq_iff_iff]; simp [hc7, hc20]; first | omega | (intros; omega))
  ·have hk20_18 := hc20; try simp only [Bool.or_eq_true, Bool.and_eq_true, Bool.or_eq_false_iff, Bool.and_eq_false_iff, Bool.not_eq_true', Bool.not_eq_false', decide_eq_true_eq, decide_eq_false_iff_not, Bool.not_true, Bool.not_false] at hc20
   refine wp_seq_k fun khK29 hK29 => ?_
   refine wp_seq_k fun khK30 hK30 => ?_
   refine wp_region_lit ?_
   refine l_at hF rfl rfl rfl (x_eql (hF.tmp 19 rfl) rfl) ?_; clear hF; intro a hF
   refine l_at hF rfl rfl rfl (x_assign (hF.tmp 30 rfl)) ?_; clear hF; intro a hF
   refine wpList_nil ?_
   refine hK30 _ _ ?_
   refine wp_cond_split (hF.tmp 29 rfl) (fun hc29 => ?_) (fun hc29 => ?_)
   ·have hk29_19 := hc29; try simp only [Bool.or_eq_true, Bool.and_eq_true, Bool.or_eq_false_iff, Bool.and_eq_false_iff, Bool.not_eq_true', Bool.not_eq_false', decide_eq_true_eq, decide_eq_false_iff_not, Bool.not_true, Bool.not_false] at hc29
    refine wp_skip ?_
    refine hK29 _ _ ?_
    refine wp_cond_true ((hF.tmp 29 rfl).trans (by rw [hk29_19])) ?_
    refine wp_seq_k fun khK31 hK31 => ?_
    refine wp_region_lit ?_
    refine l_at hF rfl rfl rfl (x_move (hF.tmp 3 rfl)) ?_; clear hF; intro a hF
    refine l_at hF rfl rfl rfl (x_move (hF.tmp 32 rfl)) ?_; clear hF; intro a hF
    refine l_offg hF ((wanted_of hF rfl rfl rfl rfl).trans rfl) rfl rfl ?_; clear hF; intro a hF
    refine l_offg hF ((wanted_of hF rfl rfl rfl rfl).trans rfl) rfl rfl ?_; clear hF; intro a hF
    refine l_offg hF ((wanted_of hF rfl rfl rfl rfl).trans rfl) rfl rfl ?_; clear hF; intro a hF
    refine l_at hF rfl rfl rfl (x_pickF (hF.tmp 33 rfl) rfl rfl) ?_; clear hF; intro a hF
    refine l_at hF rfl rfl rfl (x_assign (hF.tmp 37 rfl)) ?_; clear hF; intro a hF
    refine wpList_nil ?_
    refine hK31 _ _ ?_
    refine wp_ret ?_
    try simp only [Exit.then, Exit.inBlock]
    refine fin_ret hF (res1 (v := .bool false) hF rfl rfl) ⟨?_, hH.mods⟩
    congr 2; unfold rightC nameI; first | (simp [hc7, hc20, hc29]; done) | (simp [hc7, hc20, hc29]; omega) | (simp [hc7, hc20, hc29]; intros; omega) | (rw [Bool.eq_iff_iff]; simp [hc7, hc20, hc29]; first | omega | (intros; omega))
   ·have hk29_20 := hc29; try simp only [Bool.or_eq_true, Bool.and_eq_true, Bool.or_eq_false_iff, Bool.and_eq_false_iff, Bool.not_eq_true', Bool.not_eq_false', decide_eq_true_eq, decide_eq_false_iff_not, Bool.not_true, Bool.not_false] at hc29
    refine wp_region_lit ?_
    refine l_at hF rfl rfl rfl (x_eql (hF.tmp 19 rfl) rfl) ?_; clear hF; intro a hF
    refine l_at hF rfl rfl rfl (x_assign (hF.tmp 31 rfl)) ?_; clear hF; intro a hF
    refine wpList_nil ?_
    refine hK29 _ _ ?_
    refine wp_cond_split (hF.tmp 29 rfl) (fun hc29 => ?_) (fun hc29 => ?_)
    ·have hk29_21 := hc29; try simp only [Bool.or_eq_true, Bool.and_eq_true, Bool.or_eq_false_iff, Bool.and_eq_false_iff, Bool.not_eq_true', Bool.not_eq_false', decide_eq_true_eq, decide_eq_false_iff_not, Bool.not_true, Bool.not_false] at hc29
     refine wp_seq_k fun khK32 hK32 => ?_
     refine wp_region_lit ?_
     refine l_at hF rfl rfl rfl (x_move (hF.tmp 3 rfl)) ?_; clear hF; intro a hF
     refine l_at hF rfl rfl rfl (x_move (hF.tmp 32 rfl)) ?_; clear hF; intro a hF
     refine l_offg hF ((wanted_of hF rfl rfl rfl rfl).trans rfl) rfl rfl ?_; clear hF; intro a hF
     refine l_offg hF ((wanted_of hF rfl rfl rfl rfl).trans rfl) rfl rfl ?_; clear hF; intro a hF
     refine l_offg hF ((wanted_of hF rfl rfl rfl rfl).trans rfl) rfl rfl ?_; clear hF; intro a hF
     refine l_at hF rfl rfl rfl (x_pickF (hF.tmp 33 rfl) rfl rfl) ?_; clear hF; intro a hF
     refine l_at hF rfl rfl rfl (x_assign (hF.tmp 37 rfl)) ?_; clear hF; intro a hF
     refine wpList_nil ?_
     refine hK32 _ _ ?_
     refine wp_ret ?_
     try simp only [Exit.then, Exit.inBlock]
     refine fin_ret hF (res1 (v := .bool false) hF rfl rfl) ⟨?_, hH.mods⟩
     congr 2; unfold rightC nameI; first | (simp [hc7, hc20, hc29, hc29]; done) | (simp [hc7, hc20, hc29, hc29]; omega) | (simp [hc7, hc20, hc29, hc29]; intros; omega) | (rw [Bool.eq_iff_iff]; simp [hc7, hc20, hc29, hc29]; first | omega | (intros; omega))
    ·have hk29_22 := hc29; try simp only [Bool.or_eq_true, Bool.and_eq_true, Bool.or_eq_false_iff, Bool.and_eq_false_iff, Bool.not_eq_true', Bool.not_eq_false', decide_eq_true_eq, decide_eq_false_iff_not, Bool.not_true, Bool.not_false] at hc29
     refine wp_seq_k fun khK33 hK33 => ?_
     refine wp_region_lit ?_
     refine l_at hF rfl rfl rfl (x_eql (hF.tmp 19 rfl) rfl) ?_; clear hF; intro a hF
     refine l_at hF rfl rfl rfl (x_assign (hF.tmp 39 rfl)) ?_; clear hF; intro a hF
     refine wpList_nil ?_
     refine hK33 _ _ ?_
     refine wp_cond_split (hF.tmp 38 rfl) (fun hc38 => ?_) (fun hc38 => ?_)
     ·have hk38_23 := hc38; try simp only [Bool.or_eq_true, Bool.and_eq_true, Bool.or_eq_false_iff, Bool.and_eq_false_iff, Bool.not_eq_true', Bool.not_eq_false', decide_eq_true_eq, decide_eq_false_iff_not, Bool.not_true, Bool.not_false] at hc38
      refine wp_seq_k fun khK34 hK34 => ?_
      refine wp_region_lit ?_
      refine l_at hF rfl rfl rfl (x_faddr Tryd.underlying41 rfl ty9 (by decide) (hF.tmp 1 rfl) rfl) ?_; clear hF; intro a hF
      refine l_at hF rfl rfl rfl (x_load1 ty9 (hF.tmp 40 rfl) (blk_cell (hH.at 1 rfl) 1 rfl)) ?_; clear hF; intro a hF
      refine l_at hF rfl rfl rfl (x_eqn0 (xs := c.key) (hF.tmp 41 rfl) (show _ = Value.string (strOfNums ([] : List Int)) by kernel_rfl)) ?_; clear hF; intro a hF
      refine l_at hF rfl rfl rfl (x_move (hF.tmp 42 rfl)) ?_; clear hF; intro a hF
      have hb43 : ((decide (c.key.length = 0))) = true := (by simpa using hb7)
      refine l_atg hF ((wanted_of hF rfl rfl rfl rfl).trans (by rw [hb43]; rfl)) rfl rfl (x_faddr Tryd.underlying41 rfl ty9 (by decide) (hF.tmp 1 rfl) rfl) ?_; clear hF; intro a hF
      refine l_atg hF ((wanted_of hF rfl rfl rfl rfl).trans (by rw [hb43]; rfl)) rfl rfl (x_load1 ty9 (hF.tmp 44 rfl) (blk_cell (hH.at 1 rfl) 2 rfl)) ?_; clear hF; intro a hF
      refine l_atg hF ((wanted_of hF rfl rfl rfl rfl).trans (by rw [hb43]; rfl)) rfl rfl (x_eqn0 (xs := c.value) (hF.tmp 45 rfl) (show _ = Value.string (strOfNums ([] : List Int)) by kernel_rfl)) ?_; clear hF; intro a hF
      refine l_at hF rfl rfl rfl (x_pickT (hF.tmp 43 rfl) hb43 (hF.tmp 46 rfl)) ?_; clear hF; intro a hF
      refine l_at hF rfl rfl rfl (x_move (hF.tmp 47 rfl)) ?_; clear hF; intro a hF
      refine split_bool hF 48 rfl (fun hb48 => ?_) (fun hb48 => ?_)
      ·have hc48 := hb48; try simp only [Bool.or_eq_true, Bool.and_eq_true, Bool.or_eq_false_iff, Bool.and_eq_false_iff, Bool.not_eq_true', Bool.not_eq_false', decide_eq_true_eq, decide_eq_false_iff_not, Bool.not_true, Bool.not_false] at hc48
       refine l_atg hF ((wanted_of hF rfl rfl rfl rfl).trans (by rw [hb48]; rfl)) rfl rfl (x_faddr Tryd.underlying41 rfl ty39 (by decide) (hF.tmp 1 rfl) rfl) ?_; clear hF; intro a hF
       refine l_atg hF ((wanted_of hF rfl rfl rfl rfl).trans (by rw [hb48]; rfl)) rfl rfl (x_loadn (cs := #[.string (strOfNums c.timer.name), .int .i64 c.timer.ver, .int .u64 c.timer.tick, .int .u64 c.timer.every, .slice Ac0 c.timer.steps.length cc0]) ty39 (hF.tmp 49 rfl) rfl (blk_sub (hH.at 1 rfl) 3 5 rfl)) ?_; clear hF; intro a hF
       refine wpList_on ((wanted_of hF rfl rfl rfl rfl).trans (by rw [hb48]; rfl)) fun K hK => ?_
       refine w_call hF (x_enter Tryd.func60 (by kernel_rfl) rfl (by simp only [List.map_toArray, List.map_cons, List.map_nil, hF.tmp 50 rfl] <;> rfl)) (rightT_calls _ (hH.holds 990 _ rfl) ((hH.rd 900 rfl)) hb.timer) rfl rfl ?_
       rintro _ w ⟨rfl, hm_⟩; refine ⟨_, rfl, ?_⟩; clear hF; intro a hF; have hH := hH.same hm_
       refine hK _ _ ?_; clear hK K
       refine l_at hF rfl rfl rfl (x_pickT (hF.tmp 48 rfl) hb48 (hF.tmp 51 rfl)) ?_; clear hF; intro a hF
       refine l_at hF rfl rfl rfl (x_assign (hF.tmp 52 rfl)) ?_; clear hF; intro a hF
       refine wpList_nil ?_
       refine hK34 _ _ ?_
       refine wp_ret ?_
       try simp only [Exit.then, Exit.inBlock]
       refine fin_ret hF (res1 (v := .bool (rightT c.timer)) hF rfl rfl) ⟨?_, hH.mods⟩
       congr 2; unfold rightC nameI; first | (simp [hc7, hc20, hc29, hc29, hc38, hc48]; done) | (simp [hc7, hc20, hc29, hc29, hc38, hc48]; omega) | (simp [hc7, hc20, hc29, hc29, hc38, hc48]; intros; omega) | (rw [Bool.eq_iff_iff]; simp [hc7, hc20, hc29, hc29, hc38, hc48]; first | omega | (intros; omega))
      ·have hc48 := hb48; try simp only [Bool.or_eq_true, Bool.and_eq_true, Bool.or_eq_false_iff, Bool.and_eq_false_iff, Bool.not_eq_true', Bool.not_eq_false', decide_eq_true_eq, decide_eq_false_iff_not, Bool.not_true, Bool.not_false] at hc48
       refine l_offg hF ((wanted_of hF rfl rfl rfl rfl).trans (by rw [hb48]; rfl)) rfl rfl ?_; clear hF; intro a hF
       refine l_offg hF ((wanted_of hF rfl rfl rfl rfl).trans (by rw [hb48]; rfl)) rfl rfl ?_; clear hF; intro a hF
       refine l_offg hF ((wanted_of hF rfl rfl rfl rfl).trans (by rw [hb48]; rfl)) rfl rfl ?_; clear hF; intro a hF
       refine l_at hF rfl rfl rfl (x_pickF (hF.tmp 48 rfl) hb48 rfl) ?_; clear hF; intro a hF
       refine l_at hF rfl rfl rfl (x_assign (hF.tmp 52 rfl)) ?_; clear hF; intro a hF
       refine wpList_nil ?_
       refine hK34 _ _ ?_
       refine wp_ret ?_
       try simp only [Exit.then, Exit.inBlock]
       refine fin_ret hF (res1 (v := .bool false) hF rfl rfl) ⟨?_, hH.mods⟩
       congr 2; unfold rightC nameI; first | (simp [hc7, hc20, hc29, hc29, hc38, hc48]; done) | (simp [hc7, hc20, hc29, hc29, hc38, hc48]; omega) | (simp [hc7, hc20, hc29, hc29, hc38, hc48]; intros; omega) | (rw [Bool.eq_iff_iff]; simp [hc7, hc20, hc29, hc29, hc38, hc48]; first | omega | (intros; omega))
     ·have hk38_24 := hc38; try simp only [Bool.or_eq_true, Bool.and_eq_true, Bool.or_eq_false_iff, Bool.and_eq_false_iff, Bool.not_eq_true', Bool.not_eq_false', decide_eq_true_eq, decide_eq_false_iff_not, Bool.not_true, Bool.not_false] at hc38
      refine wp_skip ?_
      refine hK25 _ _ ?_
      refine wp_seq_k fun khK35 hK35 => ?_
      refine wp_region_lit ?_
      refine l_at hF rfl rfl rfl (x_assign rfl) ?_; clear hF; intro a hF
      refine wpList_nil ?_
      refine hK35 _ _ ?_
      refine wp_ret ?_
      try simp only [Exit.then, Exit.inBlock]
      refine fin_ret hF (res1 (v := .bool false) hF rfl rfl) ⟨?_, hH.mods⟩
      congr 2; unfold rightC nameI; first | (simp [hc7, hc20, hc29, hc29, hc38]; done) | (simp [hc7, hc20, hc29, hc29, hc38]; omega) | (simp [hc7, hc20, hc29, hc29, hc38]; intros; omega) | (rw [Bool.eq_iff_iff]; simp [hc7, hc20, hc29, hc29, hc38]; first | omega | (intros; omega))
set_option maxRecDepth 100000 in
set_option maxHeartbeats 1000000 in
theorem add_calls (w0 : World) {bl : Nat} {Al : Option Addr} {fs : List Fld} {cl : Nat} {okl : Nat → Prop} (hok : (Asn.all [(804, .blk bl (.cells #[.slice Al fs.length cl] 100 (0, 0))), (840, .row FE 99 (.slice Al fs.length cl) fs okl)]).ok w0) (hfl : fs.length ≤ 100) (t : Int) {okd : Nat → Prop} {Ad : Option Addr} {d : List Int} {cd : Nat} (hrd : Rd (.int .u8) w0 okd Ad d cd) (hin : ∀ k, okd k → k < w0.heap.size) (hap : ∀ k, okd k → ¬ OwnL [(804, .blk bl (.cells #[.slice Al fs.length cl] 100 (0, 0))), (840, .row FE 99 (.slice Al fs.length cl) fs okl)] k) : Calls Tryd.prog 46 #[.int .i64 t, .slice Ad d.length cd, .pointer (some ⟨bl, 0, none⟩)] w0 fun e w' => ∃ An cn okn, e = .returned (.tuple #[]) ∧ Grew (fun _ => False) okd (Asn.all [(804, .blk bl (.cells #[.slice Al fs.length cl] 100 (0, 0))), (840, .row FE 99 (.slice Al fs.length cl) fs okl)]) w0 w' (Asn.all [(804, .blk bl (.cells #[.slice An (fs ++ [((t, d) : Fld)]).length cn] 100 (0, 0))), (840, .row FE 99 (.slice An (fs ++ [((t, d) : Fld)]).length cn) (fs ++ [((t, d) : Fld)]) okn)]) := by
 refine calls_of_wp Tryd.func46 rfl ?_
 have hF := Fr.enter #[.int .i64 t, .slice Ad d.length cd, .pointer (some ⟨bl, 0, none⟩)] 11 (slotsOf [.int .i64 t, .slice Ad d.length cd, .pointer (some ⟨bl, 0, none⟩)] 0) (Nat.le_of_ble_eq_true rfl) (fun i v h => by have h2 := (get_slotsOf _ 0 i v h).2; simpa only [List.getElem?_toArray, Nat.sub_zero] using h2)
 rw [Tryd.ntmps46]
 revert hF; generalize (⟨(#[.int .i64 t, .slice Ad d.length cd, .pointer (some ⟨bl, 0, none⟩)] : Array Value) ++ Array.replicate (11 - (#[.int .i64 t, .slice Ad d.length cd, .pointer (some ⟨bl, 0, none⟩)] : Array Value).size) undef, []⟩ : Act) = a; intro hF
 have hH := Hp.ofAll hok.holds
 have hH := hH.readable 901 hrd hin (fun i A_ hA k hk hk2 => hap k hk2 ⟨i, A_, hA, hk⟩)
 refine wp_region_lit ?_
 refine l_at hF rfl rfl rfl (x_load1 ty100 (hF.tmp 2 rfl) (blk_cell (hH.at 804 rfl) 0 rfl)) ?_; clear hF; intro a hF
 refine l_at hF rfl rfl rfl (x_move (hF.tmp 0 rfl)) ?_; clear hF; intro a hF
 refine l_at hF rfl rfl rfl (x_move (hF.tmp 1 rfl)) ?_; clear hF; intro a hF
 refine l_at hF rfl rfl rfl (x_buildS (cells := #[.int .i64 t, .slice Ad d.length cd]) (places := #[(0, 1), (1, 1)]) Tryd.underlying99 ty99 (by kernel_rfl) (by simp only [List.map_toArray, List.map_cons, List.map_nil, hF.tmp 6 rfl, hF.tmp 7 rfl] <;> rfl) rfl) ?_; clear hF; intro a hF
 refine wpList_plain rfl fun K hK => ?_
 refine w_lit1 9 FE ((t, d) : Fld) #[.int .i64 t, .slice Ad d.length cd] okd hF hH rfl Tryd.underlying100 ty99 (by simp only [List.map_toArray, List.map_cons, List.map_nil, hF.tmp 8 rfl] <;> rfl) (by decide) (by kernel_rfl) (fld_mk (f := ((t, d) : Fld)) ((hH.rd 901 rfl))) (fun kb hk => ⟨901, _, rfl, hk⟩) ?_
 clear hF hH; intro a w b9 hF hb9_ hH
 refine hK _ _ ?_; clear hK K
 refine wpList_plain rfl fun K hK => ?_
 refine w_append 840 9 (xs := fs) (ys := ([((t, d) : Fld)])) hF hH rfl Tryd.underlying100 ty99 rfl rfl rfl rfl ((hH.rd 9 rfl)) (by intro k_ hk_; exact .inr hk_) (hF.tmp 5 rfl) (hF.tmp 9 rfl) (by simp only [List.length_cons, List.length_nil]; omega) (by simp only [List.length_cons, List.length_nil, maxLen]; omega) (fun kb => okl kb ∨ (fun kb => okd kb ∨ kb = b9) kb) (fun w' v' h => h) (by rintro k_ (hk_ | hk_); exact .inl hk_; exact .inr hk_) ?_
 clear hF hH; intro a w v10 hF hH
 refine hK _ _ ?_; clear hK K
 obtain ⟨A10, c10, rfl⟩ := (hH.row 840 rfl).form
 obtain ⟨okn, hokn⟩ : ∃ okn, okn = (fun kb => okl kb ∨ (fun kb => okd kb ∨ kb = b9) kb) := ⟨_, rfl⟩
 rw [← hokn] at hH
 refine wpList_plain rfl fun K hK => ?_
 refine w_store 804 hH ty100 rfl (hF.tmp 2 rfl) (hF.tmp 10 rfl) rfl (one1 rfl rfl) (by first | decide | exact Nat.le_of_ble_eq_true rfl) ?_
 clear hH; intro w hH
 refine hK _ _ ?_; clear hK K
 refine wpList_nil ?_
 try simp only [Exit.then, Exit.inBlock]
 try simp only [if_true]
 refine fin_end hF (res0 rfl) ⟨A10, c10, okn, rfl, grew_of (hH.sub [(804, .blk bl (.cells #[.slice A10 (fs ++ [((t, d) : Fld)]).length c10] 100 (0, 0))), (840, .row FE 99 (.slice A10 (fs ++ [((t, d) : Fld)]).length c10) (fs ++ [((t, d) : Fld)]) okn)] (sub_cons (sub_cons (sub_nil _) 840 rfl) 804 rfl)) (rdin_cons (fun k h => h.elim) (rdin_cons (fun k h => ?_) rdin_nil))⟩
 rw [hokn] at h; rcases h with h | h | h
 ·exact .inr (.inl ⟨840, _, rfl, h⟩)
 ·exact .inr (.inr (.inl h))
 ·subst h; rcases hb9_ with ⟨i, X, hX, hk⟩ | hk; exact .inl ⟨i, X, hX, hk⟩; exact .inr (.inr (.inr hk))
set_option maxRecDepth 100000 in
set_option maxHeartbeats 1000000 in
theorem encC_calls (w0 : World) {pp : Bool} (hL : LibAt pp w0) {c : ChangeD} {okc0 : Nat → Prop} {Ac0 : Option Addr} {cc0 : Nat} (hrc0 : Rd StE w0 okc0 Ac0 c.timer.steps cc0) (hb : ChangeB c) : Calls Tryd.prog 15 #[.agg #[.int .i64 c.kind, .string (strOfNums c.key), .string (strOfNums c.value), .string (strOfNums c.timer.name), .int .i64 c.timer.ver, .int .u64 c.timer.tick, .int .u64 c.timer.every, .slice Ac0 c.timer.steps.length cc0]] w0 fun e w' => ∃ v, e = .returned (.tuple #[v, .int .i64 (encCE c)]) ∧ Mods (fun _ => False) w0 w' ∧ RowOut (.int .u8) 5 w0 w' v (encC c) := by
 refine calls_of_wp Tryd.func15 rfl ?_
 have hF := Fr.enter #[.agg #[.int .i64 c.kind, .string (strOfNums c.key), .string (strOfNums c.value), .string (strOfNums c.timer.name), .int .i64 c.timer.ver, .int .u64 c.timer.tick, .int .u64 c.timer.every, .slice Ac0 c.timer.steps.length cc0]] 78 (slotsOf [.agg #[.int .i64 c.kind, .string (strOfNums c.key), .string (strOfNums c.value), .string (strOfNums c.timer.name), .int .i64 c.timer.ver, .int .u64 c.timer.tick, .int .u64 c.timer.every, .slice Ac0 c.timer.steps.length cc0]] 0) (Nat.le_of_ble_eq_true rfl) (fun i v h => by have h2 := (get_slotsOf _ 0 i v h).2; simpa only [List.getElem?_toArray, Nat.sub_zero] using h2)
 have hH := Hp.nil (fun _ => False) w0
 rw [Tryd.ntmps15]
 revert hF; generalize (⟨(#[.agg #[.int .i64 c.kind, .string (strOfNums c.key), .string (strOfNums c.value), .string (strOfNums c.timer.name), .int .i64 c.timer.ver, .int .u64 c.timer.tick, .int .u64 c.timer.every, .slice Ac0 c.timer.steps.length cc0]] : Array Value) ++ Array.replicate (78 - (#[.agg #[.int .i64 c.kind, .string (strOfNums c.key), .string (strOfNums c.value), .string (strOfNums c.timer.name), .int .i64 c.timer.ver, .int .u64 c.timer.tick, .int .u64 c.timer.every, .slice Ac0 c.timer.steps.length cc0]] : Array Value).size) undef, []⟩ : Act) = a; intro hF
 have hH := hH.arg 900 hrc0.all (fun _ h => ⟨h, fun h => h⟩)
 have hlec0 := hrc0.le; unfold maxLen at hlec0
 have hH := hH.libN 990 hL
 refine wp_seq_k fun khK1 hK1 => ?_
 refine wp_region_lit ?_
 refine wpList_plain rfl fun K hK => ?_
 refine w_box 1 hF hH rfl (hF.tmp 0 rfl) ?_
 clear hF hH; intro a w b1 hF hH
 refine hK _ _ ?_; clear hK K
 refine l_at hF rfl rfl rfl (x_assign rfl) ?_; clear hF; intro a hF
 refine l_at hF rfl rfl rfl (x_assign rfl) ?_; clear hF; intro a hF
 refine wpList_nil ?_
 refine hK1 _ _ ?_
 refine wp_seq_k fun khK2 hK2 => ?_
 refine wp_seq_k fun khK3 hK3 => ?_
 refine wp_region_lit ?_
 refine l_at hF rfl rfl rfl (x_loadn ty41 (hF.tmp 1 rfl) rfl (blk_whole (hH.at 1 rfl))) ?_; clear hF; intro a hF
 refine wpList_plain rfl fun K hK => ?_
 refine w_call hF (x_enter Tryd.func45 (by kernel_rfl) rfl (by simp only [List.map_toArray, List.map_cons, List.map_nil, hF.tmp 8 rfl] <;> rfl)) (rightC_calls _ (hH.holds 990 _ rfl) ((hH.rd 900 rfl)) hb) rfl rfl ?_
 rintro _ w ⟨rfl, hm_⟩; refine ⟨_, rfl, ?_⟩; clear hF; intro a hF; have hH := hH.same hm_
 refine hK _ _ ?_; clear hK K
 refine l_at hF rfl rfl rfl (x_not (hF.tmp 9 rfl)) ?_; clear hF; intro a hF
 refine wpList_nil ?_
 refine hK3 _ _ ?_
 refine wp_cond_split (hF.tmp 10 rfl) (fun hc10 => ?_) (fun hc10 => ?_)
 ·have hk10_1 := hc10; try simp only [Bool.or_eq_true, Bool.and_eq_true, Bool.or_eq_false_iff, Bool.and_eq_false_iff, Bool.not_eq_true', Bool.not_eq_false', decide_eq_true_eq, decide_eq_false_iff_not, Bool.not_true, Bool.not_false] at hc10
  have hz : rightC c = false := by simpa using hc10
  refine wp_seq_k fun khK4 hK4 => ?_
  refine wp_region_lit ?_
  refine l_at hF rfl rfl rfl (x_assign rfl) ?_; clear hF; intro a hF
  refine l_at hF rfl rfl rfl (x_assign rfl) ?_; clear hF; intro a hF
  refine wpList_nil ?_
  refine hK4 _ _ ?_
  refine wp_ret ?_
  try simp only [Exit.then, Exit.inBlock]
  exact fin_ret hF (res2 hF rfl rfl rfl) ⟨.slice none 0 0, by rw [encCE_no hz] <;> rfl, hH.mods, by rw [encC_no hz]; exact RowOut.nil _ _ _ _⟩
 ·have hk10_2 := hc10; try simp only [Bool.or_eq_true, Bool.and_eq_true, Bool.or_eq_false_iff, Bool.and_eq_false_iff, Bool.not_eq_true', Bool.not_eq_false', decide_eq_true_eq, decide_eq_false_iff_not, Bool.not_true, Bool.not_false] at hc10
  have hr : rightC c = true := by simpa using hc10
  refine wp_skip ?_
  refine hK2 _ _ ?_
  refine wp_seq_k fun khK5 hK5 => ?_
  refine wp_region_lit ?_
  refine l_at hF rfl rfl rfl (x_faddr Tryd.underlying41 rfl ty36 (by decide) (hF.tmp 1 rfl) rfl) ?_; clear hF; intro a hF
  refine l_at hF rfl rfl rfl (x_load1 ty36 (hF.tmp 11 rfl) (blk_cell (hH.at 1 rfl) 0 rfl)) ?_; clear hF; intro a hF
  refine l_at hF rfl rfl rfl (x_conv Tryd.underlying5 ⟨_, Tryd.underlying36⟩ (hF.tmp 12 rfl) (wu8 (rightC_kind hr).1 (rightC_kind hr).2)) ?_; clear hF; intro a hF
  refine wpList_plain rfl fun K hK => ?_
  refine w_lit 14 (enc := Value.int .u8) (h1 := fun _ => rfl) ([c.kind]) hF hH rfl Tryd.underlying28 ty5 (by simp only [List.map_toArray, List.map_cons, List.map_nil, hF.tmp 13 rfl]; rfl) rfl (by decide) (by decide) (by kernel_rfl) ?_
  clear hF hH; intro a w b14 hF hH
  refine hK _ _ ?_; clear hK K
  have hH := hH.freeze 14 rfl (fun kb => (Value.slice (some ⟨b14, 0, none⟩) ([c.kind]).length ([c.kind]).length).ownBlock = some kb) (fun kb => ⟨fun h => .inr h, fun h => h.resolve_left id⟩)
  refine l_at hF rfl rfl rfl (x_buildS (cells := #[.int .i64 1, .slice (some ⟨b14, 0, none⟩) ([c.kind]).length ([c.kind]).length]) (places := #[(0, 1), (1, 1)]) Tryd.underlying99 ty99 (by kernel_rfl) (by simp only [List.map_toArray, List.map_cons, List.map_nil, hF.tmp 14 rfl] <;> rfl) rfl) ?_; clear hF; intro a hF
  refine wpList_plain rfl fun K hK => ?_
  refine w_litE 840 FE ([((1, [c.kind]) : Fld)]) #[.int .i64 1, .slice (some ⟨b14, 0, none⟩) ([c.kind]).length ([c.kind]).length] (fun kb => (Value.slice (some ⟨b14, 0, none⟩) ([c.kind]).length ([c.kind]).length).ownBlock = some kb) hF hH rfl Tryd.underlying100 ty99 (by simp only [List.map_toArray, List.map_cons, List.map_nil, hF.tmp 15 rfl] <;> rfl) rfl (by decide) (by decide) (by kernel_rfl) (Elems.single (fld_mk (f := ((1, [c.kind]) : Fld)) ((hH.rd 14 rfl)))) (fun kb hk => ⟨14, _, rfl, hk⟩) ?_
  clear hF hH; intro a w b16 hF hH
  refine hK _ _ ?_; clear hK K
  refine wpList_plain rfl fun K hK => ?_
  refine w_alloc 804 hF hH rfl ty100 ?_
  clear hF hH; intro a w b4 hF hH
  refine hK _ _ ?_; clear hK K
  refine wpList_plain rfl fun K hK => ?_
  refine w_store 804 hH ty100 rfl (hF.tmp 4 rfl) (hF.tmp 16 rfl) rfl (one1 rfl rfl) (by first | decide | exact Nat.le_of_ble_eq_true rfl) ?_
  clear hH; intro w hH
  refine hK _ _ ?_; clear hK K
  have hH := hH.bundle (L := [(804, .blk b4 (.cells #[.slice (some ⟨b16, 0, none⟩) ([((1, [c.kind]) : Fld)]).length ([((1, [c.kind]) : Fld)]).length] 100 (0, 0))), (840, .row FE 99 (.slice (some ⟨b16, 0, none⟩) ([((1, [c.kind]) : Fld)]).length ([((1, [c.kind]) : Fld)]).length) ([((1, [c.kind]) : Fld)]) (fun kb => (Value.slice (some ⟨b14, 0, none⟩) ([c.kind]).length ([c.kind]).length).ownBlock = some kb))]) (N := [(900, .rd_ StE Ac0 c.timer.steps cc0 (fun k => k < w0.heap.size)), (990, .lib pp), (1, .blk b1 (.cells #[.int .i64 c.kind, .string (strOfNums c.key), .string (strOfNums c.value), .string (strOfNums c.timer.name), .int .i64 c.timer.ver, .int .u64 c.timer.tick, .int .u64 c.timer.every, .slice Ac0 c.timer.steps.length cc0] 41 (0, 0))), (14, .rd_ (.int .u8) (some ⟨b14, 0, none⟩) ([c.kind]) ([c.kind]).length (fun kb => (Value.slice (some ⟨b14, 0, none⟩) ([c.kind]).length ([c.kind]).length).ownBlock = some kb))]) 700 (sub_cons (sub_cons (sub_nil _) 840 rfl) 804 rfl) (sub_cons (sub_cons (sub_cons (sub_cons (sub_nil _) 14 rfl) 1 rfl) 990 rfl) 900 rfl) (apart_cons rfl (apart_cons rfl (apart_nil _)))
  have hlen : [((1, [c.kind]) : Fld)].length ≤ 1 := Nat.le_refl _
  refine wpList_nil ?_
  refine hK5 _ _ ?_
  refine wp_seq_k fun khK6 hK6 => ?_
  refine wp_region_lit ?_
  refine l_at hF rfl rfl rfl (x_mkfunc (vs := #[.pointer (some ⟨b4, 0, none⟩)]) (by simp only [List.map_toArray, List.map_cons, List.map_nil, hF.tmp 4 rfl] <;> rfl)) ?_; clear hF; intro a hF
  refine l_at hF rfl rfl rfl (x_assign (hF.tmp 17 rfl)) ?_; clear hF; intro a hF
  refine wpList_nil ?_
  refine hK6 _ _ ?_
  refine wp_seq_k fun khK7 hK7 => ?_
  refine wp_seq_k fun khK8 hK8 => ?_
  refine wp_region_lit ?_
  refine l_at hF rfl rfl rfl (x_faddr Tryd.underlying41 rfl ty36 (by decide) (hF.tmp 1 rfl) rfl) ?_; clear hF; intro a hF
  refine l_at hF rfl rfl rfl (x_load1 ty36 (hF.tmp 18 rfl) (blk_cell (hH.at 1 rfl) 0 rfl)) ?_; clear hF; intro a hF
  refine wpList_nil ?_
  refine hK8 _ _ ?_
  refine wp_block ?_
  refine wp_seq_k fun khK9 hK9 => ?_
  refine wp_region_lit ?_
  refine l_at hF rfl rfl rfl (x_eql (hF.tmp 19 rfl) rfl) ?_; clear hF; intro a hF
  refine l_at hF rfl rfl rfl (x_assign (hF.tmp 26 rfl)) ?_; clear hF; intro a hF
  refine wpList_nil ?_
  refine hK9 _ _ ?_
  refine wp_cond_split (hF.tmp 25 rfl) (fun hc25 => ?_) (fun hc25 => ?_)
  ·have hk25_3 := hc25; try simp only [Bool.or_eq_true, Bool.and_eq_true, Bool.or_eq_false_iff, Bool.and_eq_false_iff, Bool.not_eq_true', Bool.not_eq_false', decide_eq_true_eq, decide_eq_false_iff_not, Bool.not_true, Bool.not_false] at hc25
   refine wp_seq_k fun khK10 hK10 => ?_
   refine wp_region_lit ?_
   refine l_at hF rfl rfl rfl (x_faddr Tryd.underlying41 rfl ty39 (by decide) (hF.tmp 1 rfl) rfl) ?_; clear hF; intro a hF
   refine l_at hF rfl rfl rfl (x_faddr Tryd.underlying39 rfl ty37 (by decide) (hF.tmp 28 rfl) rfl) ?_; clear hF; intro a hF
   refine l_at hF rfl rfl rfl (x_load1 ty37 (hF.tmp 29 rfl) (blk_cell (hH.at 1 rfl) 7 rfl)) ?_; clear hF; intro a hF
   refine wpList_plain rfl fun K hK => ?_
   refine w_call hF (x_enter Tryd.func47 (by kernel_rfl) rfl (by simp only [List.map_toArray, List.map_cons, List.map_nil, hF.tmp 30 rfl] <;> rfl)) (aenc_calls _ (hH.holds 990 _ rfl) ((hH.rd 900 rfl)) hb.timer.steps) rfl rfl ?_
   rintro _ w ⟨vr31, rfl, hm_, hr_⟩; refine ⟨_, rfl, ?_⟩; clear hF; intro a hF; have hH := Hp.rowOut hH 31 hm_ hr_; obtain ⟨Ar31, cr31, rfl⟩ := (hH.row 31 rfl).form
   refine hK _ _ ?_; clear hK K
   refine l_at hF rfl rfl rfl (x_move (hF.tmp 31 rfl)) ?_; clear hF; intro a hF
   refine l_at hF rfl rfl rfl (x_extract (hF.tmp 27 rfl) rfl) ?_; clear hF; intro a hF
   refine l_at hF rfl rfl rfl (x_extract (hF.tmp 27 rfl) rfl) ?_; clear hF; intro a hF
   refine l_at hF rfl rfl rfl (x_assign (hF.tmp 32 rfl)) ?_; clear hF; intro a hF
   refine l_at hF rfl rfl rfl (x_assign (hF.tmp 33 rfl)) ?_; clear hF; intro a hF
   refine wpList_nil ?_
   refine hK10 _ _ ?_
   refine wp_seq_k fun khK11 hK11 => ?_
   refine wp_region_lit ?_
   refine l_at hF rfl rfl rfl (x_move (hF.tmp 5 rfl)) ?_; clear hF; intro a hF
   refine l_at hF rfl rfl rfl (x_faddr Tryd.underlying41 rfl ty39 (by decide) (hF.tmp 1 rfl) rfl) ?_; clear hF; intro a hF
   refine l_at hF rfl rfl rfl (x_faddr Tryd.underlying39 rfl ty9 (by decide) (hF.tmp 35 rfl) rfl) ?_; clear hF; intro a hF
   refine l_at hF rfl rfl rfl (x_load1 ty9 (hF.tmp 36 rfl) (blk_cell (hH.at 1 rfl) 3 rfl)) ?_; clear hF; intro a hF
   refine wpList_plain rfl fun K hK => ?_
   refine w_s2b 38 (xs := c.timer.name) hF hH rfl Tryd.underlying9 Tryd.underlying28 Tryd.underlying5 (hF.tmp 37 rfl) hb.timer.name (by have := rightT_parts (rightC_3 hr hc25); omega) ?_
   clear hF hH; intro a w b38 c38 hb38_ hF hH
   refine hK _ _ ?_; clear hK K
   refine wpList_plain rfl fun K hK => ?_
   refine w_call hF (x_enterC (vs := #[.int .i64 4, .slice (some ⟨b38, 0, none⟩) c.timer.name.length c38]) (caps := #[.pointer (some ⟨b4, 0, none⟩)]) (args := #[.int .i64 4, .slice (some ⟨b38, 0, none⟩) c.timer.name.length c38, .pointer (some ⟨b4, 0, none⟩)]) Tryd.func46 (by kernel_rfl) rfl (hF.tmp 34 rfl) (by simp only [List.map_toArray, List.map_cons, List.map_nil, hF.tmp 38 rfl] <;> rfl) rfl) (add_calls (bl := b4) (Al := (some ⟨b16, 0, none⟩)) (fs := [((1, [c.kind]) : Fld)]) (cl := ([((1, [c.kind]) : Fld)].length)) (okl := (fun kb => (Value.slice (some ⟨b14, 0, none⟩) ([c.kind]).length ([c.kind]).length).ownBlock = some kb)) _ (it_ok hH 700 rfl) (by simp only [List.length_append, List.length_cons, List.length_nil]; omega) 4 ((hH.rd 38 rfl)) (fun k hk => hH.inb 38 _ rfl k (.inr hk)) (fun k hk h => hH.sep 700 38 _ _ (by decide) rfl rfl k h (.inr hk))) rfl rfl ?_
   rintro _ w ⟨An1, cn1, okn1, rfl, hG_⟩; refine ⟨_, rfl, ?_⟩; clear hF; intro a hF; have hH := hH.grew 700 rfl hG_ (fun k hk => ⟨38, _, rfl, hk⟩)
   refine hK _ _ ?_; clear hK K
   refine wpList_nil ?_
   refine hK11 _ _ ?_
   refine wp_seq_k fun khK12 hK12 => ?_
   refine wp_region_lit ?_
   refine l_at hF rfl rfl rfl (x_move (hF.tmp 5 rfl)) ?_; clear hF; intro a hF
   refine l_at hF rfl rfl rfl (x_faddr Tryd.underlying41 rfl ty39 (by decide) (hF.tmp 1 rfl) rfl) ?_; clear hF; intro a hF
   refine l_at hF rfl rfl rfl (x_faddr Tryd.underlying39 rfl ty3 (by decide) (hF.tmp 41 rfl) rfl) ?_; clear hF; intro a hF
   refine l_at hF rfl rfl rfl (x_load1 ty3 (hF.tmp 42 rfl) (blk_cell (hH.at 1 rfl) 4 rfl)) ?_; clear hF; intro a hF
   refine l_at hF rfl rfl rfl (x_conv Tryd.underlying34 ⟨_, Tryd.underlying3⟩ (hF.tmp 43 rfl) (wu64 (by have := rightT_parts (rightC_3 hr hc25); omega) (by have := rightT_parts (rightC_3 hr hc25); omega))) ?_; clear hF; intro a hF
   refine wpList_plain rfl fun K hK => ?_
   refine w_call hF (x_enter Tryd.func14 (by kernel_rfl) rfl (by simp only [List.map_toArray, List.map_cons, List.map_nil, hF.tmp 44 rfl] <;> rfl)) (bI_calls _ (by have := rightT_parts (rightC_3 hr hc25); exact ⟨by omega, by omega⟩)) rfl rfl ?_
   rintro _ w ⟨vr45, rfl, hm_, hr_⟩; refine ⟨_, rfl, ?_⟩; clear hF; intro a hF; have hH := Hp.rowOut hH 45 hm_ hr_; obtain ⟨Ar45, cr45, rfl⟩ := (hH.row 45 rfl).form
   refine hK _ _ ?_; clear hK K
   have hH := hH.freeze 45 rfl (fun kb => (Value.slice Ar45 (bI c.timer.ver).length cr45).ownBlock = some kb) (fun kb => ⟨fun h => .inr h, fun h => h.resolve_left id⟩)
   refine wpList_plain rfl fun K hK => ?_
   refine w_call hF (x_enterC (vs := #[.int .i64 5, .slice Ar45 (bI c.timer.ver).length cr45]) (caps := #[.pointer (some ⟨b4, 0, none⟩)]) (args := #[.int .i64 5, .slice Ar45 (bI c.timer.ver).length cr45, .pointer (some ⟨b4, 0, none⟩)]) Tryd.func46 (by kernel_rfl) rfl (hF.tmp 40 rfl) (by simp only [List.map_toArray, List.map_cons, List.map_nil, hF.tmp 45 rfl] <;> rfl) rfl) (add_calls (bl := b4) (Al := An1) (fs := ([((1, [c.kind]) : Fld)] ++ [((4, c.timer.name) : Fld)])) (cl := cn1) (okl := okn1) _ (it_ok hH 700 rfl) (by simp only [List.length_append, List.length_cons, List.length_nil]; omega) 5 ((hH.rd 45 rfl)) (fun k hk => hH.inb 45 _ rfl k (.inr hk)) (fun k hk h => hH.sep 700 45 _ _ (by decide) rfl rfl k h (.inr hk))) rfl rfl ?_
   rintro _ w ⟨An2, cn2, okn2, rfl, hG_⟩; refine ⟨_, rfl, ?_⟩; clear hF; intro a hF; have hH := hH.grew 700 rfl hG_ (fun k hk => ⟨45, _, rfl, hk⟩)
   refine hK _ _ ?_; clear hK K
   refine wpList_nil ?_
   refine hK12 _ _ ?_
   refine wp_seq_k fun khK13 hK13 => ?_
   refine wp_region_lit ?_
   refine l_at hF rfl rfl rfl (x_move (hF.tmp 5 rfl)) ?_; clear hF; intro a hF
   refine l_at hF rfl rfl rfl (x_faddr Tryd.underlying41 rfl ty39 (by decide) (hF.tmp 1 rfl) rfl) ?_; clear hF; intro a hF
   refine l_at hF rfl rfl rfl (x_faddr Tryd.underlying39 rfl ty34 (by decide) (hF.tmp 48 rfl) rfl) ?_; clear hF; intro a hF
   refine l_at hF rfl rfl rfl (x_load1 ty34 (hF.tmp 49 rfl) (blk_cell (hH.at 1 rfl) 5 rfl)) ?_; clear hF; intro a hF
   refine wpList_plain rfl fun K hK => ?_
   refine w_call hF (x_enter Tryd.func14 (by kernel_rfl) rfl (by simp only [List.map_toArray, List.map_cons, List.map_nil, hF.tmp 50 rfl] <;> rfl)) (bI_calls _ hb.timer.tick) rfl rfl ?_
   rintro _ w ⟨vr51, rfl, hm_, hr_⟩; refine ⟨_, rfl, ?_⟩; clear hF; intro a hF; have hH := Hp.rowOut hH 51 hm_ hr_; obtain ⟨Ar51, cr51, rfl⟩ := (hH.row 51 rfl).form
   refine hK _ _ ?_; clear hK K
   have hH := hH.freeze 51 rfl (fun kb => (Value.slice Ar51 (bI c.timer.tick).length cr51).ownBlock = some kb) (fun kb => ⟨fun h => .inr h, fun h => h.resolve_left id⟩)
   refine wpList_plain rfl fun K hK => ?_
   refine w_call hF (x_enterC (vs := #[.int .i64 6, .slice Ar51 (bI c.timer.tick).length cr51]) (caps := #[.pointer (some ⟨b4, 0, none⟩)]) (args := #[.int .i64 6, .slice Ar51 (bI c.timer.tick).length cr51, .pointer (some ⟨b4, 0, none⟩)]) Tryd.func46 (by kernel_rfl) rfl (hF.tmp 47 rfl) (by simp only [List.map_toArray, List.map_cons, List.map_nil, hF.tmp 51 rfl] <;> rfl) rfl) (add_calls (bl := b4) (Al := An2) (fs := (([((1, [c.kind]) : Fld)] ++ [((4, c.timer.name) : Fld)]) ++ [((5, (bI c.timer.ver)) : Fld)])) (cl := cn2) (okl := okn2) _ (it_ok hH 700 rfl) (by simp only [List.length_append, List.length_cons, List.length_nil]; omega) 6 ((hH.rd 51 rfl)) (fun k hk => hH.inb 51 _ rfl k (.inr hk)) (fun k hk h => hH.sep 700 51 _ _ (by decide) rfl rfl k h (.inr hk))) rfl rfl ?_
   rintro _ w ⟨An3, cn3, okn3, rfl, hG_⟩; refine ⟨_, rfl, ?_⟩; clear hF; intro a hF; have hH := hH.grew 700 rfl hG_ (fun k hk => ⟨51, _, rfl, hk⟩)
   refine hK _ _ ?_; clear hK K
   refine wpList_nil ?_
   refine hK13 _ _ ?_
   refine wp_seq_k fun khK14 hK14 => ?_
   refine wp_region_lit ?_
   refine l_at hF rfl rfl rfl (x_move (hF.tmp 5 rfl)) ?_; clear hF; intro a hF
   refine l_at hF rfl rfl rfl (x_faddr Tryd.underlying41 rfl ty39 (by decide) (hF.tmp 1 rfl) rfl) ?_; clear hF; intro a hF
   refine l_at hF rfl rfl rfl (x_faddr Tryd.underlying39 rfl ty34 (by decide) (hF.tmp 54 rfl) rfl) ?_; clear hF; intro a hF
   refine l_at hF rfl rfl rfl (x_load1 ty34 (hF.tmp 55 rfl) (blk_cell (hH.at 1 rfl) 6 rfl)) ?_; clear hF; intro a hF
   refine wpList_plain rfl fun K hK => ?_
   refine w_call hF (x_enter Tryd.func14 (by kernel_rfl) rfl (by simp only [List.map_toArray, List.map_cons, List.map_nil, hF.tmp 56 rfl] <;> rfl)) (bI_calls _ hb.timer.every) rfl rfl ?_
   rintro _ w ⟨vr57, rfl, hm_, hr_⟩; refine ⟨_, rfl, ?_⟩; clear hF; intro a hF; have hH := Hp.rowOut hH 57 hm_ hr_; obtain ⟨Ar57, cr57, rfl⟩ := (hH.row 57 rfl).form
   refine hK _ _ ?_; clear hK K
   have hH := hH.freeze 57 rfl (fun kb => (Value.slice Ar57 (bI c.timer.every).length cr57).ownBlock = some kb) (fun kb => ⟨fun h => .inr h, fun h => h.resolve_left id⟩)
   refine wpList_plain rfl fun K hK => ?_
   refine w_call hF (x_enterC (vs := #[.int .i64 7, .slice Ar57 (bI c.timer.every).length cr57]) (caps := #[.pointer (some ⟨b4, 0, none⟩)]) (args := #[.int .i64 7, .slice Ar57 (bI c.timer.every).length cr57, .pointer (some ⟨b4, 0, none⟩)]) Tryd.func46 (by kernel_rfl) rfl (hF.tmp 53 rfl) (by simp only [List.map_toArray, List.map_cons, List.map_nil, hF.tmp 57 rfl] <;> rfl) rfl) (add_calls (bl := b4) (Al := An3) (fs := ((([((1, [c.kind]) : Fld)] ++ [((4, c.timer.name) : Fld)]) ++ [((5, (bI c.timer.ver)) : Fld)]) ++ [((6, (bI c.timer.tick)) : Fld)])) (cl := cn3) (okl := okn3) _ (it_ok hH 700 rfl) (by simp only [List.length_append, List.length_cons, List.length_nil]; omega) 7 ((hH.rd 57 rfl)) (fun k hk => hH.inb 57 _ rfl k (.inr hk)) (fun k hk h => hH.sep 700 57 _ _ (by decide) rfl rfl k h (.inr hk))) rfl rfl ?_
   rintro _ w ⟨An4, cn4, okn4, rfl, hG_⟩; refine ⟨_, rfl, ?_⟩; clear hF; intro a hF; have hH := hH.grew 700 rfl hG_ (fun k hk => ⟨57, _, rfl, hk⟩)
   refine hK _ _ ?_; clear hK K
   refine wpList_nil ?_
   refine hK14 _ _ ?_
   refine wp_region_lit ?_
   refine l_at hF rfl rfl rfl (x_move (hF.tmp 5 rfl)) ?_; clear hF; intro a hF
   refine l_at hF rfl rfl rfl (x_move (hF.tmp 6 rfl)) ?_; clear hF; intro a hF
   have hH := hH.freeze 31 rfl (fun kb => (Value.slice Ar31 (encT c.timer.steps).length cr31).ownBlock = some kb) (fun kb => ⟨fun h => .inr h, fun h => h.resolve_left id⟩)
   refine wpList_plain rfl fun K hK => ?_
   refine w_call hF (x_enterC (vs := #[.int .i64 8, .slice Ar31 (encT c.timer.steps).length cr31]) (caps := #[.pointer (some ⟨b4, 0, none⟩)]) (args := #[.int .i64 8, .slice Ar31 (encT c.timer.steps).length cr31, .pointer (some ⟨b4, 0, none⟩)]) Tryd.func46 (by kernel_rfl) rfl (hF.tmp 59 rfl) (by simp only [List.map_toArray, List.map_cons, List.map_nil, hF.tmp 60 rfl] <;> rfl) rfl) (add_calls (bl := b4) (Al := An4) (fs := (((([((1, [c.kind]) : Fld)] ++ [((4, c.timer.name) : Fld)]) ++ [((5, (bI c.timer.ver)) : Fld)]) ++ [((6, (bI c.timer.tick)) : Fld)]) ++ [((7, (bI c.timer.every)) : Fld)])) (cl := cn4) (okl := okn4) _ (it_ok hH 700 rfl) (by simp only [List.length_append, List.length_cons, List.length_nil]; omega) 8 ((hH.rd 31 rfl)) (fun k hk => hH.inb 31 _ rfl k (.inr hk)) (fun k hk h => hH.sep 700 31 _ _ (by decide) rfl rfl k h (.inr hk))) rfl rfl ?_
   rintro _ w ⟨An5, cn5, okn5, rfl, hG_⟩; refine ⟨_, rfl, ?_⟩; clear hF; intro a hF; have hH := hH.grew 700 rfl hG_ (fun k hk => ⟨31, _, rfl, hk⟩)
   refine hK _ _ ?_; clear hK K
   refine wpList_nil ?_
   refine hK7 _ _ ?_
   refine wp_seq_k fun khK15 hK15 => ?_
   refine wp_region_lit ?_
   have hH := hH.unbundle (L := [(804, .blk b4 (.cells #[.slice An5 ((((([((1, [c.kind]) : Fld)] ++ [((4, c.timer.name) : Fld)]) ++ [((5, (bI c.timer.ver)) : Fld)]) ++ [((6, (bI c.timer.tick)) : Fld)]) ++ [((7, (bI c.timer.every)) : Fld)]) ++ [((8, (encT c.timer.steps)) : Fld)]).length cn5] 100 (0, 0))), (840, .row FE 99 (.slice An5 ((((([((1, [c.kind]) : Fld)] ++ [((4, c.timer.name) : Fld)]) ++ [((5, (bI c.timer.ver)) : Fld)]) ++ [((6, (bI c.timer.tick)) : Fld)]) ++ [((7, (bI c.timer.every)) : Fld)]) ++ [((8, (encT c.timer.steps)) : Fld)]).length cn5) ((((([((1, [c.kind]) : Fld)] ++ [((4, c.timer.name) : Fld)]) ++ [((5, (bI c.timer.ver)) : Fld)]) ++ [((6, (bI c.timer.tick)) : Fld)]) ++ [((7, (bI c.timer.every)) : Fld)]) ++ [((8, (encT c.timer.steps)) : Fld)]) okn5)]) (N := [(900, .rd_ StE Ac0 c.timer.steps cc0 (fun k => k < w0.heap.size)), (990, .lib pp), (1, .blk b1 (.cells #[.int .i64 c.kind, .string (strOfNums c.key), .string (strOfNums c.value), .string (strOfNums c.timer.name), .int .i64 c.timer.ver, .int .u64 c.timer.tick, .int .u64 c.timer.every, .slice Ac0 c.timer.steps.length cc0] 41 (0, 0))), (14, .rd_ (.int .u8) (some ⟨b14, 0, none⟩) ([c.kind]) ([c.kind]).length (fun kb => (Value.slice (some ⟨b14, 0, none⟩) ([c.kind]).length ([c.kind]).length).ownBlock = some kb)), (31, .rd_ (.int .u8) Ar31 (encT c.timer.steps) cr31 (fun kb => (Value.slice Ar31 (encT c.timer.steps).length cr31).ownBlock = some kb)), (38, .rd_ (.int .u8) (some ⟨b38, 0, none⟩) c.timer.name c38 (fun kb => kb = b38)), (45, .rd_ (.int .u8) Ar45 (bI c.timer.ver) cr45 (fun kb => (Value.slice Ar45 (bI c.timer.ver).length cr45).ownBlock = some kb)), (51, .rd_ (.int .u8) Ar51 (bI c.timer.tick) cr51 (fun kb => (Value.slice Ar51 (bI c.timer.tick).length cr51).ownBlock = some kb)), (57, .rd_ (.int .u8) Ar57 (bI c.timer.every) cr57 (fun kb => (Value.slice Ar57 (bI c.timer.every).length cr57).ownBlock = some kb))]) 700 rfl (sub_cons (sub_cons (sub_cons (sub_cons (sub_cons (sub_cons (sub_cons (sub_cons (sub_cons (sub_nil _) 57 rfl) 51 rfl) 45 rfl) 38 rfl) 31 rfl) 14 rfl) 1 rfl) 990 rfl) 900 rfl) rfl
   have hfs : ((((([((1, [c.kind]) : Fld)] ++ [((4, c.timer.name) : Fld)]) ++ [((5, (bI c.timer.ver)) : Fld)]) ++ [((6, (bI c.timer.tick)) : Fld)]) ++ [((7, (bI c.timer.every)) : Fld)]) ++ [((8, (encT c.timer.steps)) : Fld)]) = chgF c := by exact chgF_3 hc25
   refine l_at hF rfl rfl rfl (x_load1 ty100 (hF.tmp 4 rfl) (blk_cell (hH.at 804 rfl) 0 rfl)) ?_; clear hF; intro a hF
   refine wpList_plain rfl fun K hK => ?_
   refine w_call hF (x_enter Tryd.func42 (by kernel_rfl) rfl (by simp only [List.map_toArray, List.map_cons, List.map_nil, hF.tmp 74 rfl] <;> rfl)) (enc_at (Row.rd (ok' := fun k_ => okn5 k_ ∨ (.slice An5 ((((([((1, [c.kind]) : Fld)] ++ [((4, c.timer.name) : Fld)]) ++ [((5, (bI c.timer.ver)) : Fld)]) ++ [((6, (bI c.timer.tick)) : Fld)]) ++ [((7, (bI c.timer.every)) : Fld)]) ++ [((8, (encT c.timer.steps)) : Fld)]).length cn5 : Value).ownBlock = some k_) (hH.row 840 rfl) (fun _ hk_ _ => .inl hk_) (fun _ hk_ => .inr hk_)) (by rw [hfs]; exact encC_encR hr hb)) rfl rfl ?_
   rintro _ w ⟨vr75, rfl, hm_, hr_⟩; refine ⟨_, rfl, ?_⟩; clear hF; intro a hF; have hH := Hp.rowOut hH 75 hm_ hr_; obtain ⟨Ar75, cr75, rfl⟩ := (hH.row 75 rfl).form
   refine hK _ _ ?_; clear hK K
   refine l_at hF rfl rfl rfl (x_extract (hF.tmp 75 rfl) rfl) ?_; clear hF; intro a hF
   refine l_at hF rfl rfl rfl (x_extract (hF.tmp 75 rfl) rfl) ?_; clear hF; intro a hF
   refine l_at hF rfl rfl rfl (x_assign (hF.tmp 76 rfl)) ?_; clear hF; intro a hF
   refine l_at hF rfl rfl rfl (x_assign (hF.tmp 77 rfl)) ?_; clear hF; intro a hF
   refine wpList_nil ?_
   refine hK15 _ _ ?_
   refine wp_ret ?_
   try simp only [Exit.then, Exit.inBlock]
   exact fin_ret hF (res2 hF rfl rfl rfl) ⟨_, by rw [encCE_yes hr] <;> rfl, hH.mods, Hp.out hH 75 rfl⟩
  ·have hk25_4 := hc25; try simp only [Bool.or_eq_true, Bool.and_eq_true, Bool.or_eq_false_iff, Bool.and_eq_false_iff, Bool.not_eq_true', Bool.not_eq_false', decide_eq_true_eq, decide_eq_false_iff_not, Bool.not_true, Bool.not_false] at hc25
   refine wp_seq_k fun khK16 hK16 => ?_
   refine wp_region_lit ?_
   refine l_at hF rfl rfl rfl (x_eql (hF.tmp 19 rfl) rfl) ?_; clear hF; intro a hF
   refine l_at hF rfl rfl rfl (x_assign (hF.tmp 63 rfl)) ?_; clear hF; intro a hF
   refine wpList_nil ?_
   refine hK16 _ _ ?_
   refine wp_cond_split (hF.tmp 62 rfl) (fun hc62 => ?_) (fun hc62 => ?_)
   ·have hk62_5 := hc62; try simp only [Bool.or_eq_true, Bool.and_eq_true, Bool.or_eq_false_iff, Bool.and_eq_false_iff, Bool.not_eq_true', Bool.not_eq_false', decide_eq_true_eq, decide_eq_false_iff_not, Bool.not_true, Bool.not_false] at hc62
    refine wp_seq_k fun khK17 hK17 => ?_
    refine wp_region_lit ?_
    refine l_at hF rfl rfl rfl (x_move (hF.tmp 5 rfl)) ?_; clear hF; intro a hF
    refine l_at hF rfl rfl rfl (x_faddr Tryd.underlying41 rfl ty9 (by decide) (hF.tmp 1 rfl) rfl) ?_; clear hF; intro a hF
    refine l_at hF rfl rfl rfl (x_load1 ty9 (hF.tmp 65 rfl) (blk_cell (hH.at 1 rfl) 1 rfl)) ?_; clear hF; intro a hF
    refine wpList_plain rfl fun K hK => ?_
    refine w_s2b 67 (xs := c.key) hF hH rfl Tryd.underlying9 Tryd.underlying28 Tryd.underlying5 (hF.tmp 66 rfl) hb.key (by have := (nameI_parts (rightC_1 hr hc62).1); omega) ?_
    clear hF hH; intro a w b67 c67 hb67_ hF hH
    refine hK _ _ ?_; clear hK K
    refine wpList_plain rfl fun K hK => ?_
    refine w_call hF (x_enterC (vs := #[.int .i64 2, .slice (some ⟨b67, 0, none⟩) c.key.length c67]) (caps := #[.pointer (some ⟨b4, 0, none⟩)]) (args := #[.int .i64 2, .slice (some ⟨b67, 0, none⟩) c.key.length c67, .pointer (some ⟨b4, 0, none⟩)]) Tryd.func46 (by kernel_rfl) rfl (hF.tmp 64 rfl) (by simp only [List.map_toArray, List.map_cons, List.map_nil, hF.tmp 67 rfl] <;> rfl) rfl) (add_calls (bl := b4) (Al := (some ⟨b16, 0, none⟩)) (fs := [((1, [c.kind]) : Fld)]) (cl := ([((1, [c.kind]) : Fld)].length)) (okl := (fun kb => (Value.slice (some ⟨b14, 0, none⟩) ([c.kind]).length ([c.kind]).length).ownBlock = some kb)) _ (it_ok hH 700 rfl) (by simp only [List.length_append, List.length_cons, List.length_nil]; omega) 2 ((hH.rd 67 rfl)) (fun k hk => hH.inb 67 _ rfl k (.inr hk)) (fun k hk h => hH.sep 700 67 _ _ (by decide) rfl rfl k h (.inr hk))) rfl rfl ?_
    rintro _ w ⟨An1, cn1, okn1, rfl, hG_⟩; refine ⟨_, rfl, ?_⟩; clear hF; intro a hF; have hH := hH.grew 700 rfl hG_ (fun k hk => ⟨67, _, rfl, hk⟩)
    refine hK _ _ ?_; clear hK K
    refine wpList_nil ?_
    refine hK17 _ _ ?_
    refine wp_region_lit ?_
    refine l_at hF rfl rfl rfl (x_move (hF.tmp 5 rfl)) ?_; clear hF; intro a hF
    refine l_at hF rfl rfl rfl (x_faddr Tryd.underlying41 rfl ty9 (by decide) (hF.tmp 1 rfl) rfl) ?_; clear hF; intro a hF
    refine l_at hF rfl rfl rfl (x_load1 ty9 (hF.tmp 70 rfl) (blk_cell (hH.at 1 rfl) 2 rfl)) ?_; clear hF; intro a hF
    refine wpList_plain rfl fun K hK => ?_
    refine w_s2b 72 (xs := c.value) hF hH rfl Tryd.underlying9 Tryd.underlying28 Tryd.underlying5 (hF.tmp 71 rfl) hb.value (by have := (rightC_1 hr hc62).2; omega) ?_
    clear hF hH; intro a w b72 c72 hb72_ hF hH
    refine hK _ _ ?_; clear hK K
    refine wpList_plain rfl fun K hK => ?_
    refine w_call hF (x_enterC (vs := #[.int .i64 3, .slice (some ⟨b72, 0, none⟩) c.value.length c72]) (caps := #[.pointer (some ⟨b4, 0, none⟩)]) (args := #[.int .i64 3, .slice (some ⟨b72, 0, none⟩) c.value.length c72, .pointer (some ⟨b4, 0, none⟩)]) Tryd.func46 (by kernel_rfl) rfl (hF.tmp 69 rfl) (by simp only [List.map_toArray, List.map_cons, List.map_nil, hF.tmp 72 rfl] <;> rfl) rfl) (add_calls (bl := b4) (Al := An1) (fs := ([((1, [c.kind]) : Fld)] ++ [((2, c.key) : Fld)])) (cl := cn1) (okl := okn1) _ (it_ok hH 700 rfl) (by simp only [List.length_append, List.length_cons, List.length_nil]; omega) 3 ((hH.rd 72 rfl)) (fun k hk => hH.inb 72 _ rfl k (.inr hk)) (fun k hk h => hH.sep 700 72 _ _ (by decide) rfl rfl k h (.inr hk))) rfl rfl ?_
    rintro _ w ⟨An2, cn2, okn2, rfl, hG_⟩; refine ⟨_, rfl, ?_⟩; clear hF; intro a hF; have hH := hH.grew 700 rfl hG_ (fun k hk => ⟨72, _, rfl, hk⟩)
    refine hK _ _ ?_; clear hK K
    refine wpList_nil ?_
    refine hK7 _ _ ?_
    refine wp_seq_k fun khK18 hK18 => ?_
    refine wp_region_lit ?_
    have hH := hH.unbundle (L := [(804, .blk b4 (.cells #[.slice An2 (([((1, [c.kind]) : Fld)] ++ [((2, c.key) : Fld)]) ++ [((3, c.value) : Fld)]).length cn2] 100 (0, 0))), (840, .row FE 99 (.slice An2 (([((1, [c.kind]) : Fld)] ++ [((2, c.key) : Fld)]) ++ [((3, c.value) : Fld)]).length cn2) (([((1, [c.kind]) : Fld)] ++ [((2, c.key) : Fld)]) ++ [((3, c.value) : Fld)]) okn2)]) (N := [(900, .rd_ StE Ac0 c.timer.steps cc0 (fun k => k < w0.heap.size)), (990, .lib pp), (1, .blk b1 (.cells #[.int .i64 c.kind, .string (strOfNums c.key), .string (strOfNums c.value), .string (strOfNums c.timer.name), .int .i64 c.timer.ver, .int .u64 c.timer.tick, .int .u64 c.timer.every, .slice Ac0 c.timer.steps.length cc0] 41 (0, 0))), (14, .rd_ (.int .u8) (some ⟨b14, 0, none⟩) ([c.kind]) ([c.kind]).length (fun kb => (Value.slice (some ⟨b14, 0, none⟩) ([c.kind]).length ([c.kind]).length).ownBlock = some kb)), (67, .rd_ (.int .u8) (some ⟨b67, 0, none⟩) c.key c67 (fun kb => kb = b67)), (72, .rd_ (.int .u8) (some ⟨b72, 0, none⟩) c.value c72 (fun kb => kb = b72))]) 700 rfl (sub_cons (sub_cons (sub_cons (sub_cons (sub_cons (sub_cons (sub_nil _) 72 rfl) 67 rfl) 14 rfl) 1 rfl) 990 rfl) 900 rfl) rfl
    have hfs : (([((1, [c.kind]) : Fld)] ++ [((2, c.key) : Fld)]) ++ [((3, c.value) : Fld)]) = chgF c := by exact chgF_1 hc62
    refine l_at hF rfl rfl rfl (x_load1 ty100 (hF.tmp 4 rfl) (blk_cell (hH.at 804 rfl) 0 rfl)) ?_; clear hF; intro a hF
    refine wpList_plain rfl fun K hK => ?_
    refine w_call hF (x_enter Tryd.func42 (by kernel_rfl) rfl (by simp only [List.map_toArray, List.map_cons, List.map_nil, hF.tmp 74 rfl] <;> rfl)) (enc_at (Row.rd (ok' := fun k_ => okn2 k_ ∨ (.slice An2 (([((1, [c.kind]) : Fld)] ++ [((2, c.key) : Fld)]) ++ [((3, c.value) : Fld)]).length cn2 : Value).ownBlock = some k_) (hH.row 840 rfl) (fun _ hk_ _ => .inl hk_) (fun _ hk_ => .inr hk_)) (by rw [hfs]; exact encC_encR hr hb)) rfl rfl ?_
    rintro _ w ⟨vr75, rfl, hm_, hr_⟩; refine ⟨_, rfl, ?_⟩; clear hF; intro a hF; have hH := Hp.rowOut hH 75 hm_ hr_; obtain ⟨Ar75, cr75, rfl⟩ := (hH.row 75 rfl).form
    refine hK _ _ ?_; clear hK K
    refine l_at hF rfl rfl rfl (x_extract (hF.tmp 75 rfl) rfl) ?_; clear hF; intro a hF
    refine l_at hF rfl rfl rfl (x_extract (hF.tmp 75 rfl) rfl) ?_; clear hF; intro a hF
    refine l_at hF rfl rfl rfl (x_assign (hF.tmp 76 rfl)) ?_; clear hF; intro a hF
    refine l_at hF rfl rfl rfl (x_assign (hF.tmp 77 rfl)) ?_; clear hF; intro a hF
    refine wpList_nil ?_
    refine hK18 _ _ ?_
    refine wp_ret ?_
    try simp only [Exit.then, Exit.inBlock]
    exact fin_ret hF (res2 hF rfl rfl rfl) ⟨_, by rw [encCE_yes hr] <;> rfl, hH.mods, Hp.out hH 75 rfl⟩
   ·have hk62_6 := hc62; try simp only [Bool.or_eq_true, Bool.and_eq_true, Bool.or_eq_false_iff, Bool.and_eq_false_iff, Bool.not_eq_true', Bool.not_eq_false', decide_eq_true_eq, decide_eq_false_iff_not, Bool.not_true, Bool.not_false] at hc62
    refine wp_region_lit ?_
    refine l_at hF rfl rfl rfl (x_move (hF.tmp 5 rfl)) ?_; clear hF; intro a hF
    refine l_at hF rfl rfl rfl (x_faddr Tryd.underlying41 rfl ty9 (by decide) (hF.tmp 1 rfl) rfl) ?_; clear hF; intro a hF
    refine l_at hF rfl rfl rfl (x_load1 ty9 (hF.tmp 21 rfl) (blk_cell (hH.at 1 rfl) 1 rfl)) ?_; clear hF; intro a hF
    refine wpList_plain rfl fun K hK => ?_
    refine w_s2b 23 (xs := c.key) hF hH rfl Tryd.underlying9 Tryd.underlying28 Tryd.underlying5 (hF.tmp 22 rfl) hb.key (by have := nameI_parts (rightC_2 hr hc25 hc62); omega) ?_
    clear hF hH; intro a w b23 c23 hb23_ hF hH
    refine hK _ _ ?_; clear hK K
    refine wpList_plain rfl fun K hK => ?_
    refine w_call hF (x_enterC (vs := #[.int .i64 2, .slice (some ⟨b23, 0, none⟩) c.key.length c23]) (caps := #[.pointer (some ⟨b4, 0, none⟩)]) (args := #[.int .i64 2, .slice (some ⟨b23, 0, none⟩) c.key.length c23, .pointer (some ⟨b4, 0, none⟩)]) Tryd.func46 (by kernel_rfl) rfl (hF.tmp 20 rfl) (by simp only [List.map_toArray, List.map_cons, List.map_nil, hF.tmp 23 rfl] <;> rfl) rfl) (add_calls (bl := b4) (Al := (some ⟨b16, 0, none⟩)) (fs := [((1, [c.kind]) : Fld)]) (cl := ([((1, [c.kind]) : Fld)].length)) (okl := (fun kb => (Value.slice (some ⟨b14, 0, none⟩) ([c.kind]).length ([c.kind]).length).ownBlock = some kb)) _ (it_ok hH 700 rfl) (by simp only [List.length_append, List.length_cons, List.length_nil]; omega) 2 ((hH.rd 23 rfl)) (fun k hk => hH.inb 23 _ rfl k (.inr hk)) (fun k hk h => hH.sep 700 23 _ _ (by decide) rfl rfl k h (.inr hk))) rfl rfl ?_
    rintro _ w ⟨An1, cn1, okn1, rfl, hG_⟩; refine ⟨_, rfl, ?_⟩; clear hF; intro a hF; have hH := hH.grew 700 rfl hG_ (fun k hk => ⟨23, _, rfl, hk⟩)
    refine hK _ _ ?_; clear hK K
    refine wpList_nil ?_
    refine hK7 _ _ ?_
    refine wp_seq_k fun khK19 hK19 => ?_
    refine wp_region_lit ?_
    have hH := hH.unbundle (L := [(804, .blk b4 (.cells #[.slice An1 ([((1, [c.kind]) : Fld)] ++ [((2, c.key) : Fld)]).length cn1] 100 (0, 0))), (840, .row FE 99 (.slice An1 ([((1, [c.kind]) : Fld)] ++ [((2, c.key) : Fld)]).length cn1) ([((1, [c.kind]) : Fld)] ++ [((2, c.key) : Fld)]) okn1)]) (N := [(900, .rd_ StE Ac0 c.timer.steps cc0 (fun k => k < w0.heap.size)), (990, .lib pp), (1, .blk b1 (.cells #[.int .i64 c.kind, .string (strOfNums c.key), .string (strOfNums c.value), .string (strOfNums c.timer.name), .int .i64 c.timer.ver, .int .u64 c.timer.tick, .int .u64 c.timer.every, .slice Ac0 c.timer.steps.length cc0] 41 (0, 0))), (14, .rd_ (.int .u8) (some ⟨b14, 0, none⟩) ([c.kind]) ([c.kind]).length (fun kb => (Value.slice (some ⟨b14, 0, none⟩) ([c.kind]).length ([c.kind]).length).ownBlock = some kb)), (23, .rd_ (.int .u8) (some ⟨b23, 0, none⟩) c.key c23 (fun kb => kb = b23))]) 700 rfl (sub_cons (sub_cons (sub_cons (sub_cons (sub_cons (sub_nil _) 23 rfl) 14 rfl) 1 rfl) 990 rfl) 900 rfl) rfl
    have hfs : ([((1, [c.kind]) : Fld)] ++ [((2, c.key) : Fld)]) = chgF c := by exact chgF_2 hc25 hc62
    refine l_at hF rfl rfl rfl (x_load1 ty100 (hF.tmp 4 rfl) (blk_cell (hH.at 804 rfl) 0 rfl)) ?_; clear hF; intro a hF
    refine wpList_plain rfl fun K hK => ?_
    refine w_call hF (x_enter Tryd.func42 (by kernel_rfl) rfl (by simp only [List.map_toArray, List.map_cons, List.map_nil, hF.tmp 74 rfl] <;> rfl)) (enc_at (Row.rd (ok' := fun k_ => okn1 k_ ∨ (.slice An1 ([((1, [c.kind]) : Fld)] ++ [((2, c.key) : Fld)]).length cn1 : Value).ownBlock = some k_) (hH.row 840 rfl) (fun _ hk_ _ => .inl hk_) (fun _ hk_ => .inr hk_)) (by rw [hfs]; exact encC_encR hr hb)) rfl rfl ?_
    rintro _ w ⟨vr75, rfl, hm_, hr_⟩; refine ⟨_, rfl, ?_⟩; clear hF; intro a hF; have hH := Hp.rowOut hH 75 hm_ hr_; obtain ⟨Ar75, cr75, rfl⟩ := (hH.row 75 rfl).form
    refine hK _ _ ?_; clear hK K
    refine l_at hF rfl rfl rfl (x_extract (hF.tmp 75 rfl) rfl) ?_; clear hF; intro a hF
    refine l_at hF rfl rfl rfl (x_extract (hF.tmp 75 rfl) rfl) ?_; clear hF; intro a hF
    refine l_at hF rfl rfl rfl (x_assign (hF.tmp 76 rfl)) ?_; clear hF; intro a hF
    refine l_at hF rfl rfl rfl (x_assign (hF.tmp 77 rfl)) ?_; clear hF; intro a hF
    refine wpList_nil ?_
    refine hK19 _ _ ?_
    refine wp_ret ?_
    try simp only [Exit.then, Exit.inBlock]
    exact fin_ret hF (res2 hF rfl rfl rfl) ⟨_, by rw [encCE_yes hr] <;> rfl, hH.mods, Hp.out hH 75 rfl⟩
end Go.Proofs.YtiiklnghnifmjaaDoor.Act
