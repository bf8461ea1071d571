/- The walks of action. -/
import Derived.Test.YtiiklnghnifmjaaDoorActSZu
import Derived.Test.YtiiklnghnifmjaaDoorCodCZu
import Derived.Test.YtiiklnghnifmjaaDoorLibZu
set_option linter.unusedVariables false
set_option linter.unusedSimpArgs false
namespace Go.Proofs.YtiiklnghnifmjaaDoor.Act
open Go.RowKit Go.Proofs.YtiiklnghnifmjaaDoor.Sx Go.Proofs.YtiiklnghnifmjaaDoor.Cod Go.Proofs.YtiiklnghnifmjaaDoor.Num
theorem ty2 : TyI Tryd.prog 2 (.int .i64 0) 1 8 false := ⟨by kernel_rfl, _, Tryd.underlying2, rfl⟩
theorem ty9 : TyI Tryd.prog 9 (.string (strOfNums [])) 1 16 false := ⟨by kernel_rfl, _, Tryd.underlying9, rfl⟩
theorem ty51 : TyI Tryd.prog 51 (.int .i64 0) 1 8 false := ⟨by kernel_rfl, _, Tryd.underlying51, rfl⟩
theorem ty53 : TyI Tryd.prog 53 (.agg #[.int .i64 0, .string (strOfNums []), .string (strOfNums []), .int .i64 0]) 4 48 true := ⟨by kernel_rfl, _, Tryd.underlying53, rfl⟩
set_option maxRecDepth 100000 in
set_option maxHeartbeats 1000000 in
theorem name_calls (w0 : World) (xs : List Int) : Calls Tryd.prog 89 #[.string (strOfNums xs)] w0 fun e w' => e = .returned (.bool (nameI xs)) ∧ Mods (fun _ => False) w0 w' := by
 refine calls_of_wp Tryd.func89 rfl ?_
 have hF := Fr.enter #[.string (strOfNums xs)] 10 (slotsOf [.string (strOfNums xs)] 0) (Nat.le_of_ble_eq_true rfl) (fun i v h => by have h2 := (get_slotsOf _ 0 i v h).2; simpa only [List.getElem?_toArray, Nat.sub_zero] using h2)
 have hH := Hp.nil (fun _ => False) w0
 rw [Tryd.ntmps89]
 revert hF; generalize (⟨(#[.string (strOfNums xs)] : Array Value) ++ Array.replicate (10 - (#[.string (strOfNums xs)] : Array Value).size) undef, []⟩ : Act) = a; intro hF
 refine wp_seq_k fun khK1 hK1 => ?_
 refine wp_region_lit ?_
 refine l_at hF rfl rfl rfl (x_assign rfl) ?_; clear hF; intro a hF
 refine wpList_nil ?_
 refine hK1 _ _ ?_
 refine wp_seq_k fun khK2 hK2 => ?_
 refine wp_region_lit ?_
 refine l_at hF rfl rfl rfl (x_move (hF.tmp 0 rfl)) ?_; clear hF; intro a hF
 refine l_at hF rfl rfl rfl (x_nen0 (xs := xs) (hF.tmp 3 rfl) (show _ = Value.string (strOfNums ([] : List Int)) by kernel_rfl)) ?_; clear hF; intro a hF
 refine l_at hF rfl rfl rfl (x_move (hF.tmp 4 rfl)) ?_; clear hF; intro a hF
 refine split_bool hF 5 rfl (fun hb5 => ?_) (fun hb5 => ?_)
 ·have hc5 := hb5; try simp only [Bool.or_eq_true, Bool.and_eq_true, Bool.or_eq_false_iff, Bool.and_eq_false_iff, Bool.not_eq_true', Bool.not_eq_false', decide_eq_true_eq, decide_eq_false_iff_not, Bool.not_true, Bool.not_false] at hc5
  refine l_atg hF ((wanted_of hF rfl rfl rfl rfl).trans (by rw [hb5]; rfl)) rfl rfl (x_move (hF.tmp 0 rfl)) ?_; clear hF; intro a hF
  refine l_atg hF ((wanted_of hF rfl rfl rfl rfl).trans (by rw [hb5]; rfl)) rfl rfl (x_len_sn (xs := xs) Tryd.underlying9 (hF.tmp 6 rfl)) ?_; clear hF; intro a hF
  refine l_atg hF ((wanted_of hF rfl rfl rfl rfl).trans (by rw [hb5]; rfl)) rfl rfl (x_leq (hF.tmp 7 rfl) rfl) ?_; clear hF; intro a hF
  refine l_at hF rfl rfl rfl (x_pickT (hF.tmp 5 rfl) hb5 (hF.tmp 8 rfl)) ?_; clear hF; intro a hF
  refine l_at hF rfl rfl rfl (x_assign (hF.tmp 9 rfl)) ?_; clear hF; intro a hF
  refine wpList_nil ?_
  refine hK2 _ _ ?_
  refine wp_ret ?_
  try simp only [Exit.then, Exit.inBlock]
  refine fin_ret hF (res1 (v := .bool (decide ((xs.length : Int) ≤ 16))) hF rfl rfl) ⟨?_, hH.mods⟩
  congr 2; unfold nameI; rw [Bool.eq_iff_iff]; simp; omega
 ·have hc5 := hb5; try simp only [Bool.or_eq_true, Bool.and_eq_true, Bool.or_eq_false_iff, Bool.and_eq_false_iff, Bool.not_eq_true', Bool.not_eq_false', decide_eq_true_eq, decide_eq_false_iff_not, Bool.not_true, Bool.not_false] at hc5
  refine l_offg hF ((wanted_of hF rfl rfl rfl rfl).trans (by rw [hb5]; rfl)) rfl rfl ?_; clear hF; intro a hF
  refine l_offg hF ((wanted_of hF rfl rfl rfl rfl).trans (by rw [hb5]; rfl)) rfl rfl ?_; clear hF; intro a hF
  refine l_offg hF ((wanted_of hF rfl rfl rfl rfl).trans (by rw [hb5]; rfl)) rfl rfl ?_; clear hF; intro a hF
  refine l_at hF rfl rfl rfl (x_pickF (hF.tmp 5 rfl) hb5 rfl) ?_; clear hF; intro a hF
  refine l_at hF rfl rfl rfl (x_assign (hF.tmp 9 rfl)) ?_; clear hF; intro a hF
  refine wpList_nil ?_
  refine hK2 _ _ ?_
  refine wp_ret ?_
  try simp only [Exit.then, Exit.inBlock]
  refine fin_ret hF (res1 (v := .bool false) hF rfl rfl) ⟨?_, hH.mods⟩
  congr 2; unfold nameI; rw [Bool.eq_iff_iff]; simp; omega
set_option maxRecDepth 100000 in
set_option maxHeartbeats 1000000 in
theorem rname_calls (w0 : World) (xs : List Int) : Calls Tryd.prog 115 #[.string (strOfNums xs)] w0 fun e w' => e = .returned (.bool (nameI xs)) ∧ Mods (fun _ => False) w0 w' := by
 refine calls_of_wp Tryd.func115 rfl ?_
 have hF := Fr.enter #[.string (strOfNums xs)] 11 (slotsOf [.string (strOfNums xs)] 0) (Nat.le_of_ble_eq_true rfl) (fun i v h => by have h2 := (get_slotsOf _ 0 i v h).2; simpa only [List.getElem?_toArray, Nat.sub_zero] using h2)
 have hH := Hp.nil (fun _ => False) w0
 rw [Tryd.ntmps115]
 revert hF; generalize (⟨(#[.string (strOfNums xs)] : Array Value) ++ Array.replicate (11 - (#[.string (strOfNums xs)] : Array Value).size) undef, []⟩ : Act) = a; intro hF
 refine wp_seq_k fun khK1 hK1 => ?_
 refine wp_region_lit ?_
 refine l_at hF rfl rfl rfl (x_assign rfl) ?_; clear hF; intro a hF
 refine wpList_nil ?_
 refine hK1 _ _ ?_
 refine wp_seq_k fun khK2 hK2 => ?_
 refine wp_region_lit ?_
 refine l_at hF rfl rfl rfl (x_move (hF.tmp 0 rfl)) ?_; clear hF; intro a hF
 refine l_at hF rfl rfl rfl (x_len_sn (xs := xs) Tryd.underlying9 (hF.tmp 3 rfl)) ?_; clear hF; intro a hF
 refine l_at hF rfl rfl rfl (x_geq (hF.tmp 4 rfl) rfl) ?_; clear hF; intro a hF
 refine l_at hF rfl rfl rfl (x_move (hF.tmp 5 rfl)) ?_; clear hF; intro a hF
 refine split_bool hF 6 rfl (fun hb6 => ?_) (fun hb6 => ?_)
 ·have hc6 := hb6; try simp only [Bool.or_eq_true, Bool.and_eq_true, Bool.or_eq_false_iff, Bool.and_eq_false_iff, Bool.not_eq_true', Bool.not_eq_false', decide_eq_true_eq, decide_eq_false_iff_not, Bool.not_true, Bool.not_false] at hc6
  refine l_atg hF ((wanted_of hF rfl rfl rfl rfl).trans (by rw [hb6]; rfl)) rfl rfl (x_move (hF.tmp 0 rfl)) ?_; clear hF; intro a hF
  refine l_atg hF ((wanted_of hF rfl rfl rfl rfl).trans (by rw [hb6]; rfl)) rfl rfl (x_len_sn (xs := xs) Tryd.underlying9 (hF.tmp 7 rfl)) ?_; clear hF; intro a hF
  refine l_atg hF ((wanted_of hF rfl rfl rfl rfl).trans (by rw [hb6]; rfl)) rfl rfl (x_leq (hF.tmp 8 rfl) rfl) ?_; clear hF; intro a hF
  refine l_at hF rfl rfl rfl (x_pickT (hF.tmp 6 rfl) hb6 (hF.tmp 9 rfl)) ?_; clear hF; intro a hF
  refine l_at hF rfl rfl rfl (x_assign (hF.tmp 10 rfl)) ?_; clear hF; intro a hF
  refine wpList_nil ?_
  refine hK2 _ _ ?_
  refine wp_ret ?_
  try simp only [Exit.then, Exit.inBlock]
  refine fin_ret hF (res1 (v := .bool (decide ((xs.length : Int) ≤ 16))) hF rfl rfl) ⟨?_, hH.mods⟩
  congr 2; unfold nameI; rw [Bool.eq_iff_iff]; simp; omega
 ·have hc6 := hb6; try simp only [Bool.or_eq_true, Bool.and_eq_true, Bool.or_eq_false_iff, Bool.and_eq_false_iff, Bool.not_eq_true', Bool.not_eq_false', decide_eq_true_eq, decide_eq_false_iff_not, Bool.not_true, Bool.not_false] at hc6
  refine l_offg hF ((wanted_of hF rfl rfl rfl rfl).trans (by rw [hb6]; rfl)) rfl rfl ?_; clear hF; intro a hF
  refine l_offg hF ((wanted_of hF rfl rfl rfl rfl).trans (by rw [hb6]; rfl)) rfl rfl ?_; clear hF; intro a hF
  refine l_offg hF ((wanted_of hF rfl rfl rfl rfl).trans (by rw [hb6]; rfl)) rfl rfl ?_; clear hF; intro a hF
  refine l_at hF rfl rfl rfl (x_pickF (hF.tmp 6 rfl) hb6 rfl) ?_; clear hF; intro a hF
  refine l_at hF rfl rfl rfl (x_assign (hF.tmp 10 rfl)) ?_; clear hF; intro a hF
  refine wpList_nil ?_
  refine hK2 _ _ ?_
  refine wp_ret ?_
  try simp only [Exit.then, Exit.inBlock]
  refine fin_ret hF (res1 (v := .bool false) hF rfl rfl) ⟨?_, hH.mods⟩
  congr 2; unfold nameI; rw [Bool.eq_iff_iff]; simp; omega
set_option maxRecDepth 100000 in
set_option maxHeartbeats 1000000 in
theorem right_calls (w0 : World) (s : StepD) : Calls Tryd.prog 59 #[.agg #[.int .i64 s.1, .string (strOfNums s.2.1), .string (strOfNums s.2.2.1), .int .i64 s.2.2.2]] w0 fun e w' => e = .returned (.bool (rightS s)) ∧ Mods (fun _ => False) w0 w' := by
 refine calls_of_wp Tryd.func59 rfl ?_
 have hF := Fr.enter #[.agg #[.int .i64 s.1, .string (strOfNums s.2.1), .string (strOfNums s.2.2.1), .int .i64 s.2.2.2]] 47 (slotsOf [.agg #[.int .i64 s.1, .string (strOfNums s.2.1), .string (strOfNums s.2.2.1), .int .i64 s.2.2.2]] 0) (Nat.le_of_ble_eq_true rfl) (fun i v h => by have h2 := (get_slotsOf _ 0 i v h).2; simpa only [List.getElem?_toArray, Nat.sub_zero] using h2)
 have hH := Hp.nil (fun _ => False) w0
 rw [Tryd.ntmps59]
 revert hF; generalize (⟨(#[.agg #[.int .i64 s.1, .string (strOfNums s.2.1), .string (strOfNums s.2.2.1), .int .i64 s.2.2.2]] : Array Value) ++ Array.replicate (47 - (#[.agg #[.int .i64 s.1, .string (strOfNums s.2.1), .string (strOfNums s.2.2.1), .int .i64 s.2.2.2]] : Array Value).size) undef, []⟩ : Act) = a; intro hF
 refine wp_seq_k fun khK1 hK1 => ?_
 refine wp_region_lit ?_
 refine wpList_plain rfl fun K hK => ?_
 refine w_box 1 hF hH rfl (hF.tmp 0 rfl) ?_
 clear hF hH; intro a w b1 hF hH
 refine hK _ _ ?_; clear hK K
 refine l_at hF rfl rfl rfl (x_assign rfl) ?_; clear hF; intro a hF
 refine wpList_nil ?_
 refine hK1 _ _ ?_
 refine wp_seq_k fun khK2 hK2 => ?_
 refine wp_seq_k fun khK3 hK3 => ?_
 refine wp_region_lit ?_
 refine l_at hF rfl rfl rfl (x_faddr Tryd.underlying53 rfl ty51 (by decide) (hF.tmp 1 rfl) rfl) ?_; clear hF; intro a hF
 refine l_at hF rfl rfl rfl (x_load1 ty51 (hF.tmp 3 rfl) (blk_cell (hH.at 1 rfl) 0 rfl)) ?_; clear hF; intro a hF
 refine wpList_nil ?_
 refine hK3 _ _ ?_
 refine wp_block ?_
 refine wp_seq_k fun khK4 hK4 => ?_
 refine wp_region_lit ?_
 refine l_at hF rfl rfl rfl (x_eql (hF.tmp 4 rfl) rfl) ?_; clear hF; intro a hF
 refine l_at hF rfl rfl rfl (x_assign (hF.tmp 6 rfl)) ?_; clear hF; intro a hF
 refine wpList_nil ?_
 refine hK4 _ _ ?_
 refine wp_cond_split (hF.tmp 5 rfl) (fun hc5 => ?_) (fun hc5 => ?_)
 ·have hk5_1 := hc5; try simp only [Bool.or_eq_true, Bool.and_eq_true, Bool.or_eq_false_iff, Bool.and_eq_false_iff, Bool.not_eq_true', Bool.not_eq_false', decide_eq_true_eq, decide_eq_false_iff_not, Bool.not_true, Bool.not_false] at hc5
  refine wp_seq_k fun khK5 hK5 => ?_
  refine wp_region_lit ?_
  refine l_at hF rfl rfl rfl (x_faddr Tryd.underlying53 rfl ty9 (by decide) (hF.tmp 1 rfl) rfl) ?_; clear hF; intro a hF
  refine l_at hF rfl rfl rfl (x_load1 ty9 (hF.tmp 7 rfl) (blk_cell (hH.at 1 rfl) 1 rfl)) ?_; clear hF; intro a hF
  refine wpList_plain rfl fun K hK => ?_
  refine w_call hF (x_enter Tryd.func89 (by kernel_rfl) rfl (by simp only [List.map_toArray, List.map_cons, List.map_nil, hF.tmp 8 rfl] <;> rfl)) (name_calls _ s.2.1) rfl rfl ?_
  rintro _ w ⟨rfl, hm_⟩; refine ⟨_, rfl, ?_⟩; clear hF; intro a hF; have hH := hH.same hm_
  refine hK _ _ ?_; clear hK K
  refine l_at hF rfl rfl rfl (x_move (hF.tmp 9 rfl)) ?_; clear hF; intro a hF
  refine split_bool hF 10 rfl (fun hb10 => ?_) (fun hb10 => ?_)
  ·have hc10 := hb10; try simp only [Bool.or_eq_true, Bool.and_eq_true, Bool.or_eq_false_iff, Bool.and_eq_false_iff, Bool.not_eq_true', Bool.not_eq_false', decide_eq_true_eq, decide_eq_false_iff_not, Bool.not_true, Bool.not_false] at hc10
   refine l_atg hF ((wanted_of hF rfl rfl rfl rfl).trans (by rw [hb10]; rfl)) rfl rfl (x_faddr Tryd.underlying53 rfl ty9 (by decide) (hF.tmp 1 rfl) rfl) ?_; clear hF; intro a hF
   refine l_atg hF ((wanted_of hF rfl rfl rfl rfl).trans (by rw [hb10]; rfl)) rfl rfl (x_load1 ty9 (hF.tmp 11 rfl) (blk_cell (hH.at 1 rfl) 2 rfl)) ?_; clear hF; intro a hF
   refine l_atg hF ((wanted_of hF rfl rfl rfl rfl).trans (by rw [hb10]; rfl)) rfl rfl (x_len_sn (xs := s.2.2.1) Tryd.underlying9 (hF.tmp 12 rfl)) ?_; clear hF; intro a hF
   refine l_atg hF ((wanted_of hF rfl rfl rfl rfl).trans (by rw [hb10]; rfl)) rfl rfl (x_leq (hF.tmp 13 rfl) rfl) ?_; clear hF; intro a hF
   refine l_at hF rfl rfl rfl (x_pickT (hF.tmp 10 rfl) hb10 (hF.tmp 14 rfl)) ?_; clear hF; intro a hF
   refine l_at hF rfl rfl rfl (x_move (hF.tmp 15 rfl)) ?_; clear hF; intro a hF
   refine split_bool hF 16 rfl (fun hb16 => ?_) (fun hb16 => ?_)
   ·have hc16 := hb16; try simp only [Bool.or_eq_true, Bool.and_eq_true, Bool.or_eq_false_iff, Bool.and_eq_false_iff, Bool.not_eq_true', Bool.not_eq_false', decide_eq_true_eq, decide_eq_false_iff_not, Bool.not_true, Bool.not_false] at hc16
    refine l_atg hF ((wanted_of hF rfl rfl rfl rfl).trans (by rw [hb16]; rfl)) rfl rfl (x_faddr Tryd.underlying53 rfl ty2 (by decide) (hF.tmp 1 rfl) rfl) ?_; clear hF; intro a hF
    refine l_atg hF ((wanted_of hF rfl rfl rfl rfl).trans (by rw [hb16]; rfl)) rfl rfl (x_load1 ty2 (hF.tmp 17 rfl) (blk_cell (hH.at 1 rfl) 3 rfl)) ?_; clear hF; intro a hF
    refine l_atg hF ((wanted_of hF rfl rfl rfl rfl).trans (by rw [hb16]; rfl)) rfl rfl (x_eql (hF.tmp 18 rfl) rfl) ?_; clear hF; intro a hF
    refine l_at hF rfl rfl rfl (x_pickT (hF.tmp 16 rfl) hb16 (hF.tmp 19 rfl)) ?_; clear hF; intro a hF
    refine l_at hF rfl rfl rfl (x_assign (hF.tmp 20 rfl)) ?_; clear hF; intro a hF
    refine wpList_nil ?_
    refine hK5 _ _ ?_
    refine wp_ret ?_
    try simp only [Exit.then, Exit.inBlock]
    refine fin_ret hF (res1 (v := .bool (decide (s.2.2.2 = 0))) hF rfl rfl) ⟨?_, hH.mods⟩
    congr 2; unfold rightS; first | (simp [hc5, hc10, hc16]; done) | (simp [hc5, hc10, hc16]; intros; omega)
   ·have hc16 := hb16; try simp only [Bool.or_eq_true, Bool.and_eq_true, Bool.or_eq_false_iff, Bool.and_eq_false_iff, Bool.not_eq_true', Bool.not_eq_false', decide_eq_true_eq, decide_eq_false_iff_not, Bool.not_true, Bool.not_false] at hc16
    refine l_offg hF ((wanted_of hF rfl rfl rfl rfl).trans (by rw [hb16]; rfl)) rfl rfl ?_; clear hF; intro a hF
    refine l_offg hF ((wanted_of hF rfl rfl rfl rfl).trans (by rw [hb16]; rfl)) rfl rfl ?_; clear hF; intro a hF
    refine l_offg hF ((wanted_of hF rfl rfl rfl rfl).trans (by rw [hb16]; rfl)) rfl rfl ?_; clear hF; intro a hF
    refine l_at hF rfl rfl rfl (x_pickF (hF.tmp 16 rfl) hb16 rfl) ?_; clear hF; intro a hF
    refine l_at hF rfl rfl rfl (x_assign (hF.tmp 20 rfl)) ?_; clear hF; intro a hF
    refine wpList_nil ?_
    refine hK5 _ _ ?_
    refine wp_ret ?_
    try simp only [Exit.then, Exit.inBlock]
    refine fin_ret hF (res1 (v := .bool false) hF rfl rfl) ⟨?_, hH.mods⟩
    congr 2; unfold rightS; first | (simp [hc5, hc10, hc16]; done) | (simp [hc5, hc10, hc16]; intros; omega)
  ·have hc10 := hb10; try simp only [Bool.or_eq_true, Bool.and_eq_true, Bool.or_eq_false_iff, Bool.and_eq_false_iff, Bool.not_eq_true', Bool.not_eq_false', decide_eq_true_eq, decide_eq_false_iff_not, Bool.not_true, Bool.not_false] at hc10
   refine l_offg hF ((wanted_of hF rfl rfl rfl rfl).trans (by rw [hb10]; rfl)) rfl rfl ?_; clear hF; intro a hF
   refine l_offg hF ((wanted_of hF rfl rfl rfl rfl).trans (by rw [hb10]; rfl)) rfl rfl ?_; clear hF; intro a hF
   refine l_offg hF ((wanted_of hF rfl rfl rfl rfl).trans (by rw [hb10]; rfl)) rfl rfl ?_; clear hF; intro a hF
   refine l_offg hF ((wanted_of hF rfl rfl rfl rfl).trans (by rw [hb10]; rfl)) rfl rfl ?_; clear hF; intro a hF
   refine l_at hF rfl rfl rfl (x_pickF (hF.tmp 10 rfl) hb10 rfl) ?_; clear hF; intro a hF
   refine l_at hF rfl rfl rfl (x_move (hF.tmp 15 rfl)) ?_; clear hF; intro a hF
   refine l_offg hF ((wanted_of hF rfl rfl rfl rfl).trans rfl) rfl rfl ?_; clear hF; intro a hF
   refine l_offg hF ((wanted_of hF rfl rfl rfl rfl).trans rfl) rfl rfl ?_; clear hF; intro a hF
   refine l_offg hF ((wanted_of hF rfl rfl rfl rfl).trans rfl) rfl rfl ?_; clear hF; intro a hF
   refine l_at hF rfl rfl rfl (x_pickF (hF.tmp 16 rfl) rfl rfl) ?_; clear hF; intro a hF
   refine l_at hF rfl rfl rfl (x_assign (hF.tmp 20 rfl)) ?_; clear hF; intro a hF
   refine wpList_nil ?_
   refine hK5 _ _ ?_
   refine wp_ret ?_
   try simp only [Exit.then, Exit.inBlock]
   refine fin_ret hF (res1 (v := .bool false) hF rfl rfl) ⟨?_, hH.mods⟩
   congr 2; unfold rightS; first | (simp [hc5, hc10]; done) | (simp [hc5, hc10]; intros; omega)
 ·have hk5_2 := hc5; try simp only [Bool.or_eq_true, Bool.and_eq_true, Bool.or_eq_false_iff, Bool.and_eq_false_iff, Bool.not_eq_true', Bool.not_eq_false', decide_eq_true_eq, decide_eq_false_iff_not, Bool.not_true, Bool.not_false] at hc5
  refine wp_seq_k fun khK6 hK6 => ?_
  refine wp_seq_k fun khK7 hK7 => ?_
  refine wp_region_lit ?_
  refine l_at hF rfl rfl rfl (x_eql (hF.tmp 4 rfl) rfl) ?_; clear hF; intro a hF
  refine l_at hF rfl rfl rfl (x_assign (hF.tmp 22 rfl)) ?_; clear hF; intro a hF
  refine wpList_nil ?_
  refine hK7 _ _ ?_
  refine wp_cond_split (hF.tmp 21 rfl) (fun hc21 => ?_) (fun hc21 => ?_)
  ·have hk21_3 := hc21; try simp only [Bool.or_eq_true, Bool.and_eq_true, Bool.or_eq_false_iff, Bool.and_eq_false_iff, Bool.not_eq_true', Bool.not_eq_false', decide_eq_true_eq, decide_eq_false_iff_not, Bool.not_true, Bool.not_false] at hc21
   refine wp_skip ?_
   refine hK6 _ _ ?_
   refine wp_cond_true ((hF.tmp 21 rfl).trans (by rw [hk21_3])) ?_
   refine wp_seq_k fun khK8 hK8 => ?_
   refine wp_region_lit ?_
   refine l_at hF rfl rfl rfl (x_faddr Tryd.underlying53 rfl ty9 (by decide) (hF.tmp 1 rfl) rfl) ?_; clear hF; intro a hF
   refine l_at hF rfl rfl rfl (x_load1 ty9 (hF.tmp 24 rfl) (blk_cell (hH.at 1 rfl) 1 rfl)) ?_; clear hF; intro a hF
   refine wpList_plain rfl fun K hK => ?_
   refine w_call hF (x_enter Tryd.func89 (by kernel_rfl) rfl (by simp only [List.map_toArray, List.map_cons, List.map_nil, hF.tmp 25 rfl] <;> rfl)) (name_calls _ s.2.1) rfl rfl ?_
   rintro _ w ⟨rfl, hm_⟩; refine ⟨_, rfl, ?_⟩; clear hF; intro a hF; have hH := hH.same hm_
   refine hK _ _ ?_; clear hK K
   refine l_at hF rfl rfl rfl (x_move (hF.tmp 26 rfl)) ?_; clear hF; intro a hF
   refine split_bool hF 27 rfl (fun hb27 => ?_) (fun hb27 => ?_)
   ·have hc27 := hb27; try simp only [Bool.or_eq_true, Bool.and_eq_true, Bool.or_eq_false_iff, Bool.and_eq_false_iff, Bool.not_eq_true', Bool.not_eq_false', decide_eq_true_eq, decide_eq_false_iff_not, Bool.not_true, Bool.not_false] at hc27
    refine l_atg hF ((wanted_of hF rfl rfl rfl rfl).trans (by rw [hb27]; rfl)) rfl rfl (x_faddr Tryd.underlying53 rfl ty9 (by decide) (hF.tmp 1 rfl) rfl) ?_; clear hF; intro a hF
    refine l_atg hF ((wanted_of hF rfl rfl rfl rfl).trans (by rw [hb27]; rfl)) rfl rfl (x_load1 ty9 (hF.tmp 28 rfl) (blk_cell (hH.at 1 rfl) 2 rfl)) ?_; clear hF; intro a hF
    refine l_atg hF ((wanted_of hF rfl rfl rfl rfl).trans (by rw [hb27]; rfl)) rfl rfl (x_eqn0 (xs := s.2.2.1) (hF.tmp 29 rfl) (show _ = Value.string (strOfNums ([] : List Int)) by kernel_rfl)) ?_; clear hF; intro a hF
    refine l_at hF rfl rfl rfl (x_pickT (hF.tmp 27 rfl) hb27 (hF.tmp 30 rfl)) ?_; clear hF; intro a hF
    refine l_at hF rfl rfl rfl (x_move (hF.tmp 31 rfl)) ?_; clear hF; intro a hF
    refine split_bool hF 32 rfl (fun hb32 => ?_) (fun hb32 => ?_)
    ·have hc32 := hb32; try simp only [Bool.or_eq_true, Bool.and_eq_true, Bool.or_eq_false_iff, Bool.and_eq_false_iff, Bool.not_eq_true', Bool.not_eq_false', decide_eq_true_eq, decide_eq_false_iff_not, Bool.not_true, Bool.not_false] at hc32
     refine l_atg hF ((wanted_of hF rfl rfl rfl rfl).trans (by rw [hb32]; rfl)) rfl rfl (x_faddr Tryd.underlying53 rfl ty2 (by decide) (hF.tmp 1 rfl) rfl) ?_; clear hF; intro a hF
     refine l_atg hF ((wanted_of hF rfl rfl rfl rfl).trans (by rw [hb32]; rfl)) rfl rfl (x_load1 ty2 (hF.tmp 33 rfl) (blk_cell (hH.at 1 rfl) 3 rfl)) ?_; clear hF; intro a hF
     refine l_atg hF ((wanted_of hF rfl rfl rfl rfl).trans (by rw [hb32]; rfl)) rfl rfl (x_eql (hF.tmp 34 rfl) rfl) ?_; clear hF; intro a hF
     refine l_at hF rfl rfl rfl (x_pickT (hF.tmp 32 rfl) hb32 (hF.tmp 35 rfl)) ?_; clear hF; intro a hF
     refine l_at hF rfl rfl rfl (x_assign (hF.tmp 36 rfl)) ?_; clear hF; intro a hF
     refine wpList_nil ?_
     refine hK8 _ _ ?_
     refine wp_ret ?_
     try simp only [Exit.then, Exit.inBlock]
     refine fin_ret hF (res1 (v := .bool (decide (s.2.2.2 = 0))) hF rfl rfl) ⟨?_, hH.mods⟩
     congr 2; unfold rightS; first | (simp [hc5, hc21, hc27, hc32]; done) | (simp [hc5, hc21, hc27, hc32]; intros; omega)
    ·have hc32 := hb32; try simp only [Bool.or_eq_true, Bool.and_eq_true, Bool.or_eq_false_iff, Bool.and_eq_false_iff, Bool.not_eq_true', Bool.not_eq_false', decide_eq_true_eq, decide_eq_false_iff_not, Bool.not_true, Bool.not_false] at hc32
     refine l_offg hF ((wanted_of hF rfl rfl rfl rfl).trans (by rw [hb32]; rfl)) rfl rfl ?_; clear hF; intro a hF
     refine l_offg hF ((wanted_of hF rfl rfl rfl rfl).trans (by rw [hb32]; rfl)) rfl rfl ?_; clear hF; intro a hF
     refine l_offg hF ((wanted_of hF rfl rfl rfl rfl).trans (by rw [hb32]; rfl)) rfl rfl ?_; clear hF; intro a hF
     refine l_at hF rfl rfl rfl (x_pickF (hF.tmp 32 rfl) hb32 rfl) ?_; clear hF; intro a hF
     refine l_at hF rfl rfl rfl (x_assign (hF.tmp 36 rfl)) ?_; clear hF; intro a hF
     refine wpList_nil ?_
     refine hK8 _ _ ?_
     refine wp_ret ?_
     try simp only [Exit.then, Exit.inBlock]
     refine fin_ret hF (res1 (v := .bool false) hF rfl rfl) ⟨?_, hH.mods⟩
     congr 2; unfold rightS; first | (simp [hc5, hc21, hc27, hc32]; done) | (simp [hc5, hc21, hc27, hc32]; intros; omega)
   ·have hc27 := hb27; try simp only [Bool.or_eq_true, Bool.and_eq_true, Bool.or_eq_false_iff, Bool.and_eq_false_iff, Bool.not_eq_true', Bool.not_eq_false', decide_eq_true_eq, decide_eq_false_iff_not, Bool.not_true, Bool.not_false] at hc27
    refine l_offg hF ((wanted_of hF rfl rfl rfl rfl).trans (by rw [hb27]; rfl)) rfl rfl ?_; clear hF; intro a hF
    refine l_offg hF ((wanted_of hF rfl rfl rfl rfl).trans (by rw [hb27]; rfl)) rfl rfl ?_; clear hF; intro a hF
    refine l_offg hF ((wanted_of hF rfl rfl rfl rfl).trans (by rw [hb27]; rfl)) rfl rfl ?_; clear hF; intro a hF
    refine l_at hF rfl rfl rfl (x_pickF (hF.tmp 27 rfl) hb27 rfl) ?_; clear hF; intro a hF
    refine l_at hF rfl rfl rfl (x_move (hF.tmp 31 rfl)) ?_; clear hF; intro a hF
    refine l_offg hF ((wanted_of hF rfl rfl rfl rfl).trans rfl) rfl rfl ?_; clear hF; intro a hF
    refine l_offg hF ((wanted_of hF rfl rfl rfl rfl).trans rfl) rfl rfl ?_; clear hF; intro a hF
    refine l_offg hF ((wanted_of hF rfl rfl rfl rfl).trans rfl) rfl rfl ?_; clear hF; intro a hF
    refine l_at hF rfl rfl rfl (x_pickF (hF.tmp 32 rfl) rfl rfl) ?_; clear hF; intro a hF
    refine l_at hF rfl rfl rfl (x_assign (hF.tmp 36 rfl)) ?_; clear hF; intro a hF
    refine wpList_nil ?_
    refine hK8 _ _ ?_
    refine wp_ret ?_
    try simp only [Exit.then, Exit.inBlock]
    refine fin_ret hF (res1 (v := .bool false) hF rfl rfl) ⟨?_, hH.mods⟩
    congr 2; unfold rightS; first | (simp [hc5, hc21, hc27]; done) | (simp [hc5, hc21, hc27]; intros; omega)
  ·have hk21_4 := hc21; try simp only [Bool.or_eq_true, Bool.and_eq_true, Bool.or_eq_false_iff, Bool.and_eq_false_iff, Bool.not_eq_true', Bool.not_eq_false', decide_eq_true_eq, decide_eq_false_iff_not, Bool.not_true, Bool.not_false] at hc21
   refine wp_region_lit ?_
   refine l_at hF rfl rfl rfl (x_eql (hF.tmp 4 rfl) rfl) ?_; clear hF; intro a hF
   refine l_at hF rfl rfl rfl (x_assign (hF.tmp 23 rfl)) ?_; clear hF; intro a hF
   refine wpList_nil ?_
   refine hK6 _ _ ?_
   refine wp_cond_split (hF.tmp 21 rfl) (fun hc21 => ?_) (fun hc21 => ?_)
   ·have hk21_5 := hc21; try simp only [Bool.or_eq_true, Bool.and_eq_true, Bool.or_eq_false_iff, Bool.and_eq_false_iff, Bool.not_eq_true', Bool.not_eq_false', decide_eq_true_eq, decide_eq_false_iff_not, Bool.not_true, Bool.not_false] at hc21
    refine wp_seq_k fun khK9 hK9 => ?_
    refine wp_region_lit ?_
    refine l_at hF rfl rfl rfl (x_faddr Tryd.underlying53 rfl ty9 (by decide) (hF.tmp 1 rfl) rfl) ?_; clear hF; intro a hF
    refine l_at hF rfl rfl rfl (x_load1 ty9 (hF.tmp 24 rfl) (blk_cell (hH.at 1 rfl) 1 rfl)) ?_; clear hF; intro a hF
    refine wpList_plain rfl fun K hK => ?_
    refine w_call hF (x_enter Tryd.func89 (by kernel_rfl) rfl (by simp only [List.map_toArray, List.map_cons, List.map_nil, hF.tmp 25 rfl] <;> rfl)) (name_calls _ s.2.1) rfl rfl ?_
    rintro _ w ⟨rfl, hm_⟩; refine ⟨_, rfl, ?_⟩; clear hF; intro a hF; have hH := hH.same hm_
    refine hK _ _ ?_; clear hK K
    refine l_at hF rfl rfl rfl (x_move (hF.tmp 26 rfl)) ?_; clear hF; intro a hF
    refine split_bool hF 27 rfl (fun hb27 => ?_) (fun hb27 => ?_)
    ·have hc27 := hb27; try simp only [Bool.or_eq_true, Bool.and_eq_true, Bool.or_eq_false_iff, Bool.and_eq_false_iff, Bool.not_eq_true', Bool.not_eq_false', decide_eq_true_eq, decide_eq_false_iff_not, Bool.not_true, Bool.not_false] at hc27
     refine l_atg hF ((wanted_of hF rfl rfl rfl rfl).trans (by rw [hb27]; rfl)) rfl rfl (x_faddr Tryd.underlying53 rfl ty9 (by decide) (hF.tmp 1 rfl) rfl) ?_; clear hF; intro a hF
     refine l_atg hF ((wanted_of hF rfl rfl rfl rfl).trans (by rw [hb27]; rfl)) rfl rfl (x_load1 ty9 (hF.tmp 28 rfl) (blk_cell (hH.at 1 rfl) 2 rfl)) ?_; clear hF; intro a hF
     refine l_atg hF ((wanted_of hF rfl rfl rfl rfl).trans (by rw [hb27]; rfl)) rfl rfl (x_eqn0 (xs := s.2.2.1) (hF.tmp 29 rfl) (show _ = Value.string (strOfNums ([] : List Int)) by kernel_rfl)) ?_; clear hF; intro a hF
     refine l_at hF rfl rfl rfl (x_pickT (hF.tmp 27 rfl) hb27 (hF.tmp 30 rfl)) ?_; clear hF; intro a hF
     refine l_at hF rfl rfl rfl (x_move (hF.tmp 31 rfl)) ?_; clear hF; intro a hF
     refine split_bool hF 32 rfl (fun hb32 => ?_) (fun hb32 => ?_)
     ·have hc32 := hb32; try simp only [Bool.or_eq_true, Bool.and_eq_true, Bool.or_eq_false_iff, Bool.and_eq_false_iff, Bool.not_eq_true', Bool.not_eq_false', decide_eq_true_eq, decide_eq_false_iff_not, Bool.not_true, Bool.not_false] at hc32
      refine l_atg hF ((wanted_of hF rfl rfl rfl rfl).trans (by rw [hb32]; rfl)) rfl rfl (x_faddr Tryd.underlying53 rfl ty2 (by decide) (hF.tmp 1 rfl) rfl) ?_; clear hF; intro a hF
      refine l_atg hF ((wanted_of hF rfl rfl rfl rfl).trans (by rw [hb32]; rfl)) rfl rfl (x_load1 ty2 (hF.tmp 33 rfl) (blk_cell (hH.at 1 rfl) 3 rfl)) ?_; clear hF; intro a hF
      refine l_atg hF ((wanted_of hF rfl rfl rfl rfl).trans (by rw [hb32]; rfl)) rfl rfl (x_eql (hF.tmp 34 rfl) rfl) ?_; clear hF; intro a hF
      refine l_at hF rfl rfl rfl (x_pickT (hF.tmp 32 rfl) hb32 (hF.tmp 35 rfl)) ?_; clear hF; intro a hF
      refine l_at hF rfl rfl rfl (x_assign (hF.tmp 36 rfl)) ?_; clear hF; intro a hF
      refine wpList_nil ?_
      refine hK9 _ _ ?_
      refine wp_ret ?_
      try simp only [Exit.then, Exit.inBlock]
      refine fin_ret hF (res1 (v := .bool (decide (s.2.2.2 = 0))) hF rfl rfl) ⟨?_, hH.mods⟩
      congr 2; unfold rightS; first | (simp [hc5, hc21, hc21, hc27, hc32]; done) | (simp [hc5, hc21, hc21, hc27, hc32]; intros; omega)
     ·have hc32 := hb32; try simp only [Bool.or_eq_true, Bool.and_eq_true, Bool.or_eq_false_iff, Bool.and_eq_false_iff, Bool.not_eq_true', Bool.not_eq_false', decide_eq_true_eq, decide_eq_false_iff_not, Bool.not_true, Bool.not_false] at hc32
      refine l_offg hF ((wanted_of hF rfl rfl rfl rfl).trans (by rw [hb32]; rfl)) rfl rfl ?_; clear hF; intro a hF
      refine l_offg hF ((wanted_of hF rfl rfl rfl rfl).trans (by rw [hb32]; rfl)) rfl rfl ?_; clear hF; intro a hF
      refine l_offg hF ((wanted_of hF rfl rfl rfl rfl).trans (by rw [hb32]; rfl)) rfl rfl ?_; clear hF; intro a hF
      refine l_at hF rfl rfl rfl (x_pickF (hF.tmp 32 rfl) hb32 rfl) ?_; clear hF; intro a hF
      refine l_at hF rfl rfl rfl (x_assign (hF.tmp 36 rfl)) ?_; clear hF; intro a hF
      refine wpList_nil ?_
      refine hK9 _ _ ?_
      refine wp_ret ?_
      try simp only [Exit.then, Exit.inBlock]
      refine fin_ret hF (res1 (v := .bool false) hF rfl rfl) ⟨?_, hH.mods⟩
      congr 2; unfold rightS; first | (simp [hc5, hc21, hc21, hc27, hc32]; done) | (simp [hc5, hc21, hc21, hc27, hc32]; intros; omega)
    ·have hc27 := hb27; try simp only [Bool.or_eq_true, Bool.and_eq_true, Bool.or_eq_false_iff, Bool.and_eq_false_iff, Bool.not_eq_true', Bool.not_eq_false', decide_eq_true_eq, decide_eq_false_iff_not, Bool.not_true, Bool.not_false] at hc27
     refine l_offg hF ((wanted_of hF rfl rfl rfl rfl).trans (by rw [hb27]; rfl)) rfl rfl ?_; clear hF; intro a hF
     refine l_offg hF ((wanted_of hF rfl rfl rfl rfl).trans (by rw [hb27]; rfl)) rfl rfl ?_; clear hF; intro a hF
     refine l_offg hF ((wanted_of hF rfl rfl rfl rfl).trans (by rw [hb27]; rfl)) rfl rfl ?_; clear hF; intro a hF
     refine l_at hF rfl rfl rfl (x_pickF (hF.tmp 27 rfl) hb27 rfl) ?_; clear hF; intro a hF
     refine l_at hF rfl rfl rfl (x_move (hF.tmp 31 rfl)) ?_; clear hF; intro a hF
     refine l_offg hF ((wanted_of hF rfl rfl rfl rfl).trans rfl) rfl rfl ?_; clear hF; intro a hF
     refine l_offg hF ((wanted_of hF rfl rfl rfl rfl).trans rfl) rfl rfl ?_; clear hF; intro a hF
     refine l_offg hF ((wanted_of hF rfl rfl rfl rfl).trans rfl) rfl rfl ?_; clear hF; intro a hF
     refine l_at hF rfl rfl rfl (x_pickF (hF.tmp 32 rfl) rfl rfl) ?_; clear hF; intro a hF
     refine l_at hF rfl rfl rfl (x_assign (hF.tmp 36 rfl)) ?_; clear hF; intro a hF
     refine wpList_nil ?_
     refine hK9 _ _ ?_
     refine wp_ret ?_
     try simp only [Exit.then, Exit.inBlock]
     refine fin_ret hF (res1 (v := .bool false) hF rfl rfl) ⟨?_, hH.mods⟩
     congr 2; unfold rightS; first | (simp [hc5, hc21, hc21, hc27]; done) | (simp [hc5, hc21, hc21, hc27]; intros; omega)
   ·have hk21_6 := hc21; try simp only [Bool.or_eq_true, Bool.and_eq_true, Bool.or_eq_false_iff, Bool.and_eq_false_iff, Bool.not_eq_true', Bool.not_eq_false', decide_eq_true_eq, decide_eq_false_iff_not, Bool.not_true, Bool.not_false] at hc21
    refine wp_seq_k fun khK10 hK10 => ?_
    refine wp_region_lit ?_
    refine l_at hF rfl rfl rfl (x_eql (hF.tmp 4 rfl) rfl) ?_; clear hF; intro a hF
    refine l_at hF rfl rfl rfl (x_assign (hF.tmp 38 rfl)) ?_; clear hF; intro a hF
    refine wpList_nil ?_
    refine hK10 _ _ ?_
    refine wp_cond_split (hF.tmp 37 rfl) (fun hc37 => ?_) (fun hc37 => ?_)
    ·have hk37_7 := hc37; try simp only [Bool.or_eq_true, Bool.and_eq_true, Bool.or_eq_false_iff, Bool.and_eq_false_iff, Bool.not_eq_true', Bool.not_eq_false', decide_eq_true_eq, decide_eq_false_iff_not, Bool.not_true, Bool.not_false] at hc37
     refine wp_seq_k fun khK11 hK11 => ?_
     refine wp_region_lit ?_
     refine l_at hF rfl rfl rfl (x_faddr Tryd.underlying53 rfl ty9 (by decide) (hF.tmp 1 rfl) rfl) ?_; clear hF; intro a hF
     refine l_at hF rfl rfl rfl (x_load1 ty9 (hF.tmp 39 rfl) (blk_cell (hH.at 1 rfl) 1 rfl)) ?_; clear hF; intro a hF
     refine wpList_plain rfl fun K hK => ?_
     refine w_call hF (x_enter Tryd.func89 (by kernel_rfl) rfl (by simp only [List.map_toArray, List.map_cons, List.map_nil, hF.tmp 40 rfl] <;> rfl)) (name_calls _ s.2.1) rfl rfl ?_
     rintro _ w ⟨rfl, hm_⟩; refine ⟨_, rfl, ?_⟩; clear hF; intro a hF; have hH := hH.same hm_
     refine hK _ _ ?_; clear hK K
     refine l_at hF rfl rfl rfl (x_move (hF.tmp 41 rfl)) ?_; clear hF; intro a hF
     refine split_bool hF 42 rfl (fun hb42 => ?_) (fun hb42 => ?_)
     ·have hc42 := hb42; try simp only [Bool.or_eq_true, Bool.and_eq_true, Bool.or_eq_false_iff, Bool.and_eq_false_iff, Bool.not_eq_true', Bool.not_eq_false', decide_eq_true_eq, decide_eq_false_iff_not, Bool.not_true, Bool.not_false] at hc42
      refine l_atg hF ((wanted_of hF rfl rfl rfl rfl).trans (by rw [hb42]; rfl)) rfl rfl (x_faddr Tryd.underlying53 rfl ty9 (by decide) (hF.tmp 1 rfl) rfl) ?_; clear hF; intro a hF
      refine l_atg hF ((wanted_of hF rfl rfl rfl rfl).trans (by rw [hb42]; rfl)) rfl rfl (x_load1 ty9 (hF.tmp 43 rfl) (blk_cell (hH.at 1 rfl) 2 rfl)) ?_; clear hF; intro a hF
      refine l_atg hF ((wanted_of hF rfl rfl rfl rfl).trans (by rw [hb42]; rfl)) rfl rfl (x_eqn0 (xs := s.2.2.1) (hF.tmp 44 rfl) (show _ = Value.string (strOfNums ([] : List Int)) by kernel_rfl)) ?_; clear hF; intro a hF
      refine l_at hF rfl rfl rfl (x_pickT (hF.tmp 42 rfl) hb42 (hF.tmp 45 rfl)) ?_; clear hF; intro a hF
      refine l_at hF rfl rfl rfl (x_assign (hF.tmp 46 rfl)) ?_; clear hF; intro a hF
      refine wpList_nil ?_
      refine hK11 _ _ ?_
      refine wp_ret ?_
      try simp only [Exit.then, Exit.inBlock]
      refine fin_ret hF (res1 (v := .bool (decide (s.2.2.1.length = 0))) hF rfl rfl) ⟨?_, hH.mods⟩
      congr 2; unfold rightS; first | (simp [hc5, hc21, hc21, hc37, hc42]; done) | (simp [hc5, hc21, hc21, hc37, hc42]; intros; omega)
     ·have hc42 := hb42; try simp only [Bool.or_eq_true, Bool.and_eq_true, Bool.or_eq_false_iff, Bool.and_eq_false_iff, Bool.not_eq_true', Bool.not_eq_false', decide_eq_true_eq, decide_eq_false_iff_not, Bool.not_true, Bool.not_false] at hc42
      refine l_offg hF ((wanted_of hF rfl rfl rfl rfl).trans (by rw [hb42]; rfl)) rfl rfl ?_; clear hF; intro a hF
      refine l_offg hF ((wanted_of hF rfl rfl rfl rfl).trans (by rw [hb42]; rfl)) rfl rfl ?_; clear hF; intro a hF
      refine l_offg hF ((wanted_of hF rfl rfl rfl rfl).trans (by rw [hb42]; rfl)) rfl rfl ?_; clear hF; intro a hF
      refine l_at hF rfl rfl rfl (x_pickF (hF.tmp 42 rfl) hb42 rfl) ?_; clear hF; intro a hF
      refine l_at hF rfl rfl rfl (x_assign (hF.tmp 46 rfl)) ?_; clear hF; intro a hF
      refine wpList_nil ?_
      refine hK11 _ _ ?_
      refine wp_ret ?_
      try simp only [Exit.then, Exit.inBlock]
      refine fin_ret hF (res1 (v := .bool false) hF rfl rfl) ⟨?_, hH.mods⟩
      congr 2; unfold rightS; first | (simp [hc5, hc21, hc21, hc37, hc42]; done) | (simp [hc5, hc21, hc21, hc37, hc42]; intros; omega)
    ·have hk37_8 := hc37; try simp only [Bool.or_eq_true, Bool.and_eq_true, Bool.or_eq_false_iff, Bool.and_eq_false_iff, Bool.not_eq_true', Bool.not_eq_false', decide_eq_true_eq, decide_eq_false_iff_not, Bool.not_true, Bool.not_false] at hc37
     refine wp_skip ?_
     refine hK2 _ _ ?_
     refine wp_seq_k fun khK12 hK12 => ?_
     refine wp_region_lit ?_
     refine l_at hF rfl rfl rfl (x_assign rfl) ?_; clear hF; intro a hF
     refine wpList_nil ?_
     refine hK12 _ _ ?_
     refine wp_ret ?_
     try simp only [Exit.then, Exit.inBlock]
     refine fin_ret hF (res1 (v := .bool false) hF rfl rfl) ⟨?_, hH.mods⟩
     congr 2; unfold rightS; first | (simp [hc5, hc21, hc21, hc37]; done) | (simp [hc5, hc21, hc21, hc37]; intros; omega)
set_option maxRecDepth 100000 in
set_option maxHeartbeats 1000000 in
theorem rright_calls (w0 : World) (s : StepD) : Calls Tryd.prog 117 #[.agg #[.int .i64 s.1, .string (strOfNums s.2.1), .string (strOfNums s.2.2.1), .int .i64 s.2.2.2]] w0 fun e w' => e = .returned (.bool (rightS s)) ∧ Mods (fun _ => False) w0 w' := by
 refine calls_of_wp Tryd.func117 rfl ?_
 have hF := Fr.enter #[.agg #[.int .i64 s.1, .string (strOfNums s.2.1), .string (strOfNums s.2.2.1), .int .i64 s.2.2.2]] 45 (slotsOf [.agg #[.int .i64 s.1, .string (strOfNums s.2.1), .string (strOfNums s.2.2.1), .int .i64 s.2.2.2]] 0) (Nat.le_of_ble_eq_true rfl) (fun i v h => by have h2 := (get_slotsOf _ 0 i v h).2; simpa only [List.getElem?_toArray, Nat.sub_zero] using h2)
 have hH := Hp.nil (fun _ => False) w0
 rw [Tryd.ntmps117]
 revert hF; generalize (⟨(#[.agg #[.int .i64 s.1, .string (strOfNums s.2.1), .string (strOfNums s.2.2.1), .int .i64 s.2.2.2]] : Array Value) ++ Array.replicate (45 - (#[.agg #[.int .i64 s.1, .string (strOfNums s.2.1), .string (strOfNums s.2.2.1), .int .i64 s.2.2.2]] : Array Value).size) undef, []⟩ : Act) = a; intro hF
 refine wp_seq_k fun khK1 hK1 => ?_
 refine wp_region_lit ?_
 refine wpList_plain rfl fun K hK => ?_
 refine w_box 1 hF hH rfl (hF.tmp 0 rfl) ?_
 clear hF hH; intro a w b1 hF hH
 refine hK _ _ ?_; clear hK K
 refine l_at hF rfl rfl rfl (x_assign rfl) ?_; clear hF; intro a hF
 refine wpList_nil ?_
 refine hK1 _ _ ?_
 refine wp_seq_k fun khK2 hK2 => ?_
 refine wp_region_lit ?_
 refine l_at hF rfl rfl rfl (x_faddr Tryd.underlying53 rfl ty9 (by decide) (hF.tmp 1 rfl) rfl) ?_; clear hF; intro a hF
 refine l_at hF rfl rfl rfl (x_load1 ty9 (hF.tmp 4 rfl) (blk_cell (hH.at 1 rfl) 1 rfl)) ?_; clear hF; intro a hF
 refine wpList_plain rfl fun K hK => ?_
 refine w_call hF (x_enter Tryd.func115 (by kernel_rfl) rfl (by simp only [List.map_toArray, List.map_cons, List.map_nil, hF.tmp 5 rfl] <;> rfl)) (rname_calls _ s.2.1) rfl rfl ?_
 rintro _ w ⟨rfl, hm_⟩; refine ⟨_, rfl, ?_⟩; clear hF; intro a hF; have hH := hH.same hm_
 refine hK _ _ ?_; clear hK K
 refine l_at hF rfl rfl rfl (x_assign (hF.tmp 6 rfl)) ?_; clear hF; intro a hF
 refine wpList_nil ?_
 refine hK2 _ _ ?_
 refine wp_seq_k fun khK3 hK3 => ?_
 refine wp_seq_k fun khK4 hK4 => ?_
 refine wp_region_lit ?_
 refine l_at hF rfl rfl rfl (x_faddr Tryd.underlying53 rfl ty51 (by decide) (hF.tmp 1 rfl) rfl) ?_; clear hF; intro a hF
 refine l_at hF rfl rfl rfl (x_load1 ty51 (hF.tmp 7 rfl) (blk_cell (hH.at 1 rfl) 0 rfl)) ?_; clear hF; intro a hF
 refine wpList_nil ?_
 refine hK4 _ _ ?_
 refine wp_block ?_
 refine wp_seq_k fun khK5 hK5 => ?_
 refine wp_region_lit ?_
 refine l_at hF rfl rfl rfl (x_eql (hF.tmp 8 rfl) rfl) ?_; clear hF; intro a hF
 refine l_at hF rfl rfl rfl (x_assign (hF.tmp 10 rfl)) ?_; clear hF; intro a hF
 refine wpList_nil ?_
 refine hK5 _ _ ?_
 refine wp_cond_split (hF.tmp 9 rfl) (fun hc9 => ?_) (fun hc9 => ?_)
 ·have hk9_1 := hc9; try simp only [Bool.or_eq_true, Bool.and_eq_true, Bool.or_eq_false_iff, Bool.and_eq_false_iff, Bool.not_eq_true', Bool.not_eq_false', decide_eq_true_eq, decide_eq_false_iff_not, Bool.not_true, Bool.not_false] at hc9
  refine wp_seq_k fun khK6 hK6 => ?_
  refine wp_region_lit ?_
  refine l_at hF rfl rfl rfl (x_move (hF.tmp 3 rfl)) ?_; clear hF; intro a hF
  refine l_at hF rfl rfl rfl (x_move (hF.tmp 11 rfl)) ?_; clear hF; intro a hF
  refine split_bool hF 12 rfl (fun hb12 => ?_) (fun hb12 => ?_)
  ·have hc12 := hb12; try simp only [Bool.or_eq_true, Bool.and_eq_true, Bool.or_eq_false_iff, Bool.and_eq_false_iff, Bool.not_eq_true', Bool.not_eq_false', decide_eq_true_eq, decide_eq_false_iff_not, Bool.not_true, Bool.not_false] at hc12
   refine l_atg hF ((wanted_of hF rfl rfl rfl rfl).trans (by rw [hb12]; rfl)) rfl rfl (x_faddr Tryd.underlying53 rfl ty9 (by decide) (hF.tmp 1 rfl) rfl) ?_; clear hF; intro a hF
   refine l_atg hF ((wanted_of hF rfl rfl rfl rfl).trans (by rw [hb12]; rfl)) rfl rfl (x_load1 ty9 (hF.tmp 13 rfl) (blk_cell (hH.at 1 rfl) 2 rfl)) ?_; clear hF; intro a hF
   refine l_atg hF ((wanted_of hF rfl rfl rfl rfl).trans (by rw [hb12]; rfl)) rfl rfl (x_len_sn (xs := s.2.2.1) Tryd.underlying9 (hF.tmp 14 rfl)) ?_; clear hF; intro a hF
   refine l_atg hF ((wanted_of hF rfl rfl rfl rfl).trans (by rw [hb12]; rfl)) rfl rfl (x_leq (hF.tmp 15 rfl) rfl) ?_; clear hF; intro a hF
   refine l_at hF rfl rfl rfl (x_pickT (hF.tmp 12 rfl) hb12 (hF.tmp 16 rfl)) ?_; clear hF; intro a hF
   refine l_at hF rfl rfl rfl (x_move (hF.tmp 17 rfl)) ?_; clear hF; intro a hF
   refine split_bool hF 18 rfl (fun hb18 => ?_) (fun hb18 => ?_)
   ·have hc18 := hb18; try simp only [Bool.or_eq_true, Bool.and_eq_true, Bool.or_eq_false_iff, Bool.and_eq_false_iff, Bool.not_eq_true', Bool.not_eq_false', decide_eq_true_eq, decide_eq_false_iff_not, Bool.not_true, Bool.not_false] at hc18
    refine l_atg hF ((wanted_of hF rfl rfl rfl rfl).trans (by rw [hb18]; rfl)) rfl rfl (x_faddr Tryd.underlying53 rfl ty2 (by decide) (hF.tmp 1 rfl) rfl) ?_; clear hF; intro a hF
    refine l_atg hF ((wanted_of hF rfl rfl rfl rfl).trans (by rw [hb18]; rfl)) rfl rfl (x_load1 ty2 (hF.tmp 19 rfl) (blk_cell (hH.at 1 rfl) 3 rfl)) ?_; clear hF; intro a hF
    refine l_atg hF ((wanted_of hF rfl rfl rfl rfl).trans (by rw [hb18]; rfl)) rfl rfl (x_eql (hF.tmp 20 rfl) rfl) ?_; clear hF; intro a hF
    refine l_at hF rfl rfl rfl (x_pickT (hF.tmp 18 rfl) hb18 (hF.tmp 21 rfl)) ?_; clear hF; intro a hF
    refine l_at hF rfl rfl rfl (x_assign (hF.tmp 22 rfl)) ?_; clear hF; intro a hF
    refine wpList_nil ?_
    refine hK6 _ _ ?_
    refine wp_ret ?_
    try simp only [Exit.then, Exit.inBlock]
    refine fin_ret hF (res1 (v := .bool (decide (s.2.2.2 = 0))) hF rfl rfl) ⟨?_, hH.mods⟩
    congr 2; unfold rightS; first | (simp [hc9, hc12, hc18]; done) | (simp [hc9, hc12, hc18]; intros; omega)
   ·have hc18 := hb18; try simp only [Bool.or_eq_true, Bool.and_eq_true, Bool.or_eq_false_iff, Bool.and_eq_false_iff, Bool.not_eq_true', Bool.not_eq_false', decide_eq_true_eq, decide_eq_false_iff_not, Bool.not_true, Bool.not_false] at hc18
    refine l_offg hF ((wanted_of hF rfl rfl rfl rfl).trans (by rw [hb18]; rfl)) rfl rfl ?_; clear hF; intro a hF
    refine l_offg hF ((wanted_of hF rfl rfl rfl rfl).trans (by rw [hb18]; rfl)) rfl rfl ?_; clear hF; intro a hF
    refine l_offg hF ((wanted_of hF rfl rfl rfl rfl).trans (by rw [hb18]; rfl)) rfl rfl ?_; clear hF; intro a hF
    refine l_at hF rfl rfl rfl (x_pickF (hF.tmp 18 rfl) hb18 rfl) ?_; clear hF; intro a hF
    refine l_at hF rfl rfl rfl (x_assign (hF.tmp 22 rfl)) ?_; clear hF; intro a hF
    refine wpList_nil ?_
    refine hK6 _ _ ?_
    refine wp_ret ?_
    try simp only [Exit.then, Exit.inBlock]
    refine fin_ret hF (res1 (v := .bool false) hF rfl rfl) ⟨?_, hH.mods⟩
    congr 2; unfold rightS; first | (simp [hc9, hc12, hc18]; done) | (simp [hc9, hc12, hc18]; intros; omega)
  ·have hc12 := hb12; try simp only [Bool.or_eq_true, Bool.and_eq_true, Bool.or_eq_false_iff, Bool.and_eq_false_iff, Bool.not_eq_true', Bool.not_eq_false', decide_eq_true_eq, decide_eq_false_iff_not, Bool.not_true, Bool.not_false] at hc12
   refine l_offg hF ((wanted_of hF rfl rfl rfl rfl).trans (by rw [hb12]; rfl)) rfl rfl ?_; clear hF; intro a hF
   refine l_offg hF ((wanted_of hF rfl rfl rfl rfl).trans (by rw [hb12]; rfl)) rfl rfl ?_; clear hF; intro a hF
   refine l_offg hF ((wanted_of hF rfl rfl rfl rfl).trans (by rw [hb12]; rfl)) rfl rfl ?_; clear hF; intro a hF
   refine l_offg hF ((wanted_of hF rfl rfl rfl rfl).trans (by rw [hb12]; rfl)) rfl rfl ?_; clear hF; intro a hF
   refine l_at hF rfl rfl rfl (x_pickF (hF.tmp 12 rfl) hb12 rfl) ?_; clear hF; intro a hF
   refine l_at hF rfl rfl rfl (x_move (hF.tmp 17 rfl)) ?_; clear hF; intro a hF
   refine l_offg hF ((wanted_of hF rfl rfl rfl rfl).trans rfl) rfl rfl ?_; clear hF; intro a hF
   refine l_offg hF ((wanted_of hF rfl rfl rfl rfl).trans rfl) rfl rfl ?_; clear hF; intro a hF
   refine l_offg hF ((wanted_of hF rfl rfl rfl rfl).trans rfl) rfl rfl ?_; clear hF; intro a hF
   refine l_at hF rfl rfl rfl (x_pickF (hF.tmp 18 rfl) rfl rfl) ?_; clear hF; intro a hF
   refine l_at hF rfl rfl rfl (x_assign (hF.tmp 22 rfl)) ?_; clear hF; intro a hF
   refine wpList_nil ?_
   refine hK6 _ _ ?_
   refine wp_ret ?_
   try simp only [Exit.then, Exit.inBlock]
   refine fin_ret hF (res1 (v := .bool false) hF rfl rfl) ⟨?_, hH.mods⟩
   congr 2; unfold rightS; first | (simp [hc9, hc12]; done) | (simp [hc9, hc12]; intros; omega)
 ·have hk9_2 := hc9; try simp only [Bool.or_eq_true, Bool.and_eq_true, Bool.or_eq_false_iff, Bool.and_eq_false_iff, Bool.not_eq_true', Bool.not_eq_false', decide_eq_true_eq, decide_eq_false_iff_not, Bool.not_true, Bool.not_false] at hc9
  refine wp_seq_k fun khK7 hK7 => ?_
  refine wp_seq_k fun khK8 hK8 => ?_
  refine wp_region_lit ?_
  refine l_at hF rfl rfl rfl (x_eql (hF.tmp 8 rfl) rfl) ?_; clear hF; intro a hF
  refine l_at hF rfl rfl rfl (x_assign (hF.tmp 24 rfl)) ?_; clear hF; intro a hF
  refine wpList_nil ?_
  refine hK8 _ _ ?_
  refine wp_cond_split (hF.tmp 23 rfl) (fun hc23 => ?_) (fun hc23 => ?_)
  ·have hk23_3 := hc23; try simp only [Bool.or_eq_true, Bool.and_eq_true, Bool.or_eq_false_iff, Bool.and_eq_false_iff, Bool.not_eq_true', Bool.not_eq_false', decide_eq_true_eq, decide_eq_false_iff_not, Bool.not_true, Bool.not_false] at hc23
   refine wp_skip ?_
   refine hK7 _ _ ?_
   refine wp_cond_true ((hF.tmp 23 rfl).trans (by rw [hk23_3])) ?_
   refine wp_seq_k fun khK9 hK9 => ?_
   refine wp_region_lit ?_
   refine l_at hF rfl rfl rfl (x_move (hF.tmp 3 rfl)) ?_; clear hF; intro a hF
   refine l_at hF rfl rfl rfl (x_move (hF.tmp 26 rfl)) ?_; clear hF; intro a hF
   refine split_bool hF 27 rfl (fun hb27 => ?_) (fun hb27 => ?_)
   ·have hc27 := hb27; try simp only [Bool.or_eq_true, Bool.and_eq_true, Bool.or_eq_false_iff, Bool.and_eq_false_iff, Bool.not_eq_true', Bool.not_eq_false', decide_eq_true_eq, decide_eq_false_iff_not, Bool.not_true, Bool.not_false] at hc27
    refine l_atg hF ((wanted_of hF rfl rfl rfl rfl).trans (by rw [hb27]; rfl)) rfl rfl (x_faddr Tryd.underlying53 rfl ty9 (by decide) (hF.tmp 1 rfl) rfl) ?_; clear hF; intro a hF
    refine l_atg hF ((wanted_of hF rfl rfl rfl rfl).trans (by rw [hb27]; rfl)) rfl rfl (x_load1 ty9 (hF.tmp 28 rfl) (blk_cell (hH.at 1 rfl) 2 rfl)) ?_; clear hF; intro a hF
    refine l_atg hF ((wanted_of hF rfl rfl rfl rfl).trans (by rw [hb27]; rfl)) rfl rfl (x_eqn0 (xs := s.2.2.1) (hF.tmp 29 rfl) (show _ = Value.string (strOfNums ([] : List Int)) by kernel_rfl)) ?_; clear hF; intro a hF
    refine l_at hF rfl rfl rfl (x_pickT (hF.tmp 27 rfl) hb27 (hF.tmp 30 rfl)) ?_; clear hF; intro a hF
    refine l_at hF rfl rfl rfl (x_move (hF.tmp 31 rfl)) ?_; clear hF; intro a hF
    refine split_bool hF 32 rfl (fun hb32 => ?_) (fun hb32 => ?_)
    ·have hc32 := hb32; try simp only [Bool.or_eq_true, Bool.and_eq_true, Bool.or_eq_false_iff, Bool.and_eq_false_iff, Bool.not_eq_true', Bool.not_eq_false', decide_eq_true_eq, decide_eq_false_iff_not, Bool.not_true, Bool.not_false] at hc32
     refine l_atg hF ((wanted_of hF rfl rfl rfl rfl).trans (by rw [hb32]; rfl)) rfl rfl (x_faddr Tryd.underlying53 rfl ty2 (by decide) (hF.tmp 1 rfl) rfl) ?_; clear hF; intro a hF
     refine l_atg hF ((wanted_of hF rfl rfl rfl rfl).trans (by rw [hb32]; rfl)) rfl rfl (x_load1 ty2 (hF.tmp 33 rfl) (blk_cell (hH.at 1 rfl) 3 rfl)) ?_; clear hF; intro a hF
     refine l_atg hF ((wanted_of hF rfl rfl rfl rfl).trans (by rw [hb32]; rfl)) rfl rfl (x_eql (hF.tmp 34 rfl) rfl) ?_; clear hF; intro a hF
     refine l_at hF rfl rfl rfl (x_pickT (hF.tmp 32 rfl) hb32 (hF.tmp 35 rfl)) ?_; clear hF; intro a hF
     refine l_at hF rfl rfl rfl (x_assign (hF.tmp 36 rfl)) ?_; clear hF; intro a hF
     refine wpList_nil ?_
     refine hK9 _ _ ?_
     refine wp_ret ?_
     try simp only [Exit.then, Exit.inBlock]
     refine fin_ret hF (res1 (v := .bool (decide (s.2.2.2 = 0))) hF rfl rfl) ⟨?_, hH.mods⟩
     congr 2; unfold rightS; first | (simp [hc9, hc23, hc27, hc32]; done) | (simp [hc9, hc23, hc27, hc32]; intros; omega)
    ·have hc32 := hb32; try simp only [Bool.or_eq_true, Bool.and_eq_true, Bool.or_eq_false_iff, Bool.and_eq_false_iff, Bool.not_eq_true', Bool.not_eq_false', decide_eq_true_eq, decide_eq_false_iff_not, Bool.not_true, Bool.not_false] at hc32
     refine l_offg hF ((wanted_of hF rfl rfl rfl rfl).trans (by rw [hb32]; rfl)) rfl rfl ?_; clear hF; intro a hF
     refine l_offg hF ((wanted_of hF rfl rfl rfl rfl).trans (by rw [hb32]; rfl)) rfl rfl ?_; clear hF; intro a hF
     refine l_offg hF ((wanted_of hF rfl rfl rfl rfl).trans (by rw [hb32]; rfl)) rfl rfl ?_; clear hF; intro a hF
     refine l_at hF rfl rfl rfl (x_pickF (hF.tmp 32 rfl) hb32 rfl) ?_; clear hF; intro a hF
     refine l_at hF rfl rfl rfl (x_assign (hF.tmp 36 rfl)) ?_; clear hF; intro a hF
     refine wpList_nil ?_
     refine hK9 _ _ ?_
     refine wp_ret ?_
     try simp only [Exit.then, Exit.inBlock]
     refine fin_ret hF (res1 (v := .bool false) hF rfl rfl) ⟨?_, hH.mods⟩
     congr 2; unfold rightS; first | (simp [hc9, hc23, hc27, hc32]; done) | (simp [hc9, hc23, hc27, hc32]; intros; omega)
   ·have hc27 := hb27; try simp only [Bool.or_eq_true, Bool.and_eq_true, Bool.or_eq_false_iff, Bool.and_eq_false_iff, Bool.not_eq_true', Bool.not_eq_false', decide_eq_true_eq, decide_eq_false_iff_not, Bool.not_true, Bool.not_false] at hc27
    refine l_offg hF ((wanted_of hF rfl rfl rfl rfl).trans (by rw [hb27]; rfl)) rfl rfl ?_; clear hF; intro a hF
    refine l_offg hF ((wanted_of hF rfl rfl rfl rfl).trans (by rw [hb27]; rfl)) rfl rfl ?_; clear hF; intro a hF
    refine l_offg hF ((wanted_of hF rfl rfl rfl rfl).trans (by rw [hb27]; rfl)) rfl rfl ?_; clear hF; intro a hF
    refine l_at hF rfl rfl rfl (x_pickF (hF.tmp 27 rfl) hb27 rfl) ?_; clear hF; intro a hF
    refine l_at hF rfl rfl rfl (x_move (hF.tmp 31 rfl)) ?_; clear hF; intro a hF
    refine l_offg hF ((wanted_of hF rfl rfl rfl rfl).trans rfl) rfl rfl ?_; clear hF; intro a hF
    refine l_offg hF ((wanted_of hF rfl rfl rfl rfl).trans rfl) rfl rfl ?_; clear hF; intro a hF
    refine l_offg hF ((wanted_of hF rfl rfl rfl rfl).trans rfl) rfl rfl ?_; clear hF; intro a hF
    refine l_at hF rfl rfl rfl (x_pickF (hF.tmp 32 rfl) rfl rfl) ?_; clear hF; intro a hF
    refine l_at hF rfl rfl rfl (x_assign (hF.tmp 36 rfl)) ?_; clear hF; intro a hF
    refine wpList_nil ?_
    refine hK9 _ _ ?_
    refine wp_ret ?_
    try simp only [Exit.then, Exit.inBlock]
    refine fin_ret hF (res1 (v := .bool false) hF rfl rfl) ⟨?_, hH.mods⟩
    congr 2; unfold rightS; first | (simp [hc9, hc23, hc27]; done) | (simp [hc9, hc23, hc27]; intros; omega)
  ·have hk23_4 := hc23; try simp only [Bool.or_eq_true, Bool.and_eq_true, Bool.or_eq_false_iff, Bool.and_eq_false_iff, Bool.not_eq_true', Bool.not_eq_false', decide_eq_true_eq, decide_eq_false_iff_not, Bool.not_true, Bool.not_false] at hc23
   refine wp_region_lit ?_
   refine l_at hF rfl rfl rfl (x_eql (hF.tmp 8 rfl) rfl) ?_; clear hF; intro a hF
   refine l_at hF rfl rfl rfl (x_assign (hF.tmp 25 rfl)) ?_; clear hF; intro a hF
   refine wpList_nil ?_
   refine hK7 _ _ ?_
   refine wp_cond_split (hF.tmp 23 rfl) (fun hc23 => ?_) (fun hc23 => ?_)
   ·have hk23_5 := hc23; try simp only [Bool.or_eq_true, Bool.and_eq_true, Bool.or_eq_false_iff, Bool.and_eq_false_iff, Bool.not_eq_true', Bool.not_eq_false', decide_eq_true_eq, decide_eq_false_iff_not, Bool.not_true, Bool.not_false] at hc23
    refine wp_seq_k fun khK10 hK10 => ?_
    refine wp_region_lit ?_
    refine l_at hF rfl rfl rfl (x_move (hF.tmp 3 rfl)) ?_; clear hF; intro a hF
    refine l_at hF rfl rfl rfl (x_move (hF.tmp 26 rfl)) ?_; clear hF; intro a hF
    refine split_bool hF 27 rfl (fun hb27 => ?_) (fun hb27 => ?_)
    ·have hc27 := hb27; try simp only [Bool.or_eq_true, Bool.and_eq_true, Bool.or_eq_false_iff, Bool.and_eq_false_iff, Bool.not_eq_true', Bool.not_eq_false', decide_eq_true_eq, decide_eq_false_iff_not, Bool.not_true, Bool.not_false] at hc27
     refine l_atg hF ((wanted_of hF rfl rfl rfl rfl).trans (by rw [hb27]; rfl)) rfl rfl (x_faddr Tryd.underlying53 rfl ty9 (by decide) (hF.tmp 1 rfl) rfl) ?_; clear hF; intro a hF
     refine l_atg hF ((wanted_of hF rfl rfl rfl rfl).trans (by rw [hb27]; rfl)) rfl rfl (x_load1 ty9 (hF.tmp 28 rfl) (blk_cell (hH.at 1 rfl) 2 rfl)) ?_; clear hF; intro a hF
     refine l_atg hF ((wanted_of hF rfl rfl rfl rfl).trans (by rw [hb27]; rfl)) rfl rfl (x_eqn0 (xs := s.2.2.1) (hF.tmp 29 rfl) (show _ = Value.string (strOfNums ([] : List Int)) by kernel_rfl)) ?_; clear hF; intro a hF
     refine l_at hF rfl rfl rfl (x_pickT (hF.tmp 27 rfl) hb27 (hF.tmp 30 rfl)) ?_; clear hF; intro a hF
     refine l_at hF rfl rfl rfl (x_move (hF.tmp 31 rfl)) ?_; clear hF; intro a hF
     refine split_bool hF 32 rfl (fun hb32 => ?_) (fun hb32 => ?_)
     ·have hc32 := hb32; try simp only [Bool.or_eq_true, Bool.and_eq_true, Bool.or_eq_false_iff, Bool.and_eq_false_iff, Bool.not_eq_true', Bool.not_eq_false', decide_eq_true_eq, decide_eq_false_iff_not, Bool.not_true, Bool.not_false] at hc32
      refine l_atg hF ((wanted_of hF rfl rfl rfl rfl).trans (by rw [hb32]; rfl)) rfl rfl (x_faddr Tryd.underlying53 rfl ty2 (by decide) (hF.tmp 1 rfl) rfl) ?_; clear hF; intro a hF
      refine l_atg hF ((wanted_of hF rfl rfl rfl rfl).trans (by rw [hb32]; rfl)) rfl rfl (x_load1 ty2 (hF.tmp 33 rfl) (blk_cell (hH.at 1 rfl) 3 rfl)) ?_; clear hF; intro a hF
      refine l_atg hF ((wanted_of hF rfl rfl rfl rfl).trans (by rw [hb32]; rfl)) rfl rfl (x_eql (hF.tmp 34 rfl) rfl) ?_; clear hF; intro a hF
      refine l_at hF rfl rfl rfl (x_pickT (hF.tmp 32 rfl) hb32 (hF.tmp 35 rfl)) ?_; clear hF; intro a hF
      refine l_at hF rfl rfl rfl (x_assign (hF.tmp 36 rfl)) ?_; clear hF; intro a hF
      refine wpList_nil ?_
      refine hK10 _ _ ?_
      refine wp_ret ?_
      try simp only [Exit.then, Exit.inBlock]
      refine fin_ret hF (res1 (v := .bool (decide (s.2.2.2 = 0))) hF rfl rfl) ⟨?_, hH.mods⟩
      congr 2; unfold rightS; first | (simp [hc9, hc23, hc23, hc27, hc32]; done) | (simp [hc9, hc23, hc23, hc27, hc32]; intros; omega)
     ·have hc32 := hb32; try simp only [Bool.or_eq_true, Bool.and_eq_true, Bool.or_eq_false_iff, Bool.and_eq_false_iff, Bool.not_eq_true', Bool.not_eq_false', decide_eq_true_eq, decide_eq_false_iff_not, Bool.not_true, Bool.not_false] at hc32
      refine l_offg hF ((wanted_of hF rfl rfl rfl rfl).trans (by rw [hb32]; rfl)) rfl rfl ?_; clear hF; intro a hF
      refine l_offg hF ((wanted_of hF rfl rfl rfl rfl).trans (by rw [hb32]; rfl)) rfl rfl ?_; clear hF; intro a hF
      refine l_offg hF ((wanted_of hF rfl rfl rfl rfl).trans (by rw [hb32]; rfl)) rfl rfl ?_; clear hF; intro a hF
      refine l_at hF rfl rfl rfl (x_pickF (hF.tmp 32 rfl) hb32 rfl) ?_; clear hF; intro a hF
      refine l_at hF rfl rfl rfl (x_assign (hF.tmp 36 rfl)) ?_; clear hF; intro a hF
      refine wpList_nil ?_
      refine hK10 _ _ ?_
      refine wp_ret ?_
      try simp only [Exit.then, Exit.inBlock]
      refine fin_ret hF (res1 (v := .bool false) hF rfl rfl) ⟨?_, hH.mods⟩
      congr 2; unfold rightS; first | (simp [hc9, hc23, hc23, hc27, hc32]; done) | (simp [hc9, hc23, hc23, hc27, hc32]; intros; omega)
    ·have hc27 := hb27; try simp only [Bool.or_eq_true, Bool.and_eq_true, Bool.or_eq_false_iff, Bool.and_eq_false_iff, Bool.not_eq_true', Bool.not_eq_false', decide_eq_true_eq, decide_eq_false_iff_not, Bool.not_true, Bool.not_false] at hc27
     refine l_offg hF ((wanted_of hF rfl rfl rfl rfl).trans (by rw [hb27]; rfl)) rfl rfl ?_; clear hF; intro a hF
     refine l_offg hF ((wanted_of hF rfl rfl rfl rfl).trans (by rw [hb27]; rfl)) rfl rfl ?_; clear hF; intro a hF
     refine l_offg hF ((wanted_of hF rfl rfl rfl rfl).trans (by rw [hb27]; rfl)) rfl rfl ?_; clear hF; intro a hF
     refine l_at hF rfl rfl rfl (x_pickF (hF.tmp 27 rfl) hb27 rfl) ?_; clear hF; intro a hF
     refine l_at hF rfl rfl rfl (x_move (hF.tmp 31 rfl)) ?_; clear hF; intro a hF
     refine l_offg hF ((wanted_of hF rfl rfl rfl rfl).trans rfl) rfl rfl ?_; clear hF; intro a hF
     refine l_offg hF ((wanted_of hF rfl rfl rfl rfl).trans rfl) rfl rfl ?_; clear hF; intro a hF
     refine l_offg hF ((wanted_of hF rfl rfl rfl rfl).trans rfl) rfl rfl ?_; clear hF; intro a hF
     refine l_at hF rfl rfl rfl (x_pickF (hF.tmp 32 rfl) rfl rfl) ?_; clear hF; intro a hF
     refine l_at hF rfl rfl rfl (x_assign (hF.tmp 36 rfl)) ?_; clear hF; intro a hF
     refine wpList_nil ?_
     refine hK10 _ _ ?_
     refine wp_ret ?_
     try simp only [Exit.then, Exit.inBlock]
     refine fin_ret hF (res1 (v := .bool false) hF rfl rfl) ⟨?_, hH.mods⟩
     congr 2; unfold rightS; first | (simp [hc9, hc23, hc23, hc27]; done) | (simp [hc9, hc23, hc23, hc27]; intros; omega)
   ·have hk23_6 := hc23; try simp only [Bool.or_eq_true, Bool.and_eq_true, Bool.or_eq_false_iff, Bool.and_eq_false_iff, Bool.not_eq_true', Bool.not_eq_false', decide_eq_true_eq, decide_eq_false_iff_not, Bool.not_true, Bool.not_false] at hc23
    refine wp_seq_k fun khK11 hK11 => ?_
    refine wp_region_lit ?_
    refine l_at hF rfl rfl rfl (x_eql (hF.tmp 8 rfl) rfl) ?_; clear hF; intro a hF
    refine l_at hF rfl rfl rfl (x_assign (hF.tmp 38 rfl)) ?_; clear hF; intro a hF
    refine wpList_nil ?_
    refine hK11 _ _ ?_
    refine wp_cond_split (hF.tmp 37 rfl) (fun hc37 => ?_) (fun hc37 => ?_)
    ·have hk37_7 := hc37; try simp only [Bool.or_eq_true, Bool.and_eq_true, Bool.or_eq_false_iff, Bool.and_eq_false_iff, Bool.not_eq_true', Bool.not_eq_false', decide_eq_true_eq, decide_eq_false_iff_not, Bool.not_true, Bool.not_false] at hc37
     refine wp_seq_k fun khK12 hK12 => ?_
     refine wp_region_lit ?_
     refine l_at hF rfl rfl rfl (x_move (hF.tmp 3 rfl)) ?_; clear hF; intro a hF
     refine l_at hF rfl rfl rfl (x_move (hF.tmp 39 rfl)) ?_; clear hF; intro a hF
     refine split_bool hF 40 rfl (fun hb40 => ?_) (fun hb40 => ?_)
     ·have hc40 := hb40; try simp only [Bool.or_eq_true, Bool.and_eq_true, Bool.or_eq_false_iff, Bool.and_eq_false_iff, Bool.not_eq_true', Bool.not_eq_false', decide_eq_true_eq, decide_eq_false_iff_not, Bool.not_true, Bool.not_false] at hc40
      refine l_atg hF ((wanted_of hF rfl rfl rfl rfl).trans (by rw [hb40]; rfl)) rfl rfl (x_faddr Tryd.underlying53 rfl ty9 (by decide) (hF.tmp 1 rfl) rfl) ?_; clear hF; intro a hF
      refine l_atg hF ((wanted_of hF rfl rfl rfl rfl).trans (by rw [hb40]; rfl)) rfl rfl (x_load1 ty9 (hF.tmp 41 rfl) (blk_cell (hH.at 1 rfl) 2 rfl)) ?_; clear hF; intro a hF
      refine l_atg hF ((wanted_of hF rfl rfl rfl rfl).trans (by rw [hb40]; rfl)) rfl rfl (x_eqn0 (xs := s.2.2.1) (hF.tmp 42 rfl) (show _ = Value.string (strOfNums ([] : List Int)) by kernel_rfl)) ?_; clear hF; intro a hF
      refine l_at hF rfl rfl rfl (x_pickT (hF.tmp 40 rfl) hb40 (hF.tmp 43 rfl)) ?_; clear hF; intro a hF
      refine l_at hF rfl rfl rfl (x_assign (hF.tmp 44 rfl)) ?_; clear hF; intro a hF
      refine wpList_nil ?_
      refine hK12 _ _ ?_
      refine wp_ret ?_
      try simp only [Exit.then, Exit.inBlock]
      refine fin_ret hF (res1 (v := .bool (decide (s.2.2.1.length = 0))) hF rfl rfl) ⟨?_, hH.mods⟩
      congr 2; unfold rightS; first | (simp [hc9, hc23, hc23, hc37, hc40]; done) | (simp [hc9, hc23, hc23, hc37, hc40]; intros; omega)
     ·have hc40 := hb40; try simp only [Bool.or_eq_true, Bool.and_eq_true, Bool.or_eq_false_iff, Bool.and_eq_false_iff, Bool.not_eq_true', Bool.not_eq_false', decide_eq_true_eq, decide_eq_false_iff_not, Bool.not_true, Bool.not_false] at hc40
      refine l_offg hF ((wanted_of hF rfl rfl rfl rfl).trans (by rw [hb40]; rfl)) rfl rfl ?_; clear hF; intro a hF
      refine l_offg hF ((wanted_of hF rfl rfl rfl rfl).trans (by rw [hb40]; rfl)) rfl rfl ?_; clear hF; intro a hF
      refine l_offg hF ((wanted_of hF rfl rfl rfl rfl).trans (by rw [hb40]; rfl)) rfl rfl ?_; clear hF; intro a hF
      refine l_at hF rfl rfl rfl (x_pickF (hF.tmp 40 rfl) hb40 rfl) ?_; clear hF; intro a hF
      refine l_at hF rfl rfl rfl (x_assign (hF.tmp 44 rfl)) ?_; clear hF; intro a hF
      refine wpList_nil ?_
      refine hK12 _ _ ?_
      refine wp_ret ?_
      try simp only [Exit.then, Exit.inBlock]
      refine fin_ret hF (res1 (v := .bool false) hF rfl rfl) ⟨?_, hH.mods⟩
      congr 2; unfold rightS; first | (simp [hc9, hc23, hc23, hc37, hc40]; done) | (simp [hc9, hc23, hc23, hc37, hc40]; intros; omega)
    ·have hk37_8 := hc37; try simp only [Bool.or_eq_true, Bool.and_eq_true, Bool.or_eq_false_iff, Bool.and_eq_false_iff, Bool.not_eq_true', Bool.not_eq_false', decide_eq_true_eq, decide_eq_false_iff_not, Bool.not_true, Bool.not_false] at hc37
     refine wp_skip ?_
     refine hK3 _ _ ?_
     refine wp_seq_k fun khK13 hK13 => ?_
     refine wp_region_lit ?_
     refine l_at hF rfl rfl rfl (x_assign rfl) ?_; clear hF; intro a hF
     refine wpList_nil ?_
     refine hK13 _ _ ?_
     refine wp_ret ?_
     try simp only [Exit.then, Exit.inBlock]
     refine fin_ret hF (res1 (v := .bool false) hF rfl rfl) ⟨?_, hH.mods⟩
     congr 2; unfold rightS; first | (simp [hc9, hc23, hc23, hc37]; done) | (simp [hc9, hc23, hc23, hc37]; intros; omega)
set_option maxRecDepth 100000 in
set_option maxHeartbeats 1000000 in
theorem text_calls (w0 : World) {n : Int} (hn : Fits n) : Calls Tryd.prog 128 #[.int .i64 n] w0 fun e w' => e = .returned (.string (strOfNums (itoaI n))) ∧ Mods (fun _ => False) w0 w' := by
 refine calls_of_wp Tryd.func128 rfl ?_
 have hF := Fr.enter #[.int .i64 n] 32 (slotsOf [.int .i64 n] 0) (Nat.le_of_ble_eq_true rfl) (fun i v h => by have h2 := (get_slotsOf _ 0 i v h).2; simpa only [List.getElem?_toArray, Nat.sub_zero] using h2)
 have hH := Hp.nil (fun _ => False) w0
 rw [Tryd.ntmps128]
 revert hF; generalize (⟨(#[.int .i64 n] : Array Value) ++ Array.replicate (32 - (#[.int .i64 n] : Array Value).size) undef, []⟩ : Act) = a; intro hF
 refine wp_seq_k fun khK1 hK1 => ?_
 refine wp_region_lit ?_
 refine l_at hF rfl rfl rfl (x_assign (show _ = Value.string (strOfNums ([] : List Int)) by kernel_rfl)) ?_; clear hF; intro a hF
 refine wpList_nil ?_
 refine hK1 _ _ ?_
 refine wp_seq_k fun khK2 hK2 => ?_
 refine wp_region_lit ?_
 refine l_at hF rfl rfl rfl (x_assign (show _ = Value.string (strOfNums ([] : List Int)) by kernel_rfl)) ?_; clear hF; intro a hF
 refine wpList_nil ?_
 refine hK2 _ _ ?_
 refine wp_seq_k fun khK3 hK3 => ?_
 refine wp_region_lit ?_
 refine l_at hF rfl rfl rfl (x_move (hF.tmp 0 rfl)) ?_; clear hF; intro a hF
 refine l_at hF rfl rfl rfl (x_assign (hF.tmp 6 rfl)) ?_; clear hF; intro a hF
 refine wpList_nil ?_
 refine hK3 _ _ ?_
 refine wp_seq_k fun khK4 hK4 => ?_
 refine wp_block ?_
 refine wp_loop_ghost (fun n_ a w => ∃ m : Int, ∃ s : List Int, n_ = m.natAbs + (if s = [] then 1 else 0) ∧ (TextInv n m s) ∧ Fr 32 a [(0, .int .i64 n), (3, .string (strOfNums s)), (4, .int .i64 m)] ∧ Hp (fun _ => False) w0 w []) (n.natAbs + (if ([] : List Int) = [] then 1 else 0)) ?_ ?_
 ·exact ⟨n, [], rfl, TextInv.start hn, (((hF.bare.add hF 4 rfl).add hF 3 rfl).add hF 0 rfl), hH.sub _ (sub_nil _)⟩
 ·rintro _ a w ⟨m, s, rfl, hq0_0, hF, hH⟩
  refine wp_seq_k fun khK5 hK5 => ?_
  refine wp_seq_k fun khK6 hK6 => ?_
  refine wp_region_lit ?_
  refine l_at hF rfl rfl rfl (x_move (hF.tmp 4 rfl)) ?_; clear hF; intro a hF
  refine l_at hF rfl rfl rfl (x_neq (hF.tmp 7 rfl) rfl) ?_; clear hF; intro a hF
  refine l_at hF rfl rfl rfl (x_move (hF.tmp 8 rfl)) ?_; clear hF; intro a hF
  refine split_bool hF 9 rfl (fun hb9 => ?_) (fun hb9 => ?_)
  ·have hc9 := hb9; try simp only [Bool.or_eq_true, Bool.and_eq_true, Bool.or_eq_false_iff, Bool.and_eq_false_iff, Bool.not_eq_true', Bool.not_eq_false', decide_eq_true_eq, decide_eq_false_iff_not, Bool.not_true, Bool.not_false] at hc9
   have hcc : ¬ m = 0 ∨ s = [] := .inl hc9
   refine l_offg hF ((wanted_of hF rfl rfl rfl rfl).trans (by rw [hb9]; rfl)) rfl rfl ?_; clear hF; intro a hF
   refine l_offg hF ((wanted_of hF rfl rfl rfl rfl).trans (by rw [hb9]; rfl)) rfl rfl ?_; clear hF; intro a hF
   refine l_at hF rfl rfl rfl (x_pickT (hF.tmp 9 rfl) hb9 rfl) ?_; clear hF; intro a hF
   refine wpList_nil ?_
   refine hK6 _ _ ?_
   refine wp_cond_true (hF.tmp 12 rfl) ?_
   refine wp_skip ?_
   refine hK5 _ _ ?_
   refine wp_block ?_
   refine wp_seq_k fun khK7 hK7 => ?_
   refine wp_region_lit ?_
   refine l_at hF rfl rfl rfl (x_move (hF.tmp 4 rfl)) ?_; clear hF; intro a hF
   refine l_at hF rfl rfl rfl (x_rem (hF.tmp 13 rfl) rfl (by omega) rfl) ?_; clear hF; intro a hF
   have htm := tmod10 m
   refine l_at hF rfl rfl rfl (x_assign (hF.tmp 14 rfl)) ?_; clear hF; intro a hF
   refine wpList_nil ?_
   refine hK7 _ _ ?_
   refine wp_seq_k fun khK8 hK8 => ?_
   refine wp_seq_k fun khK9 hK9 => ?_
   refine wp_region_lit ?_
   refine l_at hF rfl rfl rfl (x_move (hF.tmp 5 rfl)) ?_; clear hF; intro a hF
   refine l_at hF rfl rfl rfl (x_lss (hF.tmp 15 rfl) rfl) ?_; clear hF; intro a hF
   refine wpList_nil ?_
   refine hK9 _ _ ?_
   refine wp_cond_split (hF.tmp 16 rfl) (fun hc16 => ?_) (fun hc16 => ?_)
   ·have hk16_1 := hc16; try simp only [Bool.or_eq_true, Bool.and_eq_true, Bool.or_eq_false_iff, Bool.and_eq_false_iff, Bool.not_eq_true', Bool.not_eq_false', decide_eq_true_eq, decide_eq_false_iff_not, Bool.not_true, Bool.not_false] at hc16
    have hst := hq0_0.step hn hcc (k := 0 - Int.tmod m 10) (by omega) (by omega)
    refine wp_region_lit ?_
    refine l_at hF rfl rfl rfl (x_move (hF.tmp 5 rfl)) ?_; clear hF; intro a hF
    refine l_at hF rfl rfl rfl (x_neg (hF.tmp 17 rfl) (w64 (by omega) (by omega))) ?_; clear hF; intro a hF
    refine l_at hF rfl rfl rfl (x_assign (hF.tmp 18 rfl)) ?_; clear hF; intro a hF
    refine wpList_nil ?_
    refine hK8 _ _ ?_
    refine wp_seq_k fun khK10 hK10 => ?_
    refine wp_region_lit ?_
    refine l_at hF rfl rfl rfl (x_move (hF.tmp 5 rfl)) ?_; clear hF; intro a hF
    refine l_at hF rfl rfl rfl (x_move (hF.tmp 5 rfl)) ?_; clear hF; intro a hF
    refine l_at hF rfl rfl rfl (x_add (hF.tmp 20 rfl) rfl (w64 (by omega) (by omega))) ?_; clear hF; intro a hF
    refine l_at hF rfl rfl rfl (x_sliceSlh (xs := ([48, 49, 50, 51, 52, 53, 54, 55, 56, 57] : List Int)) Tryd.underlying9 (show _ = Value.string (strOfNums ([48, 49, 50, 51, 52, 53, 54, 55, 56, 57] : List Int)) by kernel_rfl) (hF.tmp 19 rfl) (hF.tmp 21 rfl) (by omega) (by omega) (by show _ ≤ (10 : Int); omega)) ?_; clear hF; intro a hF
    have hdg := digit_at (k := (0 - Int.tmod m 10)) (by omega) (by omega)
    rw [hdg] at hF
    refine l_at hF rfl rfl rfl (x_move (hF.tmp 3 rfl)) ?_; clear hF; intro a hF
    refine l_at hF rfl rfl rfl (x_adds (xs := ([48 + (0 - Int.tmod m 10)])) (ys := s) (hF.tmp 22 rfl) (hF.tmp 23 rfl) (by simp only [List.length_cons, List.length_nil]; have := hq0_0.len hn; omega)) ?_; clear hF; intro a hF
    refine l_at hF rfl rfl rfl (x_assign (hF.tmp 24 rfl)) ?_; clear hF; intro a hF
    refine wpList_nil ?_
    refine hK10 _ _ ?_
    refine wp_region_lit ?_
    refine l_at hF rfl rfl rfl (x_move (hF.tmp 4 rfl)) ?_; clear hF; intro a hF
    refine l_at hF rfl rfl rfl (x_quo (hF.tmp 25 rfl) rfl (by omega) (quo10 hq0_0.fits)) ?_; clear hF; intro a hF
    refine l_at hF rfl rfl rfl (x_assign (hF.tmp 26 rfl)) ?_; clear hF; intro a hF
    refine wpList_nil ?_
    exact ⟨_, hst.2, ⟨Int.tdiv m 10, ([48 + (0 - Int.tmod m 10)] ++ s), rfl, hst.1, (((hF.bare.add hF 4 rfl).add hF 3 rfl).add hF 0 rfl), hH.sub _ (sub_nil _)⟩⟩
   ·have hk16_2 := hc16; try simp only [Bool.or_eq_true, Bool.and_eq_true, Bool.or_eq_false_iff, Bool.and_eq_false_iff, Bool.not_eq_true', Bool.not_eq_false', decide_eq_true_eq, decide_eq_false_iff_not, Bool.not_true, Bool.not_false] at hc16
    have hst := hq0_0.step hn hcc (k := Int.tmod m 10) rfl (by omega)
    refine wp_skip ?_
    refine hK8 _ _ ?_
    refine wp_seq_k fun khK11 hK11 => ?_
    refine wp_region_lit ?_
    refine l_at hF rfl rfl rfl (x_move (hF.tmp 5 rfl)) ?_; clear hF; intro a hF
    refine l_at hF rfl rfl rfl (x_move (hF.tmp 5 rfl)) ?_; clear hF; intro a hF
    refine l_at hF rfl rfl rfl (x_add (hF.tmp 20 rfl) rfl (w64 (by omega) (by omega))) ?_; clear hF; intro a hF
    refine l_at hF rfl rfl rfl (x_sliceSlh (xs := ([48, 49, 50, 51, 52, 53, 54, 55, 56, 57] : List Int)) Tryd.underlying9 (show _ = Value.string (strOfNums ([48, 49, 50, 51, 52, 53, 54, 55, 56, 57] : List Int)) by kernel_rfl) (hF.tmp 19 rfl) (hF.tmp 21 rfl) (by omega) (by omega) (by show _ ≤ (10 : Int); omega)) ?_; clear hF; intro a hF
    have hdg := digit_at (k := (Int.tmod m 10)) (by omega) (by omega)
    rw [hdg] at hF
    refine l_at hF rfl rfl rfl (x_move (hF.tmp 3 rfl)) ?_; clear hF; intro a hF
    refine l_at hF rfl rfl rfl (x_adds (xs := ([48 + (Int.tmod m 10)])) (ys := s) (hF.tmp 22 rfl) (hF.tmp 23 rfl) (by simp only [List.length_cons, List.length_nil]; have := hq0_0.len hn; omega)) ?_; clear hF; intro a hF
    refine l_at hF rfl rfl rfl (x_assign (hF.tmp 24 rfl)) ?_; clear hF; intro a hF
    refine wpList_nil ?_
    refine hK11 _ _ ?_
    refine wp_region_lit ?_
    refine l_at hF rfl rfl rfl (x_move (hF.tmp 4 rfl)) ?_; clear hF; intro a hF
    refine l_at hF rfl rfl rfl (x_quo (hF.tmp 25 rfl) rfl (by omega) (quo10 hq0_0.fits)) ?_; clear hF; intro a hF
    refine l_at hF rfl rfl rfl (x_assign (hF.tmp 26 rfl)) ?_; clear hF; intro a hF
    refine wpList_nil ?_
    exact ⟨_, hst.2, ⟨Int.tdiv m 10, ([48 + (Int.tmod m 10)] ++ s), rfl, hst.1, (((hF.bare.add hF 4 rfl).add hF 3 rfl).add hF 0 rfl), hH.sub _ (sub_nil _)⟩⟩
  ·have hc9 := hb9; try simp only [Bool.or_eq_true, Bool.and_eq_true, Bool.or_eq_false_iff, Bool.and_eq_false_iff, Bool.not_eq_true', Bool.not_eq_false', decide_eq_true_eq, decide_eq_false_iff_not, Bool.not_true, Bool.not_false] at hc9
   have hcm : m = 0 := hc9
   refine l_atg hF ((wanted_of hF rfl rfl rfl rfl).trans (by rw [hb9]; rfl)) rfl rfl (x_move (hF.tmp 3 rfl)) ?_; clear hF; intro a hF
   refine l_atg hF ((wanted_of hF rfl rfl rfl rfl).trans (by rw [hb9]; rfl)) rfl rfl (x_eqn0 (xs := s) (hF.tmp 10 rfl) (show _ = Value.string (strOfNums ([] : List Int)) by kernel_rfl)) ?_; clear hF; intro a hF
   refine l_at hF rfl rfl rfl (x_pickF (hF.tmp 9 rfl) hb9 (hF.tmp 11 rfl)) ?_; clear hF; intro a hF
   refine wpList_nil ?_
   refine hK6 _ _ ?_
   refine wp_cond_split (hF.tmp 12 rfl) (fun hc12 => ?_) (fun hc12 => ?_)
   ·have hk12_3 := hc12; try simp only [Bool.or_eq_true, Bool.and_eq_true, Bool.or_eq_false_iff, Bool.and_eq_false_iff, Bool.not_eq_true', Bool.not_eq_false', decide_eq_true_eq, decide_eq_false_iff_not, Bool.not_true, Bool.not_false] at hc12
    have hcc : ¬ m = 0 ∨ s = [] := .inr (List.eq_nil_of_length_eq_zero hc12)
    refine wp_skip ?_
    refine hK5 _ _ ?_
    refine wp_block ?_
    refine wp_seq_k fun khK12 hK12 => ?_
    refine wp_region_lit ?_
    refine l_at hF rfl rfl rfl (x_move (hF.tmp 4 rfl)) ?_; clear hF; intro a hF
    refine l_at hF rfl rfl rfl (x_rem (hF.tmp 13 rfl) rfl (by omega) rfl) ?_; clear hF; intro a hF
    have htm := tmod10 m
    refine l_at hF rfl rfl rfl (x_assign (hF.tmp 14 rfl)) ?_; clear hF; intro a hF
    refine wpList_nil ?_
    refine hK12 _ _ ?_
    refine wp_seq_k fun khK13 hK13 => ?_
    refine wp_seq_k fun khK14 hK14 => ?_
    refine wp_region_lit ?_
    refine l_at hF rfl rfl rfl (x_move (hF.tmp 5 rfl)) ?_; clear hF; intro a hF
    refine l_at hF rfl rfl rfl (x_lss (hF.tmp 15 rfl) rfl) ?_; clear hF; intro a hF
    refine wpList_nil ?_
    refine hK14 _ _ ?_
    refine wp_cond_split (hF.tmp 16 rfl) (fun hc16 => ?_) (fun hc16 => ?_)
    ·have hk16_4 := hc16; try simp only [Bool.or_eq_true, Bool.and_eq_true, Bool.or_eq_false_iff, Bool.and_eq_false_iff, Bool.not_eq_true', Bool.not_eq_false', decide_eq_true_eq, decide_eq_false_iff_not, Bool.not_true, Bool.not_false] at hc16
     have hst := hq0_0.step hn hcc (k := 0 - Int.tmod m 10) (by omega) (by omega)
     refine wp_region_lit ?_
     refine l_at hF rfl rfl rfl (x_move (hF.tmp 5 rfl)) ?_; clear hF; intro a hF
     refine l_at hF rfl rfl rfl (x_neg (hF.tmp 17 rfl) (w64 (by omega) (by omega))) ?_; clear hF; intro a hF
     refine l_at hF rfl rfl rfl (x_assign (hF.tmp 18 rfl)) ?_; clear hF; intro a hF
     refine wpList_nil ?_
     refine hK13 _ _ ?_
     refine wp_seq_k fun khK15 hK15 => ?_
     refine wp_region_lit ?_
     refine l_at hF rfl rfl rfl (x_move (hF.tmp 5 rfl)) ?_; clear hF; intro a hF
     refine l_at hF rfl rfl rfl (x_move (hF.tmp 5 rfl)) ?_; clear hF; intro a hF
     refine l_at hF rfl rfl rfl (x_add (hF.tmp 20 rfl) rfl (w64 (by omega) (by omega))) ?_; clear hF; intro a hF
     refine l_at hF rfl rfl rfl (x_sliceSlh (xs := ([48, 49, 50, 51, 52, 53, 54, 55, 56, 57] : List Int)) Tryd.underlying9 (show _ = Value.string (strOfNums ([48, 49, 50, 51, 52, 53, 54, 55, 56, 57] : List Int)) by kernel_rfl) (hF.tmp 19 rfl) (hF.tmp 21 rfl) (by omega) (by omega) (by show _ ≤ (10 : Int); omega)) ?_; clear hF; intro a hF
     have hdg := digit_at (k := (0 - Int.tmod m 10)) (by omega) (by omega)
     rw [hdg] at hF
     refine l_at hF rfl rfl rfl (x_move (hF.tmp 3 rfl)) ?_; clear hF; intro a hF
     refine l_at hF rfl rfl rfl (x_adds (xs := ([48 + (0 - Int.tmod m 10)])) (ys := s) (hF.tmp 22 rfl) (hF.tmp 23 rfl) (by simp only [List.length_cons, List.length_nil]; have := hq0_0.len hn; omega)) ?_; clear hF; intro a hF
     refine l_at hF rfl rfl rfl (x_assign (hF.tmp 24 rfl)) ?_; clear hF; intro a hF
     refine wpList_nil ?_
     refine hK15 _ _ ?_
     refine wp_region_lit ?_
     refine l_at hF rfl rfl rfl (x_move (hF.tmp 4 rfl)) ?_; clear hF; intro a hF
     refine l_at hF rfl rfl rfl (x_quo (hF.tmp 25 rfl) rfl (by omega) (quo10 hq0_0.fits)) ?_; clear hF; intro a hF
     refine l_at hF rfl rfl rfl (x_assign (hF.tmp 26 rfl)) ?_; clear hF; intro a hF
     refine wpList_nil ?_
     exact ⟨_, hst.2, ⟨Int.tdiv m 10, ([48 + (0 - Int.tmod m 10)] ++ s), rfl, hst.1, (((hF.bare.add hF 4 rfl).add hF 3 rfl).add hF 0 rfl), hH.sub _ (sub_nil _)⟩⟩
    ·have hk16_5 := hc16; try simp only [Bool.or_eq_true, Bool.and_eq_true, Bool.or_eq_false_iff, Bool.and_eq_false_iff, Bool.not_eq_true', Bool.not_eq_false', decide_eq_true_eq, decide_eq_false_iff_not, Bool.not_true, Bool.not_false] at hc16
     have hst := hq0_0.step hn hcc (k := Int.tmod m 10) rfl (by omega)
     refine wp_skip ?_
     refine hK13 _ _ ?_
     refine wp_seq_k fun khK16 hK16 => ?_
     refine wp_region_lit ?_
     refine l_at hF rfl rfl rfl (x_move (hF.tmp 5 rfl)) ?_; clear hF; intro a hF
     refine l_at hF rfl rfl rfl (x_move (hF.tmp 5 rfl)) ?_; clear hF; intro a hF
     refine l_at hF rfl rfl rfl (x_add (hF.tmp 20 rfl) rfl (w64 (by omega) (by omega))) ?_; clear hF; intro a hF
     refine l_at hF rfl rfl rfl (x_sliceSlh (xs := ([48, 49, 50, 51, 52, 53, 54, 55, 56, 57] : List Int)) Tryd.underlying9 (show _ = Value.string (strOfNums ([48, 49, 50, 51, 52, 53, 54, 55, 56, 57] : List Int)) by kernel_rfl) (hF.tmp 19 rfl) (hF.tmp 21 rfl) (by omega) (by omega) (by show _ ≤ (10 : Int); omega)) ?_; clear hF; intro a hF
     have hdg := digit_at (k := (Int.tmod m 10)) (by omega) (by omega)
     rw [hdg] at hF
     refine l_at hF rfl rfl rfl (x_move (hF.tmp 3 rfl)) ?_; clear hF; intro a hF
     refine l_at hF rfl rfl rfl (x_adds (xs := ([48 + (Int.tmod m 10)])) (ys := s) (hF.tmp 22 rfl) (hF.tmp 23 rfl) (by simp only [List.length_cons, List.length_nil]; have := hq0_0.len hn; omega)) ?_; clear hF; intro a hF
     refine l_at hF rfl rfl rfl (x_assign (hF.tmp 24 rfl)) ?_; clear hF; intro a hF
     refine wpList_nil ?_
     refine hK16 _ _ ?_
     refine wp_region_lit ?_
     refine l_at hF rfl rfl rfl (x_move (hF.tmp 4 rfl)) ?_; clear hF; intro a hF
     refine l_at hF rfl rfl rfl (x_quo (hF.tmp 25 rfl) rfl (by omega) (quo10 hq0_0.fits)) ?_; clear hF; intro a hF
     refine l_at hF rfl rfl rfl (x_assign (hF.tmp 26 rfl)) ?_; clear hF; intro a hF
     refine wpList_nil ?_
     exact ⟨_, hst.2, ⟨Int.tdiv m 10, ([48 + (Int.tmod m 10)] ++ s), rfl, hst.1, (((hF.bare.add hF 4 rfl).add hF 3 rfl).add hF 0 rfl), hH.sub _ (sub_nil _)⟩⟩
   ·have hk12_6 := hc12; try simp only [Bool.or_eq_true, Bool.and_eq_true, Bool.or_eq_false_iff, Bool.and_eq_false_iff, Bool.not_eq_true', Bool.not_eq_false', decide_eq_true_eq, decide_eq_false_iff_not, Bool.not_true, Bool.not_false] at hc12
    have hdone := hq0_0.fin hcm hc12
    refine wp_exit ?_
    refine hK4 _ _ ?_
    refine wp_seq_k fun khK17 hK17 => ?_
    refine wp_seq_k fun khK18 hK18 => ?_
    refine wp_region_lit ?_
    refine l_at hF rfl rfl rfl (x_move (hF.tmp 0 rfl)) ?_; clear hF; intro a hF
    refine l_at hF rfl rfl rfl (x_lss (hF.tmp 27 rfl) rfl) ?_; clear hF; intro a hF
    refine wpList_nil ?_
    refine hK18 _ _ ?_
    refine wp_cond_split (hF.tmp 28 rfl) (fun hc28 => ?_) (fun hc28 => ?_)
    ·have hk28_7 := hc28; try simp only [Bool.or_eq_true, Bool.and_eq_true, Bool.or_eq_false_iff, Bool.and_eq_false_iff, Bool.not_eq_true', Bool.not_eq_false', decide_eq_true_eq, decide_eq_false_iff_not, Bool.not_true, Bool.not_false] at hc28
     have hz := text_neg hc28 hdone
     refine wp_region_lit ?_
     refine l_at hF rfl rfl rfl (x_move (hF.tmp 3 rfl)) ?_; clear hF; intro a hF
     refine l_at hF rfl rfl rfl (x_adds (xs := ([45] : List Int)) (ys := s) (show _ = Value.string (strOfNums ([45] : List Int)) by kernel_rfl) (hF.tmp 29 rfl) (by simp only [List.length_cons, List.length_nil]; have := hq0_0.len hn; omega)) ?_; clear hF; intro a hF
     refine l_at hF rfl rfl rfl (x_assign (hF.tmp 30 rfl)) ?_; clear hF; intro a hF
     refine wpList_nil ?_
     refine hK17 _ _ ?_
     refine wp_seq_k fun khK19 hK19 => ?_
     refine wp_region_lit ?_
     refine l_at hF rfl rfl rfl (x_move (hF.tmp 3 rfl)) ?_; clear hF; intro a hF
     refine l_at hF rfl rfl rfl (x_assign (hF.tmp 31 rfl)) ?_; clear hF; intro a hF
     refine wpList_nil ?_
     refine hK19 _ _ ?_
     refine wp_ret ?_
     try simp only [Exit.then, Exit.inBlock]
     exact fin_ret hF (res1 hF rfl rfl) ⟨by rw [← hz] <;> rfl, hH.mods⟩
    ·have hk28_8 := hc28; try simp only [Bool.or_eq_true, Bool.and_eq_true, Bool.or_eq_false_iff, Bool.and_eq_false_iff, Bool.not_eq_true', Bool.not_eq_false', decide_eq_true_eq, decide_eq_false_iff_not, Bool.not_true, Bool.not_false] at hc28
     have hz := text_pos hc28 hdone
     refine wp_skip ?_
     refine hK17 _ _ ?_
     refine wp_seq_k fun khK20 hK20 => ?_
     refine wp_region_lit ?_
     refine l_at hF rfl rfl rfl (x_move (hF.tmp 3 rfl)) ?_; clear hF; intro a hF
     refine l_at hF rfl rfl rfl (x_assign (hF.tmp 31 rfl)) ?_; clear hF; intro a hF
     refine wpList_nil ?_
     refine hK20 _ _ ?_
     refine wp_ret ?_
     try simp only [Exit.then, Exit.inBlock]
     exact fin_ret hF (res1 hF rfl rfl) ⟨by rw [← hz] <;> rfl, hH.mods⟩
set_option maxRecDepth 100000 in
set_option maxHeartbeats 1000000 in
theorem aenc_calls (w0 : World) {pp : Bool} (hL : LibAt pp w0) {ok : Nat → Prop} {A : Option Addr} {xs : List StepD} {c : Nat} (hr : Rd StE w0 ok A xs c) (hbs : ∀ s ∈ xs, StepB s) : Calls Tryd.prog 47 #[.slice A xs.length c] w0 fun e w' => ∃ v, e = .returned (.tuple #[v, .int .i64 (encE xs)]) ∧ Mods (fun _ => False) w0 w' ∧ RowOut (.int .u8) 5 w0 w' v (encT xs) := by
 refine calls_of_wp Tryd.func47 rfl ?_
 have hF := Fr.enter #[.slice A xs.length c] 49 (slotsOf [.slice A xs.length c] 0) (Nat.le_of_ble_eq_true rfl) (fun i v h => by have h2 := (get_slotsOf _ 0 i v h).2; simpa only [List.getElem?_toArray, Nat.sub_zero] using h2)
 have hH := Hp.nil (fun _ => False) w0
 rw [Tryd.ntmps47]
 revert hF; generalize (⟨(#[.slice A xs.length c] : Array Value) ++ Array.replicate (49 - (#[.slice A xs.length c] : Array Value).size) undef, []⟩ : Act) = a; intro hF
 have hH := hH.arg 901 hr.all (fun _ h => ⟨h, fun h => h⟩)
 have hle901 := hr.le; unfold maxLen at hle901
 have hH := hH.libN 990 hL
 refine wp_seq_k fun khK1 hK1 => ?_
 refine wp_region_lit ?_
 refine l_at hF rfl rfl rfl (x_assign rfl) ?_; clear hF; intro a hF
 refine l_at hF rfl rfl rfl (x_assign rfl) ?_; clear hF; intro a hF
 refine wpList_nil ?_
 refine hK1 _ _ ?_
 refine wp_seq_k fun khK2 hK2 => ?_
 refine wp_seq_k fun khK3 hK3 => ?_
 refine wp_region_lit ?_
 refine l_at hF rfl rfl rfl (x_move (hF.tmp 0 rfl)) ?_; clear hF; intro a hF
 refine l_at hF rfl rfl rfl (x_len_slice Tryd.underlying37 (hF.tmp 8 rfl)) ?_; clear hF; intro a hF
 refine l_at hF rfl rfl rfl (x_gtr (hF.tmp 9 rfl) rfl) ?_; clear hF; intro a hF
 refine wpList_nil ?_
 refine hK3 _ _ ?_
 refine wp_cond_split (hF.tmp 10 rfl) (fun hc10 => ?_) (fun hc10 => ?_)
 ·have hk10_1 := hc10; try simp only [Bool.or_eq_true, Bool.and_eq_true, Bool.or_eq_false_iff, Bool.and_eq_false_iff, Bool.not_eq_true', Bool.not_eq_false', decide_eq_true_eq, decide_eq_false_iff_not, Bool.not_true, Bool.not_false] at hc10
  have hz := enc_many hc10
  refine wp_seq_k fun khK4 hK4 => ?_
  refine wp_region_lit ?_
  refine l_at hF rfl rfl rfl (x_assign rfl) ?_; clear hF; intro a hF
  refine l_at hF rfl rfl rfl (x_assign rfl) ?_; clear hF; intro a hF
  refine wpList_nil ?_
  refine hK4 _ _ ?_
  refine wp_ret ?_
  try simp only [Exit.then, Exit.inBlock]
  have hz2 := encT_0 (xs := xs) (by rw [hz]; decide)
  exact fin_ret hF (res2 hF rfl rfl rfl) ⟨.slice none 0 0, by rw [hz] <;> rfl, hH.mods, by rw [hz2]; exact RowOut.nil _ _ _ _⟩
 ·have hk10_2 := hc10; try simp only [Bool.or_eq_true, Bool.and_eq_true, Bool.or_eq_false_iff, Bool.and_eq_false_iff, Bool.not_eq_true', Bool.not_eq_false', decide_eq_true_eq, decide_eq_false_iff_not, Bool.not_true, Bool.not_false] at hc10
  refine wp_skip ?_
  refine hK2 _ _ ?_
  refine wp_seq_k fun khK5 hK5 => ?_
  refine wp_region_lit ?_
  refine l_at hF rfl rfl rfl (x_assign rfl) ?_; clear hF; intro a hF
  have hH := hH.row0 4 FE 99
  refine wpList_nil ?_
  refine hK5 _ _ ?_
  refine wp_seq_k fun khK6 hK6 => ?_
  refine wp_seq_k fun khK7 hK7 => ?_
  refine wp_region_lit ?_
  refine l_at hF rfl rfl rfl (x_move (hF.tmp 0 rfl)) ?_; clear hF; intro a hF
  refine l_at hF rfl rfl rfl (x_len_slice Tryd.underlying37 (hF.tmp 11 rfl)) ?_; clear hF; intro a hF
  refine l_at hF rfl rfl rfl (x_move rfl) ?_; clear hF; intro a hF
  refine wpList_nil ?_
  refine hK7 _ _ ?_
  refine wp_block ?_
  refine wp_loop_ghost (fun n_ a w => ∃ k : Nat, ∃ v4 : Value, ∃ okv : Nat → Prop, n_ = xs.length - k ∧ (k ≤ xs.length) ∧ ((xs.take k).all rightS = true) ∧ Fr 49 a [(4, v4), (11, .slice A xs.length c), (12, .int .i64 (xs.length : Int)), (13, .int .i64 (k : Int))] ∧ Hp (fun _ => False) w0 w [(901, .rd_ StE A xs c (fun k => k < w0.heap.size)), (990, .lib pp), (4, .row FE 99 v4 ((xs.take k).map fldS) okv)]) (xs.length) ?_ ?_
  ·exact ⟨0, .slice none 0 0, (fun _ => False), rfl, by omega, rfl, ((((hF.bare.add hF 13 rfl).add hF 12 rfl).add hF 11 rfl).add hF 4 rfl), hH.sub _ (sub_cons (sub_cons (sub_cons (sub_nil _) 4 rfl) 990 rfl) 901 rfl)⟩
  ·rintro _ a w ⟨k, v4, okv, rfl, hq0_0, hq0_1, hF, hH⟩
   refine wp_seq_k fun khK8 hK8 => ?_
   refine wp_region_lit ?_
   refine l_at hF rfl rfl rfl (x_lss (hF.tmp 13 rfl) (hF.tmp 12 rfl)) ?_; clear hF; intro a hF
   refine wpList_nil ?_
   refine hK8 _ _ ?_
   refine wp_seq_k fun khK9 hK9 => ?_
   refine wp_cond_split (hF.tmp 14 rfl) (fun hc14 => ?_) (fun hc14 => ?_)
   ·have hk14_3 := hc14; try simp only [Bool.or_eq_true, Bool.and_eq_true, Bool.or_eq_false_iff, Bool.and_eq_false_iff, Bool.not_eq_true', Bool.not_eq_false', decide_eq_true_eq, decide_eq_false_iff_not, Bool.not_true, Bool.not_false] at hc14
    refine wp_skip ?_
    refine hK9 _ _ ?_
    refine wp_seq_k fun khK10 hK10 => ?_
    refine wp_block ?_
    refine wp_seq_k fun khK11 hK11 => ?_
    refine wp_region_lit ?_
    obtain ⟨hf1_0, hf1_1, hf1_2, hf1_3, hfw1⟩ := rd_st ((hH.rd 901 rfl)) (gst_some (xs := xs) (i := (k : Int)) (by omega) (by omega))
    have hH := hH.subcels 901 rfl 1499 hfw1 (Rd.inok ((hH.rd 901 rfl)) (by omega) _)
    have hH := hH.subcel 901 rfl 1500 hf1_0 (Rd.inok ((hH.rd 901 rfl)) (by omega) _)
    have hH := hH.subcel 901 rfl 1501 hf1_1 (Rd.inok ((hH.rd 901 rfl)) (by omega) _)
    have hH := hH.subcel 901 rfl 1502 hf1_2 (Rd.inok ((hH.rd 901 rfl)) (by omega) _)
    have hH := hH.subcel 901 rfl 1503 hf1_3 (Rd.inok ((hH.rd 901 rfl)) (by omega) _)
    have hmem := gst_mem (xs := xs) (j := k) (by omega)
    refine l_at hF rfl rfl rfl (x_iaddr_A Tryd.underlying37 ty53 ((hH.rd 901 rfl)) (hF.tmp 11 rfl) (hF.tmp 13 rfl) (by omega) (by omega) _) ?_; clear hF; intro a hF
    refine l_at hF rfl rfl rfl (x_loadn ty53 (hF.tmp 15 rfl) rfl (hH.holds 1499 _ rfl)) ?_; clear hF; intro a hF
    refine wpList_plain rfl fun K hK => ?_
    refine w_alloc 6 hF hH rfl ty53 ?_
    clear hF hH; intro a w b6 hF hH
    refine hK _ _ ?_; clear hK K
    refine wpList_plain rfl fun K hK => ?_
    refine w_storeA 6 hH ty53 rfl (hF.tmp 6 rfl) (hF.tmp 16 rfl) rfl (by simp [Value.cells, Value.oneCell']) rfl ?_
    clear hH; intro w hH
    refine hK _ _ ?_; clear hK K
    refine wpList_nil ?_
    refine hK11 _ _ ?_
    refine wp_seq_k fun khK12 hK12 => ?_
    refine wp_seq_k fun khK13 hK13 => ?_
    refine wp_region_lit ?_
    refine l_at hF rfl rfl rfl (x_loadn ty53 (hF.tmp 6 rfl) rfl (blk_whole (hH.at 6 rfl))) ?_; clear hF; intro a hF
    refine wpList_plain rfl fun K hK => ?_
    refine w_call hF (x_enter Tryd.func59 (by kernel_rfl) rfl (by simp only [List.map_toArray, List.map_cons, List.map_nil, hF.tmp 17 rfl] <;> rfl)) (right_calls _ (gst xs (k : Int))) rfl rfl ?_
    rintro _ w ⟨rfl, hm_⟩; refine ⟨_, rfl, ?_⟩; clear hF; intro a hF; have hH := hH.same hm_
    refine hK _ _ ?_; clear hK K
    refine l_at hF rfl rfl rfl (x_not (hF.tmp 18 rfl)) ?_; clear hF; intro a hF
    refine wpList_nil ?_
    refine hK13 _ _ ?_
    refine wp_cond_split (hF.tmp 19 rfl) (fun hc19 => ?_) (fun hc19 => ?_)
    ·have hk19_4 := hc19; try simp only [Bool.or_eq_true, Bool.and_eq_true, Bool.or_eq_false_iff, Bool.and_eq_false_iff, Bool.not_eq_true', Bool.not_eq_false', decide_eq_true_eq, decide_eq_false_iff_not, Bool.not_true, Bool.not_false] at hc19
     have hz := enc_bad hc10 (by omega) (by simpa using hc19)
     refine wp_seq_k fun khK14 hK14 => ?_
     refine wp_region_lit ?_
     refine l_at hF rfl rfl rfl (x_assign rfl) ?_; clear hF; intro a hF
     refine l_at hF rfl rfl rfl (x_assign rfl) ?_; clear hF; intro a hF
     refine wpList_nil ?_
     refine hK14 _ _ ?_
     refine wp_ret ?_
     try simp only [Exit.then, Exit.inBlock]
     have hz2 := encT_0 (xs := xs) (by rw [hz]; decide)
     exact fin_ret hF (res2 hF rfl rfl rfl) ⟨.slice none 0 0, by rw [hz] <;> rfl, hH.mods, by rw [hz2]; exact RowOut.nil _ _ _ _⟩
    ·have hk19_5 := hc19; try simp only [Bool.or_eq_true, Bool.and_eq_true, Bool.or_eq_false_iff, Bool.and_eq_false_iff, Bool.not_eq_true', Bool.not_eq_false', decide_eq_true_eq, decide_eq_false_iff_not, Bool.not_true, Bool.not_false] at hc19
     have hc18 : rightS (gst xs (k : Int)) = true := by simpa using hc19
     refine wp_skip ?_
     refine hK12 _ _ ?_
     refine wp_seq_k fun khK15 hK15 => ?_
     refine wp_region_lit ?_
     refine l_at hF rfl rfl rfl (x_faddr Tryd.underlying53 rfl ty9 (by decide) (hF.tmp 6 rfl) rfl) ?_; clear hF; intro a hF
     refine l_at hF rfl rfl rfl (x_load1 ty9 (hF.tmp 20 rfl) (blk_cell (hH.at 6 rfl) 2 rfl)) ?_; clear hF; intro a hF
     refine l_at hF rfl rfl rfl (x_assign (hF.tmp 21 rfl)) ?_; clear hF; intro a hF
     refine wpList_nil ?_
     refine hK15 _ _ ?_
     refine wp_seq_k fun khK16 hK16 => ?_
     refine wp_seq_k fun khK17 hK17 => ?_
     refine wp_region_lit ?_
     refine l_at hF rfl rfl rfl (x_faddr Tryd.underlying53 rfl ty51 (by decide) (hF.tmp 6 rfl) rfl) ?_; clear hF; intro a hF
     refine l_at hF rfl rfl rfl (x_load1 ty51 (hF.tmp 22 rfl) (blk_cell (hH.at 6 rfl) 0 rfl)) ?_; clear hF; intro a hF
     refine l_at hF rfl rfl rfl (x_eql (hF.tmp 23 rfl) rfl) ?_; clear hF; intro a hF
     refine wpList_nil ?_
     refine hK17 _ _ ?_
     refine wp_cond_split (hF.tmp 24 rfl) (fun hc24 => ?_) (fun hc24 => ?_)
     ·have hk24_6 := hc24; try simp only [Bool.or_eq_true, Bool.and_eq_true, Bool.or_eq_false_iff, Bool.and_eq_false_iff, Bool.not_eq_true', Bool.not_eq_false', decide_eq_true_eq, decide_eq_false_iff_not, Bool.not_true, Bool.not_false] at hc24
      refine wp_region_lit ?_
      refine l_at hF rfl rfl rfl (x_faddr Tryd.underlying53 rfl ty2 (by decide) (hF.tmp 6 rfl) rfl) ?_; clear hF; intro a hF
      refine l_at hF rfl rfl rfl (x_load1 ty2 (hF.tmp 25 rfl) (blk_cell (hH.at 6 rfl) 3 rfl)) ?_; clear hF; intro a hF
      refine wpList_plain rfl fun K hK => ?_
      refine w_call hF (x_enter Tryd.func78 (by kernel_rfl) rfl (by simp only [List.map_toArray, List.map_cons, List.map_nil, hF.tmp 26 rfl] <;> rfl)) (fmt_calls _ (hH.holds 990 _ rfl) (hbs _ hmem).2.2) rfl rfl ?_
      rintro _ w ⟨rfl, hm_⟩; refine ⟨_, rfl, ?_⟩; clear hF; intro a hF; have hH := hH.same hm_
      refine hK _ _ ?_; clear hK K
      refine l_at hF rfl rfl rfl (x_assign (hF.tmp 27 rfl)) ?_; clear hF; intro a hF
      refine wpList_nil ?_
      refine hK16 _ _ ?_
      refine r_start [(6, .blk b6 (.cells #[.int .i64 (gst xs (k : Int)).1, .string (strOfNums (gst xs (k : Int)).2.1), .string (strOfNums (gst xs (k : Int)).2.2.1), .int .i64 (gst xs (k : Int)).2.2.2] 53 (0, 0)))] (by kernel_rfl) hH fun hH => ?_
      have hS : SL [(6, .blk b6 (.cells #[.int .i64 (gst xs (k : Int)).1, .string (strOfNums (gst xs (k : Int)).2.1), .string (strOfNums (gst xs (k : Int)).2.2.1), .int .i64 (gst xs (k : Int)).2.2.2] 53 (0, 0)))] _ := SL.of hH (sub_cons (sub_nil _) 6 rfl)
      rw [restS_add hc24] at hF
      refine r_take 0 hF rfl rfl rfl (by kernel_rfl) (by kernel_rfl) (by kernel_rfl) (fun _ _ _ h => h) rfl hS (fun w hS => x_move (hF.tmp 4 rfl)) rfl ?_; clear hF; intro a hF
      refine r_take 1 hF rfl rfl rfl (by kernel_rfl) (by kernel_rfl) (by kernel_rfl) (fun _ _ _ h => h) rfl hS (fun w hS => x_faddr Tryd.underlying53 rfl ty51 (by decide) (hF.tmp 6 rfl) rfl) rfl ?_; clear hF; intro a hF
      refine r_take 2 hF rfl rfl rfl (by kernel_rfl) (by kernel_rfl) (by kernel_rfl) (fun _ _ _ h => h) rfl hS (fun w hS => x_load1 ty51 (hF.tmp 29 rfl) (blk_cell (SL.at_ hS 6 rfl) 0 rfl)) rfl ?_; clear hF; intro a hF
      refine r_take 3 hF rfl rfl rfl (by kernel_rfl) (by kernel_rfl) (by kernel_rfl) (fun _ _ _ h => h) rfl hS (fun w hS => x_faddr Tryd.underlying53 rfl ty9 (by decide) (hF.tmp 6 rfl) rfl) rfl ?_; clear hF; intro a hF
      refine r_take 4 hF rfl rfl rfl (by kernel_rfl) (by kernel_rfl) (by kernel_rfl) (fun _ _ _ h => h) rfl hS (fun w hS => x_load1 ty9 (hF.tmp 31 rfl) (blk_cell (SL.at_ hS 6 rfl) 1 rfl)) rfl ?_; clear hF; intro a hF
      refine r_take 5 hF rfl rfl rfl (by kernel_rfl) (by kernel_rfl) (by kernel_rfl) (fun _ _ _ h => h) rfl hS (fun w hS => x_len_sn (xs := ((gst xs (k : Int)).2.1)) Tryd.underlying9 (hF.tmp 32 rfl)) rfl ?_; clear hF; intro a hF
      refine r_take 6 hF rfl rfl rfl (by kernel_rfl) (by kernel_rfl) (by kernel_rfl) (fun _ _ _ h => h) rfl hS (fun w hS => x_conv Tryd.underlying5 ⟨_, Tryd.underlying3⟩ (hF.tmp 33 rfl) (key_wrap hc18)) rfl ?_; clear hF; intro a hF
      refine r_take 8 hF rfl rfl rfl (by kernel_rfl) (by kernel_rfl) (by kernel_rfl) (fun _ _ _ h => h) rfl hS (fun w hS => x_faddr Tryd.underlying53 rfl ty9 (by decide) (hF.tmp 6 rfl) rfl) rfl ?_; clear hF; intro a hF
      refine r_take 9 hF rfl rfl rfl (by kernel_rfl) (by kernel_rfl) (by kernel_rfl) (fun _ _ _ h => h) rfl hS (fun w hS => x_load1 ty9 (hF.tmp 36 rfl) (blk_cell (SL.at_ hS 6 rfl) 1 rfl)) rfl ?_; clear hF; intro a hF
      refine r_take 10 hF rfl rfl rfl (by kernel_rfl) (by kernel_rfl) (by kernel_rfl) (fun _ _ _ h => h) rfl hS (fun w hS => x_move (hF.tmp 7 rfl)) rfl ?_; clear hF; intro a hF
      refine r_take 11 hF rfl rfl rfl (by kernel_rfl) (by kernel_rfl) (by kernel_rfl) (fun _ _ _ h => h) rfl hS (fun w hS => x_adds (xs := ((gst xs (k : Int)).2.1)) (ys := (restS (gst xs (k : Int)))) (hF.tmp 37 rfl) (hF.tmp 38 rfl) (by have := key_len hc18; have := restS_len hc18 (hbs _ hmem); omega)) rfl ?_; clear hF; intro a hF
      refine r_do 7 rfl (by kernel_rfl) rfl rfl ?_
      refine w_lit 40 (enc := Value.int .u8) (h1 := fun _ => rfl) ([((gst xs (k : Int)).2.1.length : Int)]) hF hH rfl Tryd.underlying28 ty5 (by simp only [List.map_toArray, List.map_cons, List.map_nil, hF.tmp 34 rfl]; rfl) rfl (by decide) (by decide) (by kernel_rfl) ?_
      clear hF hH; intro a w b35 hF hH
      clear hS; have hS : SL _ _ := SL.of hH (sub_cons (sub_nil _) 6 rfl); refine ⟨hS, ?_⟩
      refine r_do 12 rfl (by kernel_rfl) rfl rfl ?_
      refine w_appendS 40 (xs := ([((gst xs (k : Int)).2.1.length : Int)])) (ys := (((gst xs (k : Int)).2.1) ++ (restS (gst xs (k : Int))))) hF hH rfl Tryd.underlying28 Tryd.underlying9 ty5 rfl (hF.tmp 35 rfl) (hF.tmp 39 rfl) ((hbs _ hmem).1.app (restS_byte (hbs _ hmem))) (by have := key_len hc18; have := restS_len hc18 (hbs _ hmem); simp only [List.length_cons, List.length_nil, List.length_append]; omega) ?_
      clear hF hH; intro a w v40 hF hH
      clear hS; have hS : SL _ _ := SL.of hH (sub_cons (sub_nil _) 6 rfl); refine ⟨hS, ?_⟩
      obtain ⟨A40, c40, rfl⟩ := (hH.row 40 rfl).form
      have hH := hH.freeze 40 rfl (fun kb => (Value.slice A40 (([((gst xs (k : Int)).2.1.length : Int)]) ++ (((gst xs (k : Int)).2.1) ++ (restS (gst xs (k : Int))))).length c40).ownBlock = some kb) (fun kb => ⟨fun h => .inr h, fun h => h.resolve_left id⟩)
      refine r_take 13 hF rfl rfl rfl (by kernel_rfl) (by kernel_rfl) (by kernel_rfl) (fun _ _ _ h => h) rfl hS (fun w hS => x_buildS (cells := #[.int .i64 (gst xs (k : Int)).1, .slice A40 (([((gst xs (k : Int)).2.1.length : Int)]) ++ (((gst xs (k : Int)).2.1) ++ (restS (gst xs (k : Int))))).length c40]) (places := #[(0, 1), (1, 1)]) Tryd.underlying99 ty99 (by kernel_rfl) (by simp only [List.map_toArray, List.map_cons, List.map_nil, hF.tmp 30 rfl, hF.tmp 40 rfl] <;> rfl) rfl) rfl ?_; clear hF; intro a hF
      refine r_do 14 rfl (by kernel_rfl) rfl rfl ?_
      refine w_lit1 42 FE (((gst xs (k : Int)).1, (([((gst xs (k : Int)).2.1.length : Int)]) ++ (((gst xs (k : Int)).2.1) ++ (restS (gst xs (k : Int)))))) : Fld) #[.int .i64 ((gst xs (k : Int)).1), .slice A40 (([((gst xs (k : Int)).2.1.length : Int)]) ++ (((gst xs (k : Int)).2.1) ++ (restS (gst xs (k : Int))))).length c40] (fun kb => (Value.slice A40 (([((gst xs (k : Int)).2.1.length : Int)]) ++ (((gst xs (k : Int)).2.1) ++ (restS (gst xs (k : Int))))).length c40).ownBlock = some kb) hF hH rfl Tryd.underlying100 ty99 (by simp only [List.map_toArray, List.map_cons, List.map_nil, hF.tmp 41 rfl] <;> rfl) (by decide) (by kernel_rfl) (fld_mk (f := (((gst xs (k : Int)).1, (([((gst xs (k : Int)).2.1.length : Int)]) ++ (((gst xs (k : Int)).2.1) ++ (restS (gst xs (k : Int)))))) : Fld)) (hH.rd 40 rfl)) (fun kb hk => ⟨40, _, rfl, hk⟩) ?_
      clear hF hH; intro a w b42 hF hb42_ hH
      clear hS; have hS : SL _ _ := SL.of hH (sub_cons (sub_nil _) 6 rfl); refine ⟨hS, ?_⟩
      refine r_do 15 rfl (by kernel_rfl) rfl rfl ?_
      refine w_append 4 42 (xs := ((xs.take k).map fldS)) (ys := ([(((gst xs (k : Int)).1, (([((gst xs (k : Int)).2.1.length : Int)]) ++ (((gst xs (k : Int)).2.1) ++ (restS (gst xs (k : Int)))))) : Fld)])) hF hH rfl Tryd.underlying100 ty99 rfl rfl rfl rfl ((hH.rd 42 rfl)) (by intro k_ hk_; exact .inr hk_) (hF.tmp 28 rfl) (hF.tmp 42 rfl) (by rw [List.length_map, List.length_take]; simp only [List.length_cons, List.length_nil]; omega) (by rw [List.length_map, List.length_take]; simp only [List.length_cons, List.length_nil, maxLen]; omega) (fun kb => okv kb ∨ (fun kb => (fun kb => (Value.slice A40 (([((gst xs (k : Int)).2.1.length : Int)]) ++ (((gst xs (k : Int)).2.1) ++ (restS (gst xs (k : Int))))).length c40).ownBlock = some kb) kb ∨ kb = b42) kb) (fun w' v' h => h) (by rintro k_ (hk_ | hk_); exact .inl hk_; exact .inr hk_) ?_
      clear hF hH; intro a w v43 hF hH
      clear hS; have hS : SL _ _ := SL.of hH (sub_cons (sub_nil _) 6 rfl); refine ⟨hS, ?_⟩
      refine r_take 16 hF rfl rfl rfl (by kernel_rfl) (by kernel_rfl) (by kernel_rfl) (fun _ _ _ h => h) rfl hS (fun w hS => x_assign (hF.tmp 43 rfl)) rfl ?_; clear hF; intro a hF
      refine r_end (by kernel_rfl) ?_; clear hS
      refine hK10 _ _ ?_
      refine wp_region_lit ?_
      refine l_at hF rfl rfl rfl (x_add (hF.tmp 13 rfl) rfl (w64 (by omega) (by omega))) ?_; clear hF; intro a hF
      refine l_at hF rfl rfl rfl (x_move (hF.tmp 44 rfl)) ?_; clear hF; intro a hF
      refine wpList_nil ?_
      have hHs : Hp (fun _ => False) w0 w [(901, .rd_ StE A xs c (fun k => k < w0.heap.size)), (990, .lib pp), (4, .row FE 99 v43 (((xs.take k).map fldS) ++ [(((gst xs (k : Int)).1, ([(((gst xs (k : Int)).2.1.length : Int))] ++ ((gst xs (k : Int)).2.1 ++ restS (gst xs (k : Int))))) : Fld)]) (fun kb => okv kb ∨ (fun kb => (fun kb => (Value.slice A40 (([((gst xs (k : Int)).2.1.length : Int)]) ++ (((gst xs (k : Int)).2.1) ++ (restS (gst xs (k : Int))))).length c40).ownBlock = some kb) kb ∨ kb = b42) kb))] := hH.sub _ (sub_cons (sub_cons (sub_cons (sub_nil _) 4 rfl) 990 rfl) 901 rfl)
      rw [show ((xs.take k).map fldS) ++ [(((gst xs (k : Int)).1, ([(((gst xs (k : Int)).2.1.length : Int))] ++ ((gst xs (k : Int)).2.1 ++ restS (gst xs (k : Int))))) : Fld)] = (xs.take (k + 1)).map fldS from fld_stepL hc14] at hHs
      exact ⟨_, by omega, ⟨k + 1, v43, (fun kb => okv kb ∨ (fun kb => (fun kb => (Value.slice A40 (([((gst xs (k : Int)).2.1.length : Int)]) ++ (((gst xs (k : Int)).2.1) ++ (restS (gst xs (k : Int))))).length c40).ownBlock = some kb) kb ∨ kb = b42) kb), rfl, by omega, right_step hc14 hq0_1 hc18, ((((hF.bare.add hF 13 rfl).add hF 12 rfl).add hF 11 rfl).add hF 4 rfl), hHs⟩⟩
     ·have hk24_7 := hc24; try simp only [Bool.or_eq_true, Bool.and_eq_true, Bool.or_eq_false_iff, Bool.and_eq_false_iff, Bool.not_eq_true', Bool.not_eq_false', decide_eq_true_eq, decide_eq_false_iff_not, Bool.not_true, Bool.not_false] at hc24
      refine wp_skip ?_
      refine hK16 _ _ ?_
      refine r_start [(6, .blk b6 (.cells #[.int .i64 (gst xs (k : Int)).1, .string (strOfNums (gst xs (k : Int)).2.1), .string (strOfNums (gst xs (k : Int)).2.2.1), .int .i64 (gst xs (k : Int)).2.2.2] 53 (0, 0)))] (by kernel_rfl) hH fun hH => ?_
      have hS : SL [(6, .blk b6 (.cells #[.int .i64 (gst xs (k : Int)).1, .string (strOfNums (gst xs (k : Int)).2.1), .string (strOfNums (gst xs (k : Int)).2.2.1), .int .i64 (gst xs (k : Int)).2.2.2] 53 (0, 0)))] _ := SL.of hH (sub_cons (sub_nil _) 6 rfl)
      rw [restS_val hc24] at hF
      refine r_take 0 hF rfl rfl rfl (by kernel_rfl) (by kernel_rfl) (by kernel_rfl) (fun _ _ _ h => h) rfl hS (fun w hS => x_move (hF.tmp 4 rfl)) rfl ?_; clear hF; intro a hF
      refine r_take 1 hF rfl rfl rfl (by kernel_rfl) (by kernel_rfl) (by kernel_rfl) (fun _ _ _ h => h) rfl hS (fun w hS => x_faddr Tryd.underlying53 rfl ty51 (by decide) (hF.tmp 6 rfl) rfl) rfl ?_; clear hF; intro a hF
      refine r_take 2 hF rfl rfl rfl (by kernel_rfl) (by kernel_rfl) (by kernel_rfl) (fun _ _ _ h => h) rfl hS (fun w hS => x_load1 ty51 (hF.tmp 29 rfl) (blk_cell (SL.at_ hS 6 rfl) 0 rfl)) rfl ?_; clear hF; intro a hF
      refine r_take 3 hF rfl rfl rfl (by kernel_rfl) (by kernel_rfl) (by kernel_rfl) (fun _ _ _ h => h) rfl hS (fun w hS => x_faddr Tryd.underlying53 rfl ty9 (by decide) (hF.tmp 6 rfl) rfl) rfl ?_; clear hF; intro a hF
      refine r_take 4 hF rfl rfl rfl (by kernel_rfl) (by kernel_rfl) (by kernel_rfl) (fun _ _ _ h => h) rfl hS (fun w hS => x_load1 ty9 (hF.tmp 31 rfl) (blk_cell (SL.at_ hS 6 rfl) 1 rfl)) rfl ?_; clear hF; intro a hF
      refine r_take 5 hF rfl rfl rfl (by kernel_rfl) (by kernel_rfl) (by kernel_rfl) (fun _ _ _ h => h) rfl hS (fun w hS => x_len_sn (xs := ((gst xs (k : Int)).2.1)) Tryd.underlying9 (hF.tmp 32 rfl)) rfl ?_; clear hF; intro a hF
      refine r_take 6 hF rfl rfl rfl (by kernel_rfl) (by kernel_rfl) (by kernel_rfl) (fun _ _ _ h => h) rfl hS (fun w hS => x_conv Tryd.underlying5 ⟨_, Tryd.underlying3⟩ (hF.tmp 33 rfl) (key_wrap hc18)) rfl ?_; clear hF; intro a hF
      refine r_take 8 hF rfl rfl rfl (by kernel_rfl) (by kernel_rfl) (by kernel_rfl) (fun _ _ _ h => h) rfl hS (fun w hS => x_faddr Tryd.underlying53 rfl ty9 (by decide) (hF.tmp 6 rfl) rfl) rfl ?_; clear hF; intro a hF
      refine r_take 9 hF rfl rfl rfl (by kernel_rfl) (by kernel_rfl) (by kernel_rfl) (fun _ _ _ h => h) rfl hS (fun w hS => x_load1 ty9 (hF.tmp 36 rfl) (blk_cell (SL.at_ hS 6 rfl) 1 rfl)) rfl ?_; clear hF; intro a hF
      refine r_take 10 hF rfl rfl rfl (by kernel_rfl) (by kernel_rfl) (by kernel_rfl) (fun _ _ _ h => h) rfl hS (fun w hS => x_move (hF.tmp 7 rfl)) rfl ?_; clear hF; intro a hF
      refine r_take 11 hF rfl rfl rfl (by kernel_rfl) (by kernel_rfl) (by kernel_rfl) (fun _ _ _ h => h) rfl hS (fun w hS => x_adds (xs := ((gst xs (k : Int)).2.1)) (ys := (restS (gst xs (k : Int)))) (hF.tmp 37 rfl) (hF.tmp 38 rfl) (by have := key_len hc18; have := restS_len hc18 (hbs _ hmem); omega)) rfl ?_; clear hF; intro a hF
      refine r_do 7 rfl (by kernel_rfl) rfl rfl ?_
      refine w_lit 40 (enc := Value.int .u8) (h1 := fun _ => rfl) ([((gst xs (k : Int)).2.1.length : Int)]) hF hH rfl Tryd.underlying28 ty5 (by simp only [List.map_toArray, List.map_cons, List.map_nil, hF.tmp 34 rfl]; rfl) rfl (by decide) (by decide) (by kernel_rfl) ?_
      clear hF hH; intro a w b35 hF hH
      clear hS; have hS : SL _ _ := SL.of hH (sub_cons (sub_nil _) 6 rfl); refine ⟨hS, ?_⟩
      refine r_do 12 rfl (by kernel_rfl) rfl rfl ?_
      refine w_appendS 40 (xs := ([((gst xs (k : Int)).2.1.length : Int)])) (ys := (((gst xs (k : Int)).2.1) ++ (restS (gst xs (k : Int))))) hF hH rfl Tryd.underlying28 Tryd.underlying9 ty5 rfl (hF.tmp 35 rfl) (hF.tmp 39 rfl) ((hbs _ hmem).1.app (restS_byte (hbs _ hmem))) (by have := key_len hc18; have := restS_len hc18 (hbs _ hmem); simp only [List.length_cons, List.length_nil, List.length_append]; omega) ?_
      clear hF hH; intro a w v40 hF hH
      clear hS; have hS : SL _ _ := SL.of hH (sub_cons (sub_nil _) 6 rfl); refine ⟨hS, ?_⟩
      obtain ⟨A40, c40, rfl⟩ := (hH.row 40 rfl).form
      have hH := hH.freeze 40 rfl (fun kb => (Value.slice A40 (([((gst xs (k : Int)).2.1.length : Int)]) ++ (((gst xs (k : Int)).2.1) ++ (restS (gst xs (k : Int))))).length c40).ownBlock = some kb) (fun kb => ⟨fun h => .inr h, fun h => h.resolve_left id⟩)
      refine r_take 13 hF rfl rfl rfl (by kernel_rfl) (by kernel_rfl) (by kernel_rfl) (fun _ _ _ h => h) rfl hS (fun w hS => x_buildS (cells := #[.int .i64 (gst xs (k : Int)).1, .slice A40 (([((gst xs (k : Int)).2.1.length : Int)]) ++ (((gst xs (k : Int)).2.1) ++ (restS (gst xs (k : Int))))).length c40]) (places := #[(0, 1), (1, 1)]) Tryd.underlying99 ty99 (by kernel_rfl) (by simp only [List.map_toArray, List.map_cons, List.map_nil, hF.tmp 30 rfl, hF.tmp 40 rfl] <;> rfl) rfl) rfl ?_; clear hF; intro a hF
      refine r_do 14 rfl (by kernel_rfl) rfl rfl ?_
      refine w_lit1 42 FE (((gst xs (k : Int)).1, (([((gst xs (k : Int)).2.1.length : Int)]) ++ (((gst xs (k : Int)).2.1) ++ (restS (gst xs (k : Int)))))) : Fld) #[.int .i64 ((gst xs (k : Int)).1), .slice A40 (([((gst xs (k : Int)).2.1.length : Int)]) ++ (((gst xs (k : Int)).2.1) ++ (restS (gst xs (k : Int))))).length c40] (fun kb => (Value.slice A40 (([((gst xs (k : Int)).2.1.length : Int)]) ++ (((gst xs (k : Int)).2.1) ++ (restS (gst xs (k : Int))))).length c40).ownBlock = some kb) hF hH rfl Tryd.underlying100 ty99 (by simp only [List.map_toArray, List.map_cons, List.map_nil, hF.tmp 41 rfl] <;> rfl) (by decide) (by kernel_rfl) (fld_mk (f := (((gst xs (k : Int)).1, (([((gst xs (k : Int)).2.1.length : Int)]) ++ (((gst xs (k : Int)).2.1) ++ (restS (gst xs (k : Int)))))) : Fld)) (hH.rd 40 rfl)) (fun kb hk => ⟨40, _, rfl, hk⟩) ?_
      clear hF hH; intro a w b42 hF hb42_ hH
      clear hS; have hS : SL _ _ := SL.of hH (sub_cons (sub_nil _) 6 rfl); refine ⟨hS, ?_⟩
      refine r_do 15 rfl (by kernel_rfl) rfl rfl ?_
      refine w_append 4 42 (xs := ((xs.take k).map fldS)) (ys := ([(((gst xs (k : Int)).1, (([((gst xs (k : Int)).2.1.length : Int)]) ++ (((gst xs (k : Int)).2.1) ++ (restS (gst xs (k : Int)))))) : Fld)])) hF hH rfl Tryd.underlying100 ty99 rfl rfl rfl rfl ((hH.rd 42 rfl)) (by intro k_ hk_; exact .inr hk_) (hF.tmp 28 rfl) (hF.tmp 42 rfl) (by rw [List.length_map, List.length_take]; simp only [List.length_cons, List.length_nil]; omega) (by rw [List.length_map, List.length_take]; simp only [List.length_cons, List.length_nil, maxLen]; omega) (fun kb => okv kb ∨ (fun kb => (fun kb => (Value.slice A40 (([((gst xs (k : Int)).2.1.length : Int)]) ++ (((gst xs (k : Int)).2.1) ++ (restS (gst xs (k : Int))))).length c40).ownBlock = some kb) kb ∨ kb = b42) kb) (fun w' v' h => h) (by rintro k_ (hk_ | hk_); exact .inl hk_; exact .inr hk_) ?_
      clear hF hH; intro a w v43 hF hH
      clear hS; have hS : SL _ _ := SL.of hH (sub_cons (sub_nil _) 6 rfl); refine ⟨hS, ?_⟩
      refine r_take 16 hF rfl rfl rfl (by kernel_rfl) (by kernel_rfl) (by kernel_rfl) (fun _ _ _ h => h) rfl hS (fun w hS => x_assign (hF.tmp 43 rfl)) rfl ?_; clear hF; intro a hF
      refine r_end (by kernel_rfl) ?_; clear hS
      refine hK10 _ _ ?_
      refine wp_region_lit ?_
      refine l_at hF rfl rfl rfl (x_add (hF.tmp 13 rfl) rfl (w64 (by omega) (by omega))) ?_; clear hF; intro a hF
      refine l_at hF rfl rfl rfl (x_move (hF.tmp 44 rfl)) ?_; clear hF; intro a hF
      refine wpList_nil ?_
      have hHs : Hp (fun _ => False) w0 w [(901, .rd_ StE A xs c (fun k => k < w0.heap.size)), (990, .lib pp), (4, .row FE 99 v43 (((xs.take k).map fldS) ++ [(((gst xs (k : Int)).1, ([(((gst xs (k : Int)).2.1.length : Int))] ++ ((gst xs (k : Int)).2.1 ++ restS (gst xs (k : Int))))) : Fld)]) (fun kb => okv kb ∨ (fun kb => (fun kb => (Value.slice A40 (([((gst xs (k : Int)).2.1.length : Int)]) ++ (((gst xs (k : Int)).2.1) ++ (restS (gst xs (k : Int))))).length c40).ownBlock = some kb) kb ∨ kb = b42) kb))] := hH.sub _ (sub_cons (sub_cons (sub_cons (sub_nil _) 4 rfl) 990 rfl) 901 rfl)
      rw [show ((xs.take k).map fldS) ++ [(((gst xs (k : Int)).1, ([(((gst xs (k : Int)).2.1.length : Int))] ++ ((gst xs (k : Int)).2.1 ++ restS (gst xs (k : Int))))) : Fld)] = (xs.take (k + 1)).map fldS from fld_stepL hc14] at hHs
      exact ⟨_, by omega, ⟨k + 1, v43, (fun kb => okv kb ∨ (fun kb => (fun kb => (Value.slice A40 (([((gst xs (k : Int)).2.1.length : Int)]) ++ (((gst xs (k : Int)).2.1) ++ (restS (gst xs (k : Int))))).length c40).ownBlock = some kb) kb ∨ kb = b42) kb), rfl, by omega, right_step hc14 hq0_1 hc18, ((((hF.bare.add hF 13 rfl).add hF 12 rfl).add hF 11 rfl).add hF 4 rfl), hHs⟩⟩
   ·have hk14_8 := hc14; try simp only [Bool.or_eq_true, Bool.and_eq_true, Bool.or_eq_false_iff, Bool.and_eq_false_iff, Bool.not_eq_true', Bool.not_eq_false', decide_eq_true_eq, decide_eq_false_iff_not, Bool.not_true, Bool.not_false] at hc14
    refine wp_exit ?_
    refine hK6 _ _ ?_
    refine wp_seq_k fun khK18 hK18 => ?_
    refine wp_region_lit ?_
    obtain rfl : k = xs.length := by omega
    rw [List.take_length] at hq0_1 hH
    obtain ⟨Av, cv, rfl⟩ := (hH.row 4 rfl).form
    refine l_at hF rfl rfl rfl (x_move (hF.tmp 4 rfl)) ?_; clear hF; intro a hF
    refine wpList_plain rfl fun K hK => ?_
    refine w_call hF (x_enter Tryd.func42 (by kernel_rfl) rfl (by simp only [List.map_toArray, List.map_cons, List.map_nil, hF.tmp 45 rfl] <;> rfl)) (enc_at (xs := xs.map fldS) (Row.rd (ok' := fun k_ => okv k_ ∨ (.slice Av ((xs.map fldS)).length cv : Value).ownBlock = some k_) (hH.row 4 rfl) (fun _ hk_ _ => .inl hk_) (fun _ hk_ => .inr hk_)) (encR_of hc10 hq0_1 hbs)) rfl rfl ?_
    rintro _ w ⟨vr46, rfl, hm_, hr_⟩; refine ⟨_, rfl, ?_⟩; clear hF; intro a hF; have hH := Hp.rowOut hH 46 hm_ hr_; obtain ⟨Ar46, cr46, rfl⟩ := (hH.row 46 rfl).form
    refine hK _ _ ?_; clear hK K
    refine l_at hF rfl rfl rfl (x_extract (hF.tmp 46 rfl) rfl) ?_; clear hF; intro a hF
    refine l_at hF rfl rfl rfl (x_extract (hF.tmp 46 rfl) rfl) ?_; clear hF; intro a hF
    refine l_at hF rfl rfl rfl (x_assign (hF.tmp 47 rfl)) ?_; clear hF; intro a hF
    refine l_at hF rfl rfl rfl (x_assign (hF.tmp 48 rfl)) ?_; clear hF; intro a hF
    refine wpList_nil ?_
    refine hK18 _ _ ?_
    refine wp_ret ?_
    try simp only [Exit.then, Exit.inBlock]
    have hz := enc_good hc10 hq0_1
    exact fin_ret hF (res2 hF rfl rfl rfl) ⟨_, by rw [hz] <;> rfl, hH.mods, Hp.out hH 46 rfl⟩
end Go.Proofs.YtiiklnghnifmjaaDoor.Act
