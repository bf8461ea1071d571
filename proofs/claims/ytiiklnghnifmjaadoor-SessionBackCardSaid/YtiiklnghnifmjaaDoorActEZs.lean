/- action's Decode, walked. -/
import Derived.Test.YtiiklnghnifmjaaDoorActAZs
import Derived.Test.YtiiklnghnifmjaaDoorActTZs
import Derived.Test.YtiiklnghnifmjaaDoorMapZs
set_option linter.unusedVariables false
set_option linter.unusedSimpArgs false
namespace Go.Proofs.YtiiklnghnifmjaaDoor.Act
open Go.RowKit Go.Proofs.YtiiklnghnifmjaaDoor.Sx Go.Proofs.YtiiklnghnifmjaaDoor.Cod Go.Proofs.YtiiklnghnifmjaaDoor.Num
set_option maxRecDepth 100000 in
set_option maxHeartbeats 1000000 in
theorem step_calls (w0 : World) (hL : LibAt true w0) {x : Fld} {okx : Nat → Prop} {Ax : Option Addr} {cx : Nat} (hrx : Rd (.int .u8) w0 okx Ax x.2 cx) (hs : x.2.length ≤ 100000) (hby : Byte x.2) : Calls Tryd.prog 108 #[.agg #[.int .i64 x.1, .slice Ax x.2.length cx]] w0 fun e w' => ∃ s : StepD, e = .returned (.tuple #[.agg #[.int .i64 s.1, .string (strOfNums s.2.1), .string (strOfNums s.2.2.1), .int .i64 s.2.2.2], .bool (stepF x).isSome]) ∧ Mods (fun _ => False) w0 w' ∧ ∀ s', stepF x = some s' → s = s' := by
 refine calls_of_wp Tryd.func108 rfl ?_
 have hF := Fr.enter #[.agg #[.int .i64 x.1, .slice Ax x.2.length cx]] 53 (slotsOf [.agg #[.int .i64 x.1, .slice Ax x.2.length cx]] 0) (Nat.le_of_ble_eq_true rfl) (fun i v h => by have h2 := (get_slotsOf _ 0 i v h).2; simpa only [List.getElem?_toArray, Nat.sub_zero] using h2)
 have hH := Hp.nil (fun _ => False) w0
 rw [Tryd.ntmps108]
 revert hF; generalize (⟨(#[.agg #[.int .i64 x.1, .slice Ax x.2.length cx]] : Array Value) ++ Array.replicate (53 - (#[.agg #[.int .i64 x.1, .slice Ax x.2.length cx]] : Array Value).size) undef, []⟩ : Act) = a; intro hF
 have hH := hH.libN 990 hL
 have hH := hH.arg 902 hrx.all (fun _ h => ⟨h, fun h => h⟩)
 refine wp_seq_k fun khK1 hK1 => ?_
 refine wp_region_lit ?_
 refine wpList_plain rfl fun K hK => ?_
 refine w_box 1 hF hH rfl (hF.tmp 0 rfl) ?_
 clear hF hH; intro a w b1 hF hH
 refine hK _ _ ?_; clear hK K
 refine wpList_plain rfl fun K hK => ?_
 refine w_alloc 2 hF hH rfl ty53 ?_
 clear hF hH; intro a w b2 hF hH
 refine hK _ _ ?_; clear hK K
 refine l_at hF rfl rfl rfl (x_assign rfl) ?_; clear hF; intro a hF
 refine wpList_nil ?_
 refine hK1 _ _ ?_
 refine wp_seq_k fun khK2 hK2 => ?_
 refine wp_region_lit ?_
 refine l_at hF rfl rfl rfl (x_faddr Tryd.underlying99 rfl ty28 (by decide) (hF.tmp 1 rfl) rfl) ?_; clear hF; intro a hF
 refine l_at hF rfl rfl rfl (x_load1 ty28 (hF.tmp 8 rfl) (blk_cell (hH.at 1 rfl) 1 rfl)) ?_; clear hF; intro a hF
 refine l_at hF rfl rfl rfl (x_b2s Tryd.underlying28 Tryd.underlying5 Tryd.underlying9 ((hH.rd 902 rfl)) (hF.tmp 9 rfl)) ?_; clear hF; intro a hF
 refine l_at hF rfl rfl rfl (x_assign (hF.tmp 10 rfl)) ?_; clear hF; intro a hF
 refine wpList_nil ?_
 refine hK2 _ _ ?_
 refine wp_seq_k fun khK3 hK3 => ?_
 refine wp_seq_k fun khK4 hK4 => ?_
 refine wp_region_lit ?_
 refine l_at hF rfl rfl rfl (x_move (hF.tmp 4 rfl)) ?_; clear hF; intro a hF
 refine l_at hF rfl rfl rfl (x_eqn0 (xs := x.2) (hF.tmp 11 rfl) (show _ = Value.string (strOfNums ([] : List Int)) by kernel_rfl)) ?_; clear hF; intro a hF
 refine l_at hF rfl rfl rfl (x_move (hF.tmp 12 rfl)) ?_; clear hF; intro a hF
 refine split_bool hF 13 rfl (fun hb13 => ?_) (fun hb13 => ?_)
 ·have hc13 := hb13; try simp only [Bool.or_eq_true, Bool.and_eq_true, Bool.or_eq_false_iff, Bool.and_eq_false_iff, Bool.not_eq_true', Bool.not_eq_false', decide_eq_true_eq, decide_eq_false_iff_not, Bool.not_true, Bool.not_false] at hc13
  have hz := stepF_short (.inl hc13)
  refine l_offg hF ((wanted_of hF rfl rfl rfl rfl).trans (by rw [hb13]; rfl)) rfl rfl ?_; clear hF; intro a hF
  refine l_offg hF ((wanted_of hF rfl rfl rfl rfl).trans (by rw [hb13]; rfl)) rfl rfl ?_; clear hF; intro a hF
  refine l_offg hF ((wanted_of hF rfl rfl rfl rfl).trans (by rw [hb13]; rfl)) rfl rfl ?_; clear hF; intro a hF
  refine l_offg hF ((wanted_of hF rfl rfl rfl rfl).trans (by rw [hb13]; rfl)) rfl rfl ?_; clear hF; intro a hF
  refine l_offg hF ((wanted_of hF rfl rfl rfl rfl).trans (by rw [hb13]; rfl)) rfl rfl ?_; clear hF; intro a hF
  refine l_offg hF ((wanted_of hF rfl rfl rfl rfl).trans (by rw [hb13]; rfl)) rfl rfl ?_; clear hF; intro a hF
  refine l_at hF rfl rfl rfl (x_pickT (hF.tmp 13 rfl) hb13 rfl) ?_; clear hF; intro a hF
  refine wpList_nil ?_
  refine hK4 _ _ ?_
  refine wp_cond_true (hF.tmp 20 rfl) ?_
  refine wp_seq_k fun khK5 hK5 => ?_
  refine wp_region_lit ?_
  refine l_at hF rfl rfl rfl (x_buildS (cells := #[.int .i64 0, .string (strOfNums []), .string (strOfNums []), .int .i64 0]) (places := #[(0, 1), (1, 1), (2, 1), (3, 1)]) Tryd.underlying53 ty53 (by kernel_rfl) Array.map_empty rfl) ?_; clear hF; intro a hF
  refine wpList_plain rfl fun K hK => ?_
  refine w_storeA 2 hH ty53 rfl (hF.tmp 2 rfl) (hF.tmp 21 rfl) rfl (by simp [Value.cells, Value.oneCell']) rfl ?_
  clear hH; intro w hH
  refine hK _ _ ?_; clear hK K
  refine l_at hF rfl rfl rfl (x_assign rfl) ?_; clear hF; intro a hF
  refine wpList_nil ?_
  refine hK5 _ _ ?_
  refine wp_ret ?_
  try simp only [Exit.then, Exit.inBlock]
  exact fin_ret hF (resct hF rfl rfl rfl (hH.at 2 rfl) ty53 rfl) ⟨((0, [], [], 0) : StepD), by rw [hz] <;> rfl, hH.mods, fun s' h => by rw [hz] at h; cases h⟩
 ·have hc13 := hb13; try simp only [Bool.or_eq_true, Bool.and_eq_true, Bool.or_eq_false_iff, Bool.and_eq_false_iff, Bool.not_eq_true', Bool.not_eq_false', decide_eq_true_eq, decide_eq_false_iff_not, Bool.not_true, Bool.not_false] at hc13
  refine l_atg hF ((wanted_of hF rfl rfl rfl rfl).trans (by rw [hb13]; rfl)) rfl rfl (x_move (hF.tmp 4 rfl)) ?_; clear hF; intro a hF
  refine l_atg hF ((wanted_of hF rfl rfl rfl rfl).trans (by rw [hb13]; rfl)) rfl rfl (x_len_sn (xs := x.2) Tryd.underlying9 (hF.tmp 14 rfl)) ?_; clear hF; intro a hF
  refine l_atg hF ((wanted_of hF rfl rfl rfl rfl).trans (by rw [hb13]; rfl)) rfl rfl (x_move (hF.tmp 4 rfl)) ?_; clear hF; intro a hF
  refine l_atg hF ((wanted_of hF rfl rfl rfl rfl).trans (by rw [hb13]; rfl)) rfl rfl (x_idxS (xs := x.2) Tryd.underlying9 (hF.tmp 16 rfl) rfl hby (by omega) (by omega)) ?_; clear hF; intro a hF
  refine l_atg hF ((wanted_of hF rfl rfl rfl rfl).trans (by rw [hb13]; rfl)) rfl rfl (x_conv Tryd.underlying3 ⟨_, Tryd.underlying5⟩ (hF.tmp 17 rfl) (w64 (by have := (hby.gi 0).1; have := (hby.gi 0).2; omega) (by have := (hby.gi 0).1; have := (hby.gi 0).2; omega))) ?_; clear hF; intro a hF
  refine l_atg hF ((wanted_of hF rfl rfl rfl rfl).trans (by rw [hb13]; rfl)) rfl rfl (x_leq (hF.tmp 15 rfl) (hF.tmp 18 rfl)) ?_; clear hF; intro a hF
  refine l_at hF rfl rfl rfl (x_pickF (hF.tmp 13 rfl) hb13 (hF.tmp 19 rfl)) ?_; clear hF; intro a hF
  refine wpList_nil ?_
  refine hK4 _ _ ?_
  refine wp_cond_split (hF.tmp 20 rfl) (fun hc20 => ?_) (fun hc20 => ?_)
  ·have hk20_1 := hc20; try simp only [Bool.or_eq_true, Bool.and_eq_true, Bool.or_eq_false_iff, Bool.and_eq_false_iff, Bool.not_eq_true', Bool.not_eq_false', decide_eq_true_eq, decide_eq_false_iff_not, Bool.not_true, Bool.not_false] at hc20
   have hz := stepF_short (.inr hc20)
   refine wp_seq_k fun khK6 hK6 => ?_
   refine wp_region_lit ?_
   refine l_at hF rfl rfl rfl (x_buildS (cells := #[.int .i64 0, .string (strOfNums []), .string (strOfNums []), .int .i64 0]) (places := #[(0, 1), (1, 1), (2, 1), (3, 1)]) Tryd.underlying53 ty53 (by kernel_rfl) Array.map_empty rfl) ?_; clear hF; intro a hF
   refine wpList_plain rfl fun K hK => ?_
   refine w_storeA 2 hH ty53 rfl (hF.tmp 2 rfl) (hF.tmp 21 rfl) rfl (by simp [Value.cells, Value.oneCell']) rfl ?_
   clear hH; intro w hH
   refine hK _ _ ?_; clear hK K
   refine l_at hF rfl rfl rfl (x_assign rfl) ?_; clear hF; intro a hF
   refine wpList_nil ?_
   refine hK6 _ _ ?_
   refine wp_ret ?_
   try simp only [Exit.then, Exit.inBlock]
   exact fin_ret hF (resct hF rfl rfl rfl (hH.at 2 rfl) ty53 rfl) ⟨((0, [], [], 0) : StepD), by rw [hz] <;> rfl, hH.mods, fun s' h => by rw [hz] at h; cases h⟩
  ·have hk20_2 := hc20; try simp only [Bool.or_eq_true, Bool.and_eq_true, Bool.or_eq_false_iff, Bool.and_eq_false_iff, Bool.not_eq_true', Bool.not_eq_false', decide_eq_true_eq, decide_eq_false_iff_not, Bool.not_true, Bool.not_false] at hc20
   refine wp_skip ?_
   refine hK3 _ _ ?_
   refine wp_seq_k fun khK7 hK7 => ?_
   refine wp_region_lit ?_
   refine l_at hF rfl rfl rfl (x_move (hF.tmp 4 rfl)) ?_; clear hF; intro a hF
   refine l_at hF rfl rfl rfl (x_idxS (xs := x.2) Tryd.underlying9 (hF.tmp 22 rfl) rfl hby (by omega) (by omega)) ?_; clear hF; intro a hF
   refine l_at hF rfl rfl rfl (x_conv Tryd.underlying3 ⟨_, Tryd.underlying5⟩ (hF.tmp 23 rfl) (w64 (by have := (hby.gi 0).1; have := (hby.gi 0).2; omega) (by have := (hby.gi 0).1; have := (hby.gi 0).2; omega))) ?_; clear hF; intro a hF
   refine l_at hF rfl rfl rfl (x_add rfl (hF.tmp 24 rfl) (w64 (by have := (hby.gi 0).1; have := (hby.gi 0).2; omega) (by have := (hby.gi 0).1; have := (hby.gi 0).2; omega))) ?_; clear hF; intro a hF
   refine l_at hF rfl rfl rfl (x_assign (hF.tmp 25 rfl)) ?_; clear hF; intro a hF
   refine wpList_nil ?_
   refine hK7 _ _ ?_
   refine wp_seq_k fun khK8 hK8 => ?_
   refine r_start [(1, .blk b1 (.cells #[.int .i64 x.1, .slice Ax x.2.length cx] 99 (0, 0)))] (by kernel_rfl) hH fun hH => ?_
   have hS : SL [(1, .blk b1 (.cells #[.int .i64 x.1, .slice Ax x.2.length cx] 99 (0, 0)))] _ := SL.of hH (sub_cons (sub_nil _) 1 rfl)
   refine r_take 0 hF rfl rfl rfl (by kernel_rfl) (by kernel_rfl) (by kernel_rfl) (fun _ _ _ h => h) rfl hS (fun w hS => x_faddr Tryd.underlying99 rfl ty3 (by decide) (hF.tmp 1 rfl) rfl) rfl ?_; clear hF; intro a hF
   refine r_take 1 hF rfl rfl rfl (by kernel_rfl) (by kernel_rfl) (by kernel_rfl) (fun _ _ _ h => h) rfl hS (fun w hS => x_load1 ty3 (hF.tmp 26 rfl) (blk_cell (SL.at_ hS 1 rfl) 0 rfl)) rfl ?_; clear hF; intro a hF
   refine r_take 2 hF rfl rfl rfl (by kernel_rfl) (by kernel_rfl) (by kernel_rfl) (fun _ _ _ h => h) rfl hS (fun w hS => x_move (hF.tmp 4 rfl)) rfl ?_; clear hF; intro a hF
   refine r_take 3 hF rfl rfl rfl (by kernel_rfl) (by kernel_rfl) (by kernel_rfl) (fun _ _ _ h => h) rfl hS (fun w hS => x_move (hF.tmp 5 rfl)) rfl ?_; clear hF; intro a hF
   refine r_take 4 hF rfl rfl rfl (by kernel_rfl) (by kernel_rfl) (by kernel_rfl) (fun _ _ _ h => h) rfl hS (fun w hS => x_sliceSlh (xs := x.2) Tryd.underlying9 (hF.tmp 28 rfl) rfl (hF.tmp 29 rfl) (by omega) (by have := (hby.gi 0).1; have := (hby.gi 0).2; omega) (by omega)) rfl ?_; clear hF; intro a hF
   refine r_take 5 hF rfl rfl rfl (by kernel_rfl) (by kernel_rfl) (by kernel_rfl) (fun _ _ _ h => h) rfl hS (fun w hS => x_buildS (cells := #[.int .i64 x.1, .string (strOfNums (keyF x)), .string (strOfNums []), .int .i64 0]) (places := #[(0, 1), (1, 1), (2, 1), (3, 1)]) Tryd.underlying53 ty53 (by kernel_rfl) (by simp only [List.map_toArray, List.map_cons, List.map_nil, hF.tmp 27 rfl, hF.tmp 30 rfl] <;> rfl) rfl) rfl ?_; clear hF; intro a hF
   refine r_do 6 rfl (by kernel_rfl) rfl rfl ?_
   refine w_alloc 6 hF hH rfl ty53 ?_
   clear hF hH; intro a w b6 hF hH
   clear hS; have hS : SL _ _ := SL.of hH (sub_cons (sub_nil _) 1 rfl); refine ⟨hS, ?_⟩
   refine r_do 7 rfl (by kernel_rfl) rfl rfl ?_
   refine w_storeA 6 hH ty53 rfl (hF.tmp 6 rfl) (hF.tmp 31 rfl) rfl (by simp [Value.cells, Value.oneCell']) rfl ?_
   clear hH; intro w hH
   clear hS; have hS : SL _ _ := SL.of hH (sub_cons (sub_nil _) 1 rfl); refine ⟨hS, ?_⟩
   refine r_end (by kernel_rfl) ?_; clear hS
   refine hK8 _ _ ?_
   refine wp_seq_k fun khK9 hK9 => ?_
   refine wp_region_lit ?_
   refine l_at hF rfl rfl rfl (x_assign rfl) ?_; clear hF; intro a hF
   refine wpList_nil ?_
   refine hK9 _ _ ?_
   refine wp_seq_k fun khK10 hK10 => ?_
   refine wp_seq_k fun khK11 hK11 => ?_
   refine wp_region_lit ?_
   refine l_at hF rfl rfl rfl (x_faddr Tryd.underlying53 rfl ty51 (by decide) (hF.tmp 6 rfl) rfl) ?_; clear hF; intro a hF
   refine l_at hF rfl rfl rfl (x_load1 ty51 (hF.tmp 32 rfl) (blk_cell (hH.at 6 rfl) 0 rfl)) ?_; clear hF; intro a hF
   refine l_at hF rfl rfl rfl (x_eql (hF.tmp 33 rfl) rfl) ?_; clear hF; intro a hF
   refine wpList_nil ?_
   refine hK11 _ _ ?_
   refine wp_cond_split (hF.tmp 34 rfl) (fun hc34 => ?_) (fun hc34 => ?_)
   ·have hk34_3 := hc34; try simp only [Bool.or_eq_true, Bool.and_eq_true, Bool.or_eq_false_iff, Bool.and_eq_false_iff, Bool.not_eq_true', Bool.not_eq_false', decide_eq_true_eq, decide_eq_false_iff_not, Bool.not_true, Bool.not_false] at hc34
    refine wp_region_lit ?_
    refine l_at hF rfl rfl rfl (x_move (hF.tmp 4 rfl)) ?_; clear hF; intro a hF
    refine l_at hF rfl rfl rfl (x_move (hF.tmp 5 rfl)) ?_; clear hF; intro a hF
    refine l_at hF rfl rfl rfl (x_sliceSl (xs := x.2) Tryd.underlying9 (hF.tmp 36 rfl) (hF.tmp 37 rfl) (by have := (hby.gi 0).1; have := (hby.gi 0).2; omega) (by omega)) ?_; clear hF; intro a hF
    refine wpList_plain rfl fun K hK => ?_
    refine w_call hF (x_enter Tryd.func119 (by kernel_rfl) rfl (by simp only [List.map_toArray, List.map_cons, List.map_nil, hF.tmp 38 rfl] <;> rfl)) (number_calls _ (hH.holds 990 _ rfl) (by rw [List.length_drop]; omega) (hby.drop _)) rfl rfl ?_
    rintro _ w ⟨vn, rfl, hm_, hvn⟩; refine ⟨_, rfl, ?_⟩; clear hF; intro a hF; have hH := hH.same hm_
    refine hK _ _ ?_; clear hK K
    refine l_at hF rfl rfl rfl (x_move (hF.tmp 39 rfl)) ?_; clear hF; intro a hF
    refine l_at hF rfl rfl rfl (x_extract (hF.tmp 35 rfl) rfl) ?_; clear hF; intro a hF
    refine l_at hF rfl rfl rfl (x_extract (hF.tmp 35 rfl) rfl) ?_; clear hF; intro a hF
    refine l_at hF rfl rfl rfl (x_faddr Tryd.underlying53 rfl ty2 (by decide) (hF.tmp 6 rfl) rfl) ?_; clear hF; intro a hF
    refine wpList_plain rfl fun K hK => ?_
    refine w_store 6 hH ty2 rfl (hF.tmp 42 rfl) (hF.tmp 40 rfl) rfl (one1 rfl rfl) (by first | decide | exact Nat.le_of_ble_eq_true rfl) ?_
    clear hH; intro w hH
    refine hK _ _ ?_; clear hK K
    have hz := stepF_add hc13 hc20 hc34 hvn
    refine l_at hF rfl rfl rfl (x_assign (hF.tmp 41 rfl)) ?_; clear hF; intro a hF
    refine wpList_nil ?_
    refine hK10 _ _ ?_
    refine wp_seq_k fun khK12 hK12 => ?_
    refine r_start [(6, .blk b6 (.cells #[.int .i64 ((x.1, keyF x, [], vn) : StepD).1, .string (strOfNums ((x.1, keyF x, [], vn) : StepD).2.1), .string (strOfNums ((x.1, keyF x, [], vn) : StepD).2.2.1), .int .i64 ((x.1, keyF x, [], vn) : StepD).2.2.2] 53 (0, 0)))] (by kernel_rfl) hH fun hH => ?_
    have hS : SL [(6, .blk b6 (.cells #[.int .i64 ((x.1, keyF x, [], vn) : StepD).1, .string (strOfNums ((x.1, keyF x, [], vn) : StepD).2.1), .string (strOfNums ((x.1, keyF x, [], vn) : StepD).2.2.1), .int .i64 ((x.1, keyF x, [], vn) : StepD).2.2.2] 53 (0, 0)))] _ := SL.of hH (sub_cons (sub_nil _) 6 rfl)
    refine r_take 0 hF rfl rfl rfl (by kernel_rfl) (by kernel_rfl) (by kernel_rfl) (fun _ _ _ h => h) rfl hS (fun w hS => x_loadn ty53 (hF.tmp 6 rfl) rfl (blk_whole (SL.at_ hS 6 rfl))) rfl ?_; clear hF; intro a hF
    refine r_take 1 hF rfl rfl rfl (by kernel_rfl) (by kernel_rfl) (by kernel_rfl) (fun _ _ _ h => h) rfl hS (fun w hS => x_move (hF.tmp 7 rfl)) rfl ?_; clear hF; intro a hF
    refine r_take 2 hF rfl rfl rfl (by kernel_rfl) (by kernel_rfl) (by kernel_rfl) (fun _ _ _ h => h) rfl hS (fun w hS => x_move (hF.tmp 48 rfl)) rfl ?_; clear hF; intro a hF
    refine split_bool hF 49 rfl (fun hb49 => ?_) (fun hb49 => ?_)
    ·have hc49 := hb49; try simp only [Bool.or_eq_true, Bool.and_eq_true, Bool.or_eq_false_iff, Bool.and_eq_false_iff, Bool.not_eq_true', Bool.not_eq_false', decide_eq_true_eq, decide_eq_false_iff_not, Bool.not_true, Bool.not_false] at hc49
     refine r_take 3 hF rfl rfl rfl (by kernel_rfl) (by kernel_rfl) (by kernel_rfl) (fun _ _ _ h => h) ((wanted_of hF rfl rfl rfl rfl).trans (by rw [hb49]; rfl)) hS (fun w hS => x_loadn ty53 (hF.tmp 6 rfl) rfl (blk_whole (SL.at_ hS 6 rfl))) rfl ?_; clear hF; intro a hF
     refine r_do 4 rfl (by kernel_rfl) ((wanted_of hF rfl rfl rfl rfl).trans (by rw [hb49]; rfl)) rfl ?_
     refine w_call hF (x_enter Tryd.func59 (by kernel_rfl) rfl (by simp only [List.map_toArray, List.map_cons, List.map_nil, hF.tmp 50 rfl] <;> rfl)) (right_calls _ ((x.1, keyF x, [], vn) : StepD)) rfl rfl ?_
     rintro _ w ⟨rfl, hm_⟩; refine ⟨_, rfl, ?_⟩; clear hF; intro a hF; have hH := hH.same hm_
     clear hS; have hS : SL _ _ := SL.of hH (sub_cons (sub_nil _) 6 rfl); refine ⟨hS, ?_⟩
     refine r_take 5 hF rfl rfl rfl (by kernel_rfl) (by kernel_rfl) (by kernel_rfl) (fun _ _ _ h => h) rfl hS (fun w hS => x_pickT (hF.tmp 49 rfl) hb49 (hF.tmp 51 rfl)) rfl ?_; clear hF; intro a hF
     refine r_do 6 rfl (by kernel_rfl) rfl rfl ?_
     refine w_storeA 2 hH ty53 rfl (hF.tmp 2 rfl) (hF.tmp 47 rfl) rfl (by simp [Value.cells, Value.oneCell']) rfl ?_
     clear hH; intro w hH
     clear hS; have hS : SL _ _ := SL.of hH (sub_cons (sub_nil _) 6 rfl); refine ⟨hS, ?_⟩
     refine r_take 7 hF rfl rfl rfl (by kernel_rfl) (by kernel_rfl) (by kernel_rfl) (fun _ _ _ h => h) rfl hS (fun w hS => x_assign (hF.tmp 52 rfl)) rfl ?_; clear hF; intro a hF
     refine r_end (by kernel_rfl) ?_; clear hS
     refine hK12 _ _ ?_
     refine wp_ret ?_
     try simp only [Exit.then, Exit.inBlock]
     have hq : (rightS ((x.1, keyF x, [], vn) : StepD)) = (stepF x).isSome := by rw [hz.1]; show _ = ((numI (List.drop (1 + gi x.2 0).toNat x.2)).isSome && _); rw [hb49]; rfl
     exact fin_ret hF (resct (u := .bool (rightS ((x.1, keyF x, [], vn) : StepD))) hF rfl rfl rfl (hH.at 2 rfl) ty53 rfl) ⟨((x.1, keyF x, [], vn) : StepD), by rw [← hq] <;> rfl, hH.mods, hz.2⟩
    ·have hc49 := hb49; try simp only [Bool.or_eq_true, Bool.and_eq_true, Bool.or_eq_false_iff, Bool.and_eq_false_iff, Bool.not_eq_true', Bool.not_eq_false', decide_eq_true_eq, decide_eq_false_iff_not, Bool.not_true, Bool.not_false] at hc49
     refine r_off 3 hF rfl rfl rfl (by kernel_rfl) (by kernel_rfl) (by kernel_rfl) (fun _ _ _ h => h) ((wanted_of hF rfl rfl rfl rfl).trans (by rw [hb49]; rfl)) hS rfl ?_; clear hF; intro a hF
     refine r_off 4 hF rfl rfl rfl (by kernel_rfl) (by kernel_rfl) (by kernel_rfl) (fun _ _ _ h => h) ((wanted_of hF rfl rfl rfl rfl).trans (by rw [hb49]; rfl)) hS rfl ?_; clear hF; intro a hF
     refine r_take 5 hF rfl rfl rfl (by kernel_rfl) (by kernel_rfl) (by kernel_rfl) (fun _ _ _ h => h) rfl hS (fun w hS => x_pickF (hF.tmp 49 rfl) hb49 rfl) rfl ?_; clear hF; intro a hF
     refine r_do 6 rfl (by kernel_rfl) rfl rfl ?_
     refine w_storeA 2 hH ty53 rfl (hF.tmp 2 rfl) (hF.tmp 47 rfl) rfl (by simp [Value.cells, Value.oneCell']) rfl ?_
     clear hH; intro w hH
     clear hS; have hS : SL _ _ := SL.of hH (sub_cons (sub_nil _) 6 rfl); refine ⟨hS, ?_⟩
     refine r_take 7 hF rfl rfl rfl (by kernel_rfl) (by kernel_rfl) (by kernel_rfl) (fun _ _ _ h => h) rfl hS (fun w hS => x_assign (hF.tmp 52 rfl)) rfl ?_; clear hF; intro a hF
     refine r_end (by kernel_rfl) ?_; clear hS
     refine hK12 _ _ ?_
     refine wp_ret ?_
     try simp only [Exit.then, Exit.inBlock]
     have hq : false = (stepF x).isSome := by rw [hz.1]; show _ = ((numI (List.drop (1 + gi x.2 0).toNat x.2)).isSome && _); rw [hb49]; rfl
     exact fin_ret hF (resct (u := .bool false) hF rfl rfl rfl (hH.at 2 rfl) ty53 rfl) ⟨((x.1, keyF x, [], vn) : StepD), by rw [← hq] <;> rfl, hH.mods, hz.2⟩
   ·have hk34_4 := hc34; try simp only [Bool.or_eq_true, Bool.and_eq_true, Bool.or_eq_false_iff, Bool.and_eq_false_iff, Bool.not_eq_true', Bool.not_eq_false', decide_eq_true_eq, decide_eq_false_iff_not, Bool.not_true, Bool.not_false] at hc34
    refine wp_region_lit ?_
    refine l_at hF rfl rfl rfl (x_move (hF.tmp 4 rfl)) ?_; clear hF; intro a hF
    refine l_at hF rfl rfl rfl (x_move (hF.tmp 5 rfl)) ?_; clear hF; intro a hF
    refine l_at hF rfl rfl rfl (x_sliceSl (xs := x.2) Tryd.underlying9 (hF.tmp 43 rfl) (hF.tmp 44 rfl) (by have := (hby.gi 0).1; have := (hby.gi 0).2; omega) (by omega)) ?_; clear hF; intro a hF
    refine l_at hF rfl rfl rfl (x_faddr Tryd.underlying53 rfl ty9 (by decide) (hF.tmp 6 rfl) rfl) ?_; clear hF; intro a hF
    refine wpList_plain rfl fun K hK => ?_
    refine w_store 6 hH ty9 rfl (hF.tmp 46 rfl) (hF.tmp 45 rfl) rfl (one1 rfl rfl) (by first | decide | exact Nat.le_of_ble_eq_true rfl) ?_
    clear hH; intro w hH
    refine hK _ _ ?_; clear hK K
    have hz := stepF_val hc13 hc20 hc34
    refine wpList_nil ?_
    refine hK10 _ _ ?_
    refine wp_seq_k fun khK13 hK13 => ?_
    refine r_start [(6, .blk b6 (.cells #[.int .i64 x.1, .string (strOfNums (keyF x)), .string (strOfNums (restF x)), .int .i64 0] 53 (0, 0)))] (by kernel_rfl) hH fun hH => ?_
    have hS : SL [(6, .blk b6 (.cells #[.int .i64 x.1, .string (strOfNums (keyF x)), .string (strOfNums (restF x)), .int .i64 0] 53 (0, 0)))] _ := SL.of hH (sub_cons (sub_nil _) 6 rfl)
    refine r_take 0 hF rfl rfl rfl (by kernel_rfl) (by kernel_rfl) (by kernel_rfl) (fun _ _ _ h => h) rfl hS (fun w hS => x_loadn ty53 (hF.tmp 6 rfl) rfl (blk_whole (SL.at_ hS 6 rfl))) rfl ?_; clear hF; intro a hF
    refine r_take 1 hF rfl rfl rfl (by kernel_rfl) (by kernel_rfl) (by kernel_rfl) (fun _ _ _ h => h) rfl hS (fun w hS => x_move (hF.tmp 7 rfl)) rfl ?_; clear hF; intro a hF
    refine r_take 2 hF rfl rfl rfl (by kernel_rfl) (by kernel_rfl) (by kernel_rfl) (fun _ _ _ h => h) rfl hS (fun w hS => x_move (hF.tmp 48 rfl)) rfl ?_; clear hF; intro a hF
    refine r_take 3 hF rfl rfl rfl (by kernel_rfl) (by kernel_rfl) (by kernel_rfl) (fun _ _ _ h => h) ((wanted_of hF rfl rfl rfl rfl).trans rfl) hS (fun w hS => x_loadn ty53 (hF.tmp 6 rfl) rfl (blk_whole (SL.at_ hS 6 rfl))) rfl ?_; clear hF; intro a hF
    refine r_do 4 rfl (by kernel_rfl) ((wanted_of hF rfl rfl rfl rfl).trans rfl) rfl ?_
    refine w_call hF (x_enter Tryd.func59 (by kernel_rfl) rfl (by simp only [List.map_toArray, List.map_cons, List.map_nil, hF.tmp 50 rfl] <;> rfl)) (right_calls _ ((x.1, keyF x, restF x, 0) : StepD)) rfl rfl ?_
    rintro _ w ⟨rfl, hm_⟩; refine ⟨_, rfl, ?_⟩; clear hF; intro a hF; have hH := hH.same hm_
    clear hS; have hS : SL _ _ := SL.of hH (sub_cons (sub_nil _) 6 rfl); refine ⟨hS, ?_⟩
    refine r_take 5 hF rfl rfl rfl (by kernel_rfl) (by kernel_rfl) (by kernel_rfl) (fun _ _ _ h => h) rfl hS (fun w hS => x_pickT (hF.tmp 49 rfl) rfl (hF.tmp 51 rfl)) rfl ?_; clear hF; intro a hF
    refine r_do 6 rfl (by kernel_rfl) rfl rfl ?_
    refine w_storeA 2 hH ty53 rfl (hF.tmp 2 rfl) (hF.tmp 47 rfl) rfl (by simp [Value.cells, Value.oneCell']) rfl ?_
    clear hH; intro w hH
    clear hS; have hS : SL _ _ := SL.of hH (sub_cons (sub_nil _) 6 rfl); refine ⟨hS, ?_⟩
    refine r_take 7 hF rfl rfl rfl (by kernel_rfl) (by kernel_rfl) (by kernel_rfl) (fun _ _ _ h => h) rfl hS (fun w hS => x_assign (hF.tmp 52 rfl)) rfl ?_; clear hF; intro a hF
    refine r_end (by kernel_rfl) ?_; clear hS
    refine hK13 _ _ ?_
    refine wp_ret ?_
    try simp only [Exit.then, Exit.inBlock]
    have hq : (rightS ((x.1, keyF x, restF x, 0) : StepD)) = (stepF x).isSome := by exact hz.1.symm
    exact fin_ret hF (resct (u := .bool (rightS ((x.1, keyF x, restF x, 0) : StepD))) hF rfl rfl rfl (hH.at 2 rfl) ty53 rfl) ⟨((x.1, keyF x, restF x, 0) : StepD), by rw [← hq] <;> rfl, hH.mods, hz.2⟩
set_option maxRecDepth 100000 in
set_option maxHeartbeats 1000000 in
theorem adec_calls (w0 : World) (hL : LibAt true w0) {ok : Nat → Prop} {A : Option Addr} {bs : List Int} {c : Nat} (hrb : Rd (.int .u8) w0 ok A bs c) (hby : Byte bs) : Calls Tryd.prog 96 #[.slice A bs.length c] w0 fun e w' => ∃ v, e = .returned (.tuple #[v, .int .i64 (if (adecR bs).isSome then 0 else 12)]) ∧ Mods (fun _ => False) w0 w' ∧ RowOut StE 53 w0 w' v ((adecR bs).getD []) := by
 refine calls_of_wp Tryd.func96 rfl ?_
 have hF := Fr.enter #[.slice A bs.length c] 42 (slotsOf [.slice A bs.length c] 0) (Nat.le_of_ble_eq_true rfl) (fun i v h => by have h2 := (get_slotsOf _ 0 i v h).2; simpa only [List.getElem?_toArray, Nat.sub_zero] using h2)
 have hH := Hp.nil (fun _ => False) w0
 rw [Tryd.ntmps96]
 revert hF; generalize (⟨(#[.slice A bs.length c] : Array Value) ++ Array.replicate (42 - (#[.slice A bs.length c] : Array Value).size) undef, []⟩ : Act) = a; intro hF
 have hH := hH.arg 901 hrb.all (fun _ h => ⟨h, fun h => h⟩)
 have hleb := hrb.le; unfold maxLen at hleb
 have hH := hH.libN 990 hL
 refine wp_seq_k fun khK1 hK1 => ?_
 refine wp_region_lit ?_
 refine l_at hF rfl rfl rfl (x_assign rfl) ?_; clear hF; intro a hF
 refine l_at hF rfl rfl rfl (x_assign rfl) ?_; clear hF; intro a hF
 refine wpList_nil ?_
 refine hK1 _ _ ?_
 refine wp_seq_k fun khK2 hK2 => ?_
 refine wp_region_lit ?_
 refine l_at hF rfl rfl rfl (x_move (hF.tmp 0 rfl)) ?_; clear hF; intro a hF
 refine wpList_plain rfl fun K hK => ?_
 refine w_call hF (x_enter Tryd.func64 (by kernel_rfl) rfl (by simp only [List.map_toArray, List.map_cons, List.map_nil, hF.tmp 12 rfl] <;> rfl)) (dec_calls _ ((hH.rd 901 rfl)) hby) rfl rfl ?_
 rintro _ w ⟨vr41, rfl, hm_, okr41, hr_, hf_, ho41_⟩; refine ⟨_, rfl, ?_⟩; clear hF; intro a hF; have hH := hH.newRow 41 hm_ hr_ hf_ ho41_; obtain ⟨Ar41, cr41, rfl⟩ := (hH.row 41 rfl).form
 refine hK _ _ ?_; clear hK K
 refine l_at hF rfl rfl rfl (x_move (hF.tmp 13 rfl)) ?_; clear hF; intro a hF
 refine l_at hF rfl rfl rfl (x_extract (hF.tmp 11 rfl) rfl) ?_; clear hF; intro a hF
 refine l_at hF rfl rfl rfl (x_extract (hF.tmp 11 rfl) rfl) ?_; clear hF; intro a hF
 refine l_at hF rfl rfl rfl (x_assign (hF.tmp 14 rfl)) ?_; clear hF; intro a hF
 refine l_at hF rfl rfl rfl (x_assign (hF.tmp 15 rfl)) ?_; clear hF; intro a hF
 refine wpList_nil ?_
 refine hK2 _ _ ?_
 refine wp_seq_k fun khK3 hK3 => ?_
 refine wp_seq_k fun khK4 hK4 => ?_
 refine wp_region_lit ?_
 refine l_at hF rfl rfl rfl (x_move (hF.tmp 5 rfl)) ?_; clear hF; intro a hF
 refine l_at hF rfl rfl rfl (x_neq (hF.tmp 16 rfl) rfl) ?_; clear hF; intro a hF
 refine l_at hF rfl rfl rfl (x_move (hF.tmp 17 rfl)) ?_; clear hF; intro a hF
 refine split_bool hF 18 rfl (fun hb18 => ?_) (fun hb18 => ?_)
 ·have hc18 := hb18; try simp only [Bool.or_eq_true, Bool.and_eq_true, Bool.or_eq_false_iff, Bool.and_eq_false_iff, Bool.not_eq_true', Bool.not_eq_false', decide_eq_true_eq, decide_eq_false_iff_not, Bool.not_true, Bool.not_false] at hc18
  have hz : adecR bs = none := adec_none (by cases hd : decR bs with | none => rfl | some l => rw [hd] at hc18; exact absurd rfl hc18)
  refine l_offg hF ((wanted_of hF rfl rfl rfl rfl).trans (by rw [hb18]; rfl)) rfl rfl ?_; clear hF; intro a hF
  refine l_offg hF ((wanted_of hF rfl rfl rfl rfl).trans (by rw [hb18]; rfl)) rfl rfl ?_; clear hF; intro a hF
  refine l_offg hF ((wanted_of hF rfl rfl rfl rfl).trans (by rw [hb18]; rfl)) rfl rfl ?_; clear hF; intro a hF
  refine l_at hF rfl rfl rfl (x_pickT (hF.tmp 18 rfl) hb18 rfl) ?_; clear hF; intro a hF
  refine wpList_nil ?_
  refine hK4 _ _ ?_
  refine wp_cond_true (hF.tmp 22 rfl) ?_
  refine wp_seq_k fun khK5 hK5 => ?_
  refine wp_region_lit ?_
  refine l_at hF rfl rfl rfl (x_assign rfl) ?_; clear hF; intro a hF
  refine l_at hF rfl rfl rfl (x_assign rfl) ?_; clear hF; intro a hF
  refine wpList_nil ?_
  refine hK5 _ _ ?_
  refine wp_ret ?_
  try simp only [Exit.then, Exit.inBlock]
  exact fin_ret hF (res2 hF rfl rfl rfl) ⟨.slice none 0 0, by rw [hz] <;> rfl, hH.mods, by rw [hz]; exact RowOut.nil _ _ _ _⟩
 ·have hc18 := hb18; try simp only [Bool.or_eq_true, Bool.and_eq_true, Bool.or_eq_false_iff, Bool.and_eq_false_iff, Bool.not_eq_true', Bool.not_eq_false', decide_eq_true_eq, decide_eq_false_iff_not, Bool.not_true, Bool.not_false] at hc18
  obtain ⟨dl, hdl⟩ := dec_zero hc18
  refine l_atg hF ((wanted_of hF rfl rfl rfl rfl).trans (by rw [hb18]; rfl)) rfl rfl (x_move (hF.tmp 4 rfl)) ?_; clear hF; intro a hF
  refine l_atg hF ((wanted_of hF rfl rfl rfl rfl).trans (by rw [hb18]; rfl)) rfl rfl (x_len_slice Tryd.underlying100 (hF.tmp 19 rfl)) ?_; clear hF; intro a hF
  refine l_atg hF ((wanted_of hF rfl rfl rfl rfl).trans (by rw [hb18]; rfl)) rfl rfl (x_gtr (hF.tmp 20 rfl) rfl) ?_; clear hF; intro a hF
  refine l_at hF rfl rfl rfl (x_pickF (hF.tmp 18 rfl) hb18 (hF.tmp 21 rfl)) ?_; clear hF; intro a hF
  refine wpList_nil ?_
  refine hK4 _ _ ?_
  refine wp_cond_split (hF.tmp 22 rfl) (fun hc22 => ?_) (fun hc22 => ?_)
  ·have hk22_1 := hc22; try simp only [Bool.or_eq_true, Bool.and_eq_true, Bool.or_eq_false_iff, Bool.and_eq_false_iff, Bool.not_eq_true', Bool.not_eq_false', decide_eq_true_eq, decide_eq_false_iff_not, Bool.not_true, Bool.not_false] at hc22
   have hz := adec_many hdl (by rw [hdl] at hc22; exact hc22)
   refine wp_seq_k fun khK6 hK6 => ?_
   refine wp_region_lit ?_
   refine l_at hF rfl rfl rfl (x_assign rfl) ?_; clear hF; intro a hF
   refine l_at hF rfl rfl rfl (x_assign rfl) ?_; clear hF; intro a hF
   refine wpList_nil ?_
   refine hK6 _ _ ?_
   refine wp_ret ?_
   try simp only [Exit.then, Exit.inBlock]
   exact fin_ret hF (res2 hF rfl rfl rfl) ⟨.slice none 0 0, by rw [hz] <;> rfl, hH.mods, by rw [hz]; exact RowOut.nil _ _ _ _⟩
  ·have hk22_2 := hc22; try simp only [Bool.or_eq_true, Bool.and_eq_true, Bool.or_eq_false_iff, Bool.and_eq_false_iff, Bool.not_eq_true', Bool.not_eq_false', decide_eq_true_eq, decide_eq_false_iff_not, Bool.not_true, Bool.not_false] at hc22
   have h4 : ¬ 4 < (dl.length : Int) := by rw [hdl] at hc22; exact hc22
   have hsm : ∀ x ∈ dl, x.2.length ≤ 2000 := fun x hx => (okF_parts (List.all_eq_true.1 (enc_parts (enc_dec hby hdl)).1 x hx)).2.2
   refine wp_skip ?_
   refine hK3 _ _ ?_
   refine wp_seq_k fun khK7 hK7 => ?_
   refine wp_region_lit ?_
   refine l_at hF rfl rfl rfl (x_assign rfl) ?_; clear hF; intro a hF
   rw [hdl, Option.getD_some] at hF hH
   have hH := hH.freeze 41 rfl (fun kb => okr41 kb ∨ (Value.slice Ar41 dl.length cr41).ownBlock = some kb) (fun kb => Iff.rfl)
   have hH := hH.row0 6 StE 53
   refine wpList_nil ?_
   refine hK7 _ _ ?_
   refine wp_seq_k fun khK8 hK8 => ?_
   refine wp_seq_k fun khK9 hK9 => ?_
   refine wp_region_lit ?_
   refine l_at hF rfl rfl rfl (x_move (hF.tmp 4 rfl)) ?_; clear hF; intro a hF
   refine l_at hF rfl rfl rfl (x_len_slice Tryd.underlying100 (hF.tmp 23 rfl)) ?_; clear hF; intro a hF
   refine l_at hF rfl rfl rfl (x_move rfl) ?_; clear hF; intro a hF
   refine wpList_nil ?_
   refine hK9 _ _ ?_
   refine wp_block ?_
   refine wp_loop_ghost (fun n_ a w => ∃ k : Nat, ∃ out : List StepD, ∃ v6 : Value, n_ = dl.length - k ∧ (k ≤ dl.length) ∧ (stepsF (dl.take k) = some out) ∧ Fr 42 a [(6, v6), (23, .slice Ar41 dl.length cr41), (24, .int .i64 (dl.length : Int)), (25, .int .i64 (k : Int))] ∧ Hp (fun _ => False) w0 w [(901, .rd_ (.int .u8) A bs c (fun k => k < w0.heap.size)), (990, .lib true), (41, .rd_ FE Ar41 dl cr41 (fun kb => okr41 kb ∨ (Value.slice Ar41 dl.length cr41).ownBlock = some kb)), (6, .row StE 53 v6 out (fun _ => False))]) (dl.length) ?_ ?_
   ·exact ⟨0, [], .slice none 0 0, rfl, by omega, rfl, ((((hF.bare.add hF 25 rfl).add hF 24 rfl).add hF 23 rfl).add hF 6 rfl), hH.sub _ (sub_cons (sub_cons (sub_cons (sub_cons (sub_nil _) 6 rfl) 41 rfl) 990 rfl) 901 rfl)⟩
   ·rintro _ a w ⟨k, out, v6, rfl, hq0_0, hq0_1, hF, hH⟩
    refine wp_seq_k fun khK10 hK10 => ?_
    refine wp_region_lit ?_
    refine l_at hF rfl rfl rfl (x_lss (hF.tmp 25 rfl) (hF.tmp 24 rfl)) ?_; clear hF; intro a hF
    refine wpList_nil ?_
    refine hK10 _ _ ?_
    refine wp_seq_k fun khK11 hK11 => ?_
    refine wp_cond_split (hF.tmp 26 rfl) (fun hc26 => ?_) (fun hc26 => ?_)
    ·have hk26_3 := hc26; try simp only [Bool.or_eq_true, Bool.and_eq_true, Bool.or_eq_false_iff, Bool.and_eq_false_iff, Bool.not_eq_true', Bool.not_eq_false', decide_eq_true_eq, decide_eq_false_iff_not, Bool.not_true, Bool.not_false] at hc26
     refine wp_skip ?_
     refine hK11 _ _ ?_
     refine wp_seq_k fun khK12 hK12 => ?_
     refine wp_block ?_
     refine wp_seq_k fun khK13 hK13 => ?_
     refine wp_region_lit ?_
     obtain ⟨fA1, fc1, hfr1, hf1_0, hf1_1, hfw1⟩ := Rd.fld ((hH.rd 41 rfl)) (gf_some (xs := dl) (i := (k : Int)) (by omega) (by omega))
     have hH := hH.subrd 41 rfl 1001 hfr1 (fun _ h => h)
     have hH := hH.subcels 41 rfl 1499 hfw1 (Rd.inok ((hH.rd 41 rfl)) (by omega) _)
     have hH := hH.subcel 41 rfl 1500 hf1_0 (Rd.inok ((hH.rd 41 rfl)) (by omega) _)
     have hH := hH.subcel 41 rfl 1501 hf1_1 (Rd.inok ((hH.rd 41 rfl)) (by omega) _)
     have hmem : (gf dl (k : Int)) ∈ dl := List.mem_of_getElem? (gf_some (xs := dl) (i := (k : Int)) (by omega) (by omega))
     refine l_at hF rfl rfl rfl (x_iaddr_A Tryd.underlying100 ty99 ((hH.rd 41 rfl)) (hF.tmp 23 rfl) (hF.tmp 25 rfl) (by omega) (by omega) _) ?_; clear hF; intro a hF
     refine l_at hF rfl rfl rfl (x_loadn ty99 (hF.tmp 27 rfl) rfl (hH.holds 1499 _ rfl)) ?_; clear hF; intro a hF
     refine wpList_plain rfl fun K hK => ?_
     refine w_alloc 8 hF hH rfl ty99 ?_
     clear hF hH; intro a w b8 hF hH
     refine hK _ _ ?_; clear hK K
     refine wpList_plain rfl fun K hK => ?_
     refine w_storeA 8 hH ty99 rfl (hF.tmp 8 rfl) (hF.tmp 28 rfl) rfl (by simp [Value.cells, Value.oneCell']) rfl ?_
     clear hH; intro w hH
     refine hK _ _ ?_; clear hK K
     refine wpList_nil ?_
     refine hK13 _ _ ?_
     refine wp_seq_k fun khK14 hK14 => ?_
     refine wp_region_lit ?_
     refine l_at hF rfl rfl rfl (x_loadn ty99 (hF.tmp 8 rfl) rfl (blk_whole (hH.at 8 rfl))) ?_; clear hF; intro a hF
     refine wpList_plain rfl fun K hK => ?_
     refine w_call hF (x_enter Tryd.func108 (by kernel_rfl) rfl (by simp only [List.map_toArray, List.map_cons, List.map_nil, hF.tmp 30 rfl] <;> rfl)) (step_calls _ (hH.holds 990 _ rfl) (hH.rd 1001 rfl) (by have := hsm (gf dl (k : Int)) hmem; omega) (fld_bytes hby hdl _ hmem)) rfl rfl ?_
     rintro _ w ⟨s, rfl, hm_, hvs⟩; refine ⟨_, rfl, ?_⟩; clear hF; intro a hF; have hH := hH.same hm_
     refine hK _ _ ?_; clear hK K
     refine l_at hF rfl rfl rfl (x_move (hF.tmp 31 rfl)) ?_; clear hF; intro a hF
     refine l_at hF rfl rfl rfl (x_extract (hF.tmp 29 rfl) rfl) ?_; clear hF; intro a hF
     refine l_at hF rfl rfl rfl (x_extract (hF.tmp 29 rfl) rfl) ?_; clear hF; intro a hF
     refine wpList_plain rfl fun K hK => ?_
     refine w_alloc 9 hF hH rfl ty53 ?_
     clear hF hH; intro a w b9 hF hH
     refine hK _ _ ?_; clear hK K
     refine wpList_plain rfl fun K hK => ?_
     refine w_storeA 9 hH ty53 rfl (hF.tmp 9 rfl) (hF.tmp 32 rfl) rfl (by simp [Value.cells, Value.oneCell']) rfl ?_
     clear hH; intro w hH
     refine hK _ _ ?_; clear hK K
     refine l_at hF rfl rfl rfl (x_assign (hF.tmp 33 rfl)) ?_; clear hF; intro a hF
     refine wpList_nil ?_
     refine hK14 _ _ ?_
     refine wp_seq_k fun khK15 hK15 => ?_
     refine wp_seq_k fun khK16 hK16 => ?_
     refine wp_region_lit ?_
     refine l_at hF rfl rfl rfl (x_move (hF.tmp 10 rfl)) ?_; clear hF; intro a hF
     refine l_at hF rfl rfl rfl (x_not (hF.tmp 34 rfl)) ?_; clear hF; intro a hF
     refine wpList_nil ?_
     refine hK16 _ _ ?_
     refine wp_cond_split (hF.tmp 35 rfl) (fun hc35 => ?_) (fun hc35 => ?_)
     ·have hk35_4 := hc35; try simp only [Bool.or_eq_true, Bool.and_eq_true, Bool.or_eq_false_iff, Bool.and_eq_false_iff, Bool.not_eq_true', Bool.not_eq_false', decide_eq_true_eq, decide_eq_false_iff_not, Bool.not_true, Bool.not_false] at hc35
      have hz : adecR bs = none := (adec_is hdl h4).trans (dec_stop hc26 (by simpa using hc35))
      refine wp_seq_k fun khK17 hK17 => ?_
      refine wp_region_lit ?_
      refine l_at hF rfl rfl rfl (x_assign rfl) ?_; clear hF; intro a hF
      refine l_at hF rfl rfl rfl (x_assign rfl) ?_; clear hF; intro a hF
      refine wpList_nil ?_
      refine hK17 _ _ ?_
      refine wp_ret ?_
      try simp only [Exit.then, Exit.inBlock]
      exact fin_ret hF (res2 hF rfl rfl rfl) ⟨.slice none 0 0, by rw [hz] <;> rfl, hH.mods, by rw [hz]; exact RowOut.nil _ _ _ _⟩
     ·have hk35_5 := hc35; try simp only [Bool.or_eq_true, Bool.and_eq_true, Bool.or_eq_false_iff, Bool.and_eq_false_iff, Bool.not_eq_true', Bool.not_eq_false', decide_eq_true_eq, decide_eq_false_iff_not, Bool.not_true, Bool.not_false] at hc35
      obtain ⟨s2, hs2⟩ := Option.isSome_iff_exists.1 (show (stepF (gf dl (k : Int))).isSome = true by simpa using hc35)
      obtain rfl := hvs s2 hs2
      have hnx := dec_loop hc26 hq0_1 hs2
      refine wp_skip ?_
      refine hK15 _ _ ?_
      refine wp_region_lit ?_
      refine l_at hF rfl rfl rfl (x_move (hF.tmp 6 rfl)) ?_; clear hF; intro a hF
      refine l_at hF rfl rfl rfl (x_loadn ty53 (hF.tmp 9 rfl) rfl (blk_whole (hH.at 9 rfl))) ?_; clear hF; intro a hF
      refine wpList_plain rfl fun K hK => ?_
      refine w_lit1 38 StE s #[.int .i64 s.1, .string (strOfNums s.2.1), .string (strOfNums s.2.2.1), .int .i64 s.2.2.2] (fun _ => False) hF hH rfl Tryd.underlying37 ty53 (by simp only [List.map_toArray, List.map_cons, List.map_nil, hF.tmp 37 rfl] <;> rfl) (by decide) (by kernel_rfl) (st_mk (s : StepD)) (fun kb hk => hk.elim) ?_
      clear hF hH; intro a w b38 hF hb38_ hH
      refine hK _ _ ?_; clear hK K
      refine wpList_plain rfl fun K hK => ?_
      refine w_append 6 38 (xs := out) (ys := ([s])) hF hH rfl Tryd.underlying37 ty53 rfl rfl rfl rfl ((hH.rd 38 rfl)) (by intro k_ hk_; exact .inr hk_) (hF.tmp 36 rfl) (hF.tmp 38 rfl) (by have := stepsF_len hq0_1; rw [List.length_take] at this; simp only [List.length_cons, List.length_nil] at *; omega) (by have := stepsF_len hq0_1; rw [List.length_take] at this; simp only [List.length_cons, List.length_nil, maxLen] at *; omega) (fun _ => False) (fun w' v' h => st_any h) (fun k_ hk_ => hk_.elim) ?_
      clear hF hH; intro a w v39 hF hH
      refine hK _ _ ?_; clear hK K
      refine l_at hF rfl rfl rfl (x_assign (hF.tmp 39 rfl)) ?_; clear hF; intro a hF
      refine wpList_nil ?_
      refine hK12 _ _ ?_
      refine wp_region_lit ?_
      refine l_at hF rfl rfl rfl (x_add (hF.tmp 25 rfl) rfl (w64 (by omega) (by omega))) ?_; clear hF; intro a hF
      refine l_at hF rfl rfl rfl (x_move (hF.tmp 40 rfl)) ?_; clear hF; intro a hF
      refine wpList_nil ?_
      exact ⟨_, by omega, ⟨k + 1, out ++ [s], v39, rfl, by omega, hnx, ((((hF.bare.add hF 25 rfl).add hF 24 rfl).add hF 23 rfl).add hF 6 rfl), hH.sub _ (sub_cons (sub_cons (sub_cons (sub_cons (sub_nil _) 6 rfl) 41 rfl) 990 rfl) 901 rfl)⟩⟩
    ·have hk26_6 := hc26; try simp only [Bool.or_eq_true, Bool.and_eq_true, Bool.or_eq_false_iff, Bool.and_eq_false_iff, Bool.not_eq_true', Bool.not_eq_false', decide_eq_true_eq, decide_eq_false_iff_not, Bool.not_true, Bool.not_false] at hc26
     obtain rfl : k = dl.length := by omega
     rw [List.take_length] at hq0_1
     have hz : adecR bs = some out := (adec_is hdl h4).trans hq0_1
     refine wp_exit ?_
     refine hK8 _ _ ?_
     refine wp_seq_k fun khK18 hK18 => ?_
     refine wp_region_lit ?_
     refine l_at hF rfl rfl rfl (x_move (hF.tmp 6 rfl)) ?_; clear hF; intro a hF
     refine l_at hF rfl rfl rfl (x_assign (hF.tmp 41 rfl)) ?_; clear hF; intro a hF
     refine l_at hF rfl rfl rfl (x_assign rfl) ?_; clear hF; intro a hF
     refine wpList_nil ?_
     refine hK18 _ _ ?_
     refine wp_ret ?_
     try simp only [Exit.then, Exit.inBlock]
     exact fin_ret hF (res2 hF rfl rfl rfl) ⟨v6, by rw [hz] <;> rfl, hH.mods, by rw [hz]; exact Hp.out hH 6 rfl⟩
end Go.Proofs.YtiiklnghnifmjaaDoor.Act
