/- crc's walks. -/
import Derived.Test.YtiiklnghnifmjaaDoorCrcDZu
import Derived.Test.YtiiklnghnifmjaaDoorProg
set_option linter.unusedVariables false
set_option linter.unusedSimpArgs false
namespace Go.Proofs.YtiiklnghnifmjaaDoor.Crc
open Go.RowKit Go.Proofs.YtiiklnghnifmjaaDoor.Sx
theorem ty5 : TyI Tryd.prog 5 (.int .u8 0) 1 1 false := ⟨by kernel_rfl, _, Tryd.underlying5, rfl⟩
theorem ty102 : TyI Tryd.prog 102 (.int .u32 0) 1 4 false := ⟨by kernel_rfl, _, Tryd.underlying102, rfl⟩
theorem ty163 : TyI Tryd.prog 163 (.agg #[.int .u32 0, .int .u32 0, .int .u32 0, .int .u32 0, .int .u32 0, .int .u32 0, .int .u32 0, .int .u32 0, .int .u32 0, .int .u32 0, .int .u32 0, .int .u32 0, .int .u32 0, .int .u32 0, .int .u32 0, .int .u32 0]) 16 64 true := ⟨by kernel_rfl, _, Tryd.underlying163, rfl⟩
set_option maxRecDepth 100000 in
set_option maxHeartbeats 1000000 in
theorem table_calls (w0 : World) : Calls Tryd.prog 102 #[] w0 fun e w' => e = .returned (.agg (tabArr 16)) ∧ Mods (fun _ => False) w0 w' := by
 refine calls_of_wp Tryd.func102 rfl ?_
 have hF := Fr.enter #[] 23 (slotsOf [] 0) (Nat.le_of_ble_eq_true rfl) (fun i v h => by have h2 := (get_slotsOf _ 0 i v h).2; simpa only [List.getElem?_toArray, Nat.sub_zero] using h2)
 have hH := Hp.nil (fun _ => False) w0
 rw [Tryd.ntmps102]
 revert hF; generalize (⟨(#[] : Array Value) ++ Array.replicate (23 - (#[] : Array Value).size) undef, []⟩ : Act) = a; intro hF
 refine wp_seq_k fun khK1 hK1 => ?_
 refine wp_region_lit ?_
 refine wpList_plain rfl fun K hK => ?_
 refine w_alloc 0 hF hH rfl ty163 ?_
 clear hF hH; intro a w b0 hF hH
 refine hK _ _ ?_; clear hK K
 refine wpList_nil ?_
 refine hK1 _ _ ?_
 refine wp_seq_k fun khK2 hK2 => ?_
 refine wp_region_lit ?_
 refine wpList_plain rfl fun K hK => ?_
 refine w_alloc 1 hF hH rfl ty163 ?_
 clear hF hH; intro a w b1 hF hH
 refine hK _ _ ?_; clear hK K
 refine wpList_nil ?_
 refine hK2 _ _ ?_
 refine wp_seq_k fun khK3 hK3 => ?_
 refine wp_seq_k fun khK4 hK4 => ?_
 refine wp_region_lit ?_
 refine l_at hF rfl rfl rfl (x_move rfl) ?_; clear hF; intro a hF
 refine wpList_nil ?_
 refine hK4 _ _ ?_
 refine wp_block ?_
 refine wp_loop_ghost (fun n_ a w => ∃ k : Nat, n_ = 16 - k ∧ (k ≤ 16) ∧ Fr 23 a [(0, .pointer (some ⟨b0, 0, none⟩)), (1, .pointer (some ⟨b1, 0, none⟩)), (4, .int .u32 (k : Int))] ∧ Hp (fun _ => False) w0 w [(0, .blk b0 (.cells tabZ 163 (0, 0))), (1, .blk b1 (.cells (tabArr k) 163 (0, 0)))]) (16) ?_ ?_
 ·exact ⟨0, rfl, by omega, (((hF.bare.add hF 4 rfl).add hF 1 rfl).add hF 0 rfl), hH.sub _ (sub_cons (sub_cons (sub_nil _) 1 rfl) 0 rfl)⟩
 ·rintro _ a w ⟨k, rfl, hq0_0, hF, hH⟩
  refine wp_seq_k fun khK5 hK5 => ?_
  refine wp_region_lit ?_
  refine l_at hF rfl rfl rfl (x_lss (hF.tmp 4 rfl) rfl) ?_; clear hF; intro a hF
  refine wpList_nil ?_
  refine hK5 _ _ ?_
  refine wp_seq_k fun khK6 hK6 => ?_
  refine wp_cond_split (hF.tmp 5 rfl) (fun hc5 => ?_) (fun hc5 => ?_)
  ·have hk5_1 := hc5; try simp only [Bool.or_eq_true, Bool.and_eq_true, Bool.or_eq_false_iff, Bool.and_eq_false_iff, Bool.not_eq_true', Bool.not_eq_false', decide_eq_true_eq, decide_eq_false_iff_not, Bool.not_true, Bool.not_false] at hc5
   refine wp_skip ?_
   refine hK6 _ _ ?_
   refine wp_seq_k fun khK7 hK7 => ?_
   refine wp_block ?_
   refine wp_seq_k fun khK8 hK8 => ?_
   refine wp_region_lit ?_
   refine l_at hF rfl rfl rfl (x_move (hF.tmp 4 rfl)) ?_; clear hF; intro a hF
   refine l_at hF rfl rfl rfl (x_assign (hF.tmp 6 rfl)) ?_; clear hF; intro a hF
   refine wpList_nil ?_
   refine hK8 _ _ ?_
   refine wp_seq_k fun khK9 hK9 => ?_
   refine wp_region_lit ?_
   refine l_at hF rfl rfl rfl (x_move (hF.tmp 2 rfl)) ?_; clear hF; intro a hF
   refine l_at hF rfl rfl rfl (x_assign (hF.tmp 7 rfl)) ?_; clear hF; intro a hF
   refine wpList_nil ?_
   refine hK9 _ _ ?_
   refine wp_seq_k fun khK10 hK10 => ?_
   refine wp_seq_k fun khK11 hK11 => ?_
   refine wp_region_lit ?_
   refine l_at hF rfl rfl rfl (x_move rfl) ?_; clear hF; intro a hF
   refine wpList_nil ?_
   refine hK11 _ _ ?_
   refine wp_block ?_
   refine wp_loop_ghost (fun n_ a w => ∃ i : Nat, n_ = 4 - i ∧ (i ≤ 4) ∧ Fr 23 a [(0, .pointer (some ⟨b0, 0, none⟩)), (1, .pointer (some ⟨b1, 0, none⟩)), (2, .int .u32 (k : Int)), (3, .int .u32 (stp i k)), (4, .int .u32 (k : Int)), (8, .int .i64 (i : Int))] ∧ Hp (fun _ => False) w0 w [(0, .blk b0 (.cells tabZ 163 (0, 0))), (1, .blk b1 (.cells (tabArr k) 163 (0, 0)))]) (4) ?_ ?_
   ·exact ⟨0, rfl, by omega, ((((((hF.bare.add hF 8 rfl).add hF 4 rfl).add hF 3 rfl).add hF 2 rfl).add hF 1 rfl).add hF 0 rfl), hH.sub _ (sub_cons (sub_cons (sub_nil _) 1 rfl) 0 rfl)⟩
   ·rintro _ a w ⟨i, rfl, hq2_0, hF, hH⟩
    refine wp_seq_k fun khK12 hK12 => ?_
    refine wp_region_lit ?_
    refine l_at hF rfl rfl rfl (x_lss (hF.tmp 8 rfl) rfl) ?_; clear hF; intro a hF
    refine wpList_nil ?_
    refine hK12 _ _ ?_
    refine wp_seq_k fun khK13 hK13 => ?_
    refine wp_cond_split (hF.tmp 9 rfl) (fun hc9 => ?_) (fun hc9 => ?_)
    ·have hk9_2 := hc9; try simp only [Bool.or_eq_true, Bool.and_eq_true, Bool.or_eq_false_iff, Bool.and_eq_false_iff, Bool.not_eq_true', Bool.not_eq_false', decide_eq_true_eq, decide_eq_false_iff_not, Bool.not_true, Bool.not_false] at hc9
     refine wp_skip ?_
     refine hK13 _ _ ?_
     refine wp_seq_k fun khK14 hK14 => ?_
     refine wp_block ?_
     refine wp_region_lit ?_
     refine l_at hF rfl rfl rfl (x_move (hF.tmp 3 rfl)) ?_; clear hF; intro a hF
     refine l_at hF rfl rfl rfl (x_shr (hF.tmp 10 rfl) rfl (by omega) rfl) ?_; clear hF; intro a hF
     refine l_at hF rfl rfl rfl (x_move (hF.tmp 3 rfl)) ?_; clear hF; intro a hF
     refine l_at hF rfl rfl rfl (x_bits (by simp) (hF.tmp 12 rfl) rfl rfl) ?_; clear hF; intro a hF
     refine l_at hF rfl rfl rfl (x_neg (hF.tmp 13 rfl) rfl) ?_; clear hF; intro a hF
     refine l_at hF rfl rfl rfl (x_bits (by simp) (hF.tmp 14 rfl) rfl rfl) ?_; clear hF; intro a hF
     refine l_at hF rfl rfl rfl (x_bits (by simp) (hF.tmp 11 rfl) (hF.tmp 15 rfl) rfl) ?_; clear hF; intro a hF
     refine l_at hF rfl rfl rfl (x_assign (hF.tmp 16 rfl)) ?_; clear hF; intro a hF
     refine wpList_nil ?_
     refine hK14 _ _ ?_
     refine wp_region_lit ?_
     refine l_at hF rfl rfl rfl (x_add (hF.tmp 8 rfl) rfl (w64 (by omega) (by omega))) ?_; clear hF; intro a hF
     refine l_at hF rfl rfl rfl (x_move (hF.tmp 17 rfl)) ?_; clear hF; intro a hF
     refine wpList_nil ?_
     exact ⟨_, by omega, ⟨i + 1, rfl, by omega, ((((((hF.bare.add hF 8 rfl).add hF 4 rfl).add hF 3 rfl).add hF 2 rfl).add hF 1 rfl).add hF 0 rfl), hH.sub _ (sub_cons (sub_cons (sub_nil _) 1 rfl) 0 rfl)⟩⟩
    ·have hk9_3 := hc9; try simp only [Bool.or_eq_true, Bool.and_eq_true, Bool.or_eq_false_iff, Bool.and_eq_false_iff, Bool.not_eq_true', Bool.not_eq_false', decide_eq_true_eq, decide_eq_false_iff_not, Bool.not_true, Bool.not_false] at hc9
     obtain rfl : i = 4 := by omega
     refine wp_exit ?_
     refine hK10 _ _ ?_
     refine wp_region_lit ?_
     refine l_at hF rfl rfl rfl (x_move (hF.tmp 2 rfl)) ?_; clear hF; intro a hF
     refine l_at hF rfl rfl rfl (x_move (hF.tmp 3 rfl)) ?_; clear hF; intro a hF
     refine l_at hF rfl rfl rfl (x_iaddr_arr Tryd.underlying163 ty102 (hF.tmp 1 rfl) (hF.tmp 18 rfl) (by omega) (by omega)) ?_; clear hF; intro a hF
     refine wpList_plain rfl fun K hK => ?_
     refine w_store 1 hH ty102 rfl (hF.tmp 20 rfl) (hF.tmp 19 rfl) rfl (one1 rfl rfl) (by rw [tabArr_size]; omega) ?_
     clear hH; intro w hH
     refine hK _ _ ?_; clear hK K
     refine wpList_nil ?_
     refine hK7 _ _ ?_
     refine wp_region_lit ?_
     refine l_at hF rfl rfl rfl (x_add (hF.tmp 4 rfl) rfl (wu32 (by omega) (by omega))) ?_; clear hF; intro a hF
     refine l_at hF rfl rfl rfl (x_move (hF.tmp 21 rfl)) ?_; clear hF; intro a hF
     refine wpList_nil ?_
     have hstep : Hp (fun _ => False) w0 w [(0, .blk b0 (.cells tabZ 163 (0, 0))), (1, .blk b1 (.cells (tabArr (k + 1)) 163 (0, 0)))] := by
      have h2 : Hp (fun _ => False) w0 w [(0, .blk b0 (.cells tabZ 163 (0, 0))), (1, .blk b1 (.cells (spl (tabArr k) (0 + (k : Int).toNat * 1) #[.int .u32 (stp 4 k)]) 163 (0, 0)))] := hH.sub _ (sub_cons (sub_cons (sub_nil _) 1 rfl) 0 rfl)
      rwa [tab_step k hc5] at h2
     exact ⟨_, by omega, ⟨k + 1, rfl, by omega, (((hF.bare.add hF 4 rfl).add hF 1 rfl).add hF 0 rfl), hstep⟩⟩
  ·have hk5_4 := hc5; try simp only [Bool.or_eq_true, Bool.and_eq_true, Bool.or_eq_false_iff, Bool.and_eq_false_iff, Bool.not_eq_true', Bool.not_eq_false', decide_eq_true_eq, decide_eq_false_iff_not, Bool.not_true, Bool.not_false] at hc5
   obtain rfl : k = 16 := by omega
   refine wp_exit ?_
   refine hK3 _ _ ?_
   refine wp_seq_k fun khK15 hK15 => ?_
   refine wp_region_lit ?_
   refine l_at hF rfl rfl rfl (x_loadn ty163 (hF.tmp 1 rfl) (tabArr_size 16) (blk_whole (hH.at 1 rfl))) ?_; clear hF; intro a hF
   refine wpList_plain rfl fun K hK => ?_
   refine w_storeA 0 hH ty163 rfl (hF.tmp 0 rfl) (hF.tmp 22 rfl) (tabArr_size 16) (tab_one 16) rfl ?_
   clear hH; intro w hH
   refine hK _ _ ?_; clear hK K
   refine wpList_nil ?_
   refine hK15 _ _ ?_
   refine wp_ret ?_
   try simp only [Exit.then, Exit.inBlock]
   exact fin_ret hF (resc hF rfl rfl (hH.at 0 rfl) ty163 (tabArr_size 16)) ⟨rfl, hH.mods⟩
set_option maxRecDepth 100000 in
set_option maxHeartbeats 1000000 in
theorem more_calls (w0 : World) (sum : Int) {ok : Nat → Prop} {A : Option Addr} {xs : List Int} {c : Nat} (hr : Rd (.int .u8) w0 ok A xs c) : Calls Tryd.prog 76 #[.int .u32 sum, .slice A xs.length c] w0 fun e w' => e = .returned (.int .u32 (moreI sum xs)) ∧ Mods (fun _ => False) w0 w' := by
 refine calls_of_wp Tryd.func76 rfl ?_
 have hF := Fr.enter #[.int .u32 sum, .slice A xs.length c] 39 (slotsOf [.int .u32 sum, .slice A xs.length c] 0) (Nat.le_of_ble_eq_true rfl) (fun i v h => by have h2 := (get_slotsOf _ 0 i v h).2; simpa only [List.getElem?_toArray, Nat.sub_zero] using h2)
 have hH := Hp.nil (fun _ => False) w0
 rw [Tryd.ntmps76]
 revert hF; generalize (⟨(#[.int .u32 sum, .slice A xs.length c] : Array Value) ++ Array.replicate (39 - (#[.int .u32 sum, .slice A xs.length c] : Array Value).size) undef, []⟩ : Act) = a; intro hF
 have hH := hH.arg 901 hr.all (fun _ h => ⟨h, fun h => h⟩)
 have hle := hr.le; unfold maxLen at hle
 refine wp_seq_k fun khK1 hK1 => ?_
 refine wp_region_lit ?_
 refine l_at hF rfl rfl rfl (x_assign rfl) ?_; clear hF; intro a hF
 refine wpList_nil ?_
 refine hK1 _ _ ?_
 refine wp_seq_k fun khK2 hK2 => ?_
 refine wp_region_lit ?_
 refine wpList_plain rfl fun K hK => ?_
 refine w_call hF (x_enter Tryd.func102 (by kernel_rfl) rfl (by simp only [List.map_toArray, List.map_cons, List.map_nil] <;> rfl)) (table_calls _) rfl rfl ?_
 rintro _ w ⟨rfl, hm_⟩; refine ⟨_, rfl, ?_⟩; clear hF; intro a hF; have hH := hH.same hm_
 refine hK _ _ ?_; clear hK K
 refine wpList_plain rfl fun K hK => ?_
 refine w_alloc 5 hF hH rfl ty163 ?_
 clear hF hH; intro a w b5 hF hH
 refine hK _ _ ?_; clear hK K
 refine wpList_plain rfl fun K hK => ?_
 refine w_storeA 5 hH ty163 rfl (hF.tmp 5 rfl) (hF.tmp 9 rfl) (tabArr_size 16) (tab_one 16) rfl ?_
 clear hH; intro w hH
 refine hK _ _ ?_; clear hK K
 refine wpList_nil ?_
 refine hK2 _ _ ?_
 refine wp_seq_k fun khK3 hK3 => ?_
 refine wp_region_lit ?_
 refine l_at hF rfl rfl rfl (x_move (hF.tmp 0 rfl)) ?_; clear hF; intro a hF
 refine l_at hF rfl rfl rfl (x_cpl (hF.tmp 10 rfl) rfl) ?_; clear hF; intro a hF
 refine l_at hF rfl rfl rfl (x_assign (hF.tmp 11 rfl)) ?_; clear hF; intro a hF
 refine wpList_nil ?_
 refine hK3 _ _ ?_
 refine wp_seq_k fun khK4 hK4 => ?_
 refine wp_seq_k fun khK5 hK5 => ?_
 refine wp_region_lit ?_
 refine l_at hF rfl rfl rfl (x_move (hF.tmp 1 rfl)) ?_; clear hF; intro a hF
 refine l_at hF rfl rfl rfl (x_len_slice Tryd.underlying28 (hF.tmp 12 rfl)) ?_; clear hF; intro a hF
 refine l_at hF rfl rfl rfl (x_move rfl) ?_; clear hF; intro a hF
 refine wpList_nil ?_
 refine hK5 _ _ ?_
 refine wp_block ?_
 refine wp_loop_ghost (fun n_ a w => ∃ i : Nat, n_ = xs.length - i ∧ (i ≤ xs.length) ∧ Fr 39 a [(5, .pointer (some ⟨b5, 0, none⟩)), (6, .int .u32 ((xs.take i).foldl byteI (cpl sum))), (12, .slice A xs.length c), (13, .int .i64 (xs.length : Int)), (14, .int .i64 (i : Int))] ∧ Hp (fun _ => False) w0 w [(901, .rd_ (.int .u8) A xs c (fun k => k < w0.heap.size)), (5, .blk b5 (.cells (tabArr 16) 163 (0, 0)))]) (xs.length) ?_ ?_
 ·exact ⟨0, rfl, by omega, (((((hF.bare.add hF 14 rfl).add hF 13 rfl).add hF 12 rfl).add hF 6 rfl).add hF 5 rfl), hH.sub _ (sub_cons (sub_cons (sub_nil _) 5 rfl) 901 rfl)⟩
 ·rintro _ a w ⟨i, rfl, hq0_0, hF, hH⟩
  refine wp_seq_k fun khK6 hK6 => ?_
  refine wp_region_lit ?_
  refine l_at hF rfl rfl rfl (x_lss (hF.tmp 14 rfl) (hF.tmp 13 rfl)) ?_; clear hF; intro a hF
  refine wpList_nil ?_
  refine hK6 _ _ ?_
  refine wp_seq_k fun khK7 hK7 => ?_
  refine wp_cond_split (hF.tmp 15 rfl) (fun hc15 => ?_) (fun hc15 => ?_)
  ·have hk15_1 := hc15; try simp only [Bool.or_eq_true, Bool.and_eq_true, Bool.or_eq_false_iff, Bool.and_eq_false_iff, Bool.not_eq_true', Bool.not_eq_false', decide_eq_true_eq, decide_eq_false_iff_not, Bool.not_true, Bool.not_false] at hc15
   refine wp_skip ?_
   refine hK7 _ _ ?_
   refine wp_seq_k fun khK8 hK8 => ?_
   refine wp_block ?_
   refine wp_seq_k fun khK9 hK9 => ?_
   refine wp_region_lit ?_
   refine l_at hF rfl rfl rfl (x_iaddr_A Tryd.underlying28 ty5 ((hH.rd 901 rfl)) (hF.tmp 12 rfl) (hF.tmp 14 rfl) (by omega) (by omega) _) ?_; clear hF; intro a hF
   refine l_at hF rfl rfl rfl (x_load1 ty5 (hF.tmp 16 rfl) (((hH.rd 901 rfl)).cellA (gi_some (i := (i : Int)) (by omega) (by omega)))) ?_; clear hF; intro a hF
   refine l_at hF rfl rfl rfl (x_assign (hF.tmp 17 rfl)) ?_; clear hF; intro a hF
   refine wpList_nil ?_
   refine hK9 _ _ ?_
   refine wp_seq_k fun khK10 hK10 => ?_
   refine wp_region_lit ?_
   refine l_at hF rfl rfl rfl (x_move (hF.tmp 6 rfl)) ?_; clear hF; intro a hF
   refine l_at hF rfl rfl rfl (x_move (hF.tmp 8 rfl)) ?_; clear hF; intro a hF
   refine l_at hF rfl rfl rfl (x_conv Tryd.underlying102 ⟨_, Tryd.underlying5⟩ (hF.tmp 19 rfl) rfl) ?_; clear hF; intro a hF
   refine l_at hF rfl rfl rfl (x_bits (by simp) (hF.tmp 18 rfl) (hF.tmp 20 rfl) rfl) ?_; clear hF; intro a hF
   refine l_at hF rfl rfl rfl (x_assign (hF.tmp 21 rfl)) ?_; clear hF; intro a hF
   refine wpList_nil ?_
   refine hK10 _ _ ?_
   refine wp_seq_k fun khK11 hK11 => ?_
   refine wp_region_lit ?_
   refine l_at hF rfl rfl rfl (x_move (hF.tmp 6 rfl)) ?_; clear hF; intro a hF
   refine l_at hF rfl rfl rfl (x_shr (hF.tmp 22 rfl) rfl (by omega) rfl) ?_; clear hF; intro a hF
   refine l_at hF rfl rfl rfl (x_move (hF.tmp 6 rfl)) ?_; clear hF; intro a hF
   refine l_at hF rfl rfl rfl (x_bits (by simp) (hF.tmp 24 rfl) rfl rfl) ?_; clear hF; intro a hF
   refine l_at hF rfl rfl rfl (x_iaddr_arr Tryd.underlying163 ty102 (hF.tmp 5 rfl) (hF.tmp 25 rfl) (and15_lo _) (and15_hi _)) ?_; clear hF; intro a hF
   refine l_at hF rfl rfl rfl (x_load1 ty102 (hF.tmp 26 rfl) (blk_cell (hH.at 5 rfl) _ (tabArr_at (and15_lo _) (and15_hi _)))) ?_; clear hF; intro a hF
   refine l_at hF rfl rfl rfl (x_bits (by simp) (hF.tmp 23 rfl) (hF.tmp 27 rfl) rfl) ?_; clear hF; intro a hF
   refine l_at hF rfl rfl rfl (x_assign (hF.tmp 28 rfl)) ?_; clear hF; intro a hF
   refine wpList_nil ?_
   refine hK11 _ _ ?_
   refine wp_region_lit ?_
   refine l_at hF rfl rfl rfl (x_move (hF.tmp 6 rfl)) ?_; clear hF; intro a hF
   refine l_at hF rfl rfl rfl (x_shr (hF.tmp 29 rfl) rfl (by omega) rfl) ?_; clear hF; intro a hF
   refine l_at hF rfl rfl rfl (x_move (hF.tmp 6 rfl)) ?_; clear hF; intro a hF
   refine l_at hF rfl rfl rfl (x_bits (by simp) (hF.tmp 31 rfl) rfl rfl) ?_; clear hF; intro a hF
   refine l_at hF rfl rfl rfl (x_iaddr_arr Tryd.underlying163 ty102 (hF.tmp 5 rfl) (hF.tmp 32 rfl) (and15_lo _) (and15_hi _)) ?_; clear hF; intro a hF
   refine l_at hF rfl rfl rfl (x_load1 ty102 (hF.tmp 33 rfl) (blk_cell (hH.at 5 rfl) _ (tabArr_at (and15_lo _) (and15_hi _)))) ?_; clear hF; intro a hF
   refine l_at hF rfl rfl rfl (x_bits (by simp) (hF.tmp 30 rfl) (hF.tmp 34 rfl) rfl) ?_; clear hF; intro a hF
   refine l_at hF rfl rfl rfl (x_assign (hF.tmp 35 rfl)) ?_; clear hF; intro a hF
   refine wpList_nil ?_
   refine hK8 _ _ ?_
   refine wp_region_lit ?_
   refine l_at hF rfl rfl rfl (x_add (hF.tmp 14 rfl) rfl (w64 (by omega) (by omega))) ?_; clear hF; intro a hF
   refine l_at hF rfl rfl rfl (x_move (hF.tmp 36 rfl)) ?_; clear hF; intro a hF
   refine wpList_nil ?_
   have hFs : Fr 39 a [(5, .pointer (some ⟨b5, 0, none⟩)), (6, .int .u32 (byteI ((xs.take i).foldl byteI (cpl sum)) (gi xs i))), (12, .slice A xs.length c), (13, .int .i64 (xs.length : Int)), (14, .int .i64 ((i + 1 : Nat) : Int))] := (((((hF.bare.add hF 14 rfl).add hF 13 rfl).add hF 12 rfl).add hF 6 rfl).add hF 5 rfl)
   rw [← fold_step hc15] at hFs
   exact ⟨_, by omega, ⟨i + 1, rfl, by omega, hFs, hH.sub _ (sub_cons (sub_cons (sub_nil _) 5 rfl) 901 rfl)⟩⟩
  ·have hk15_2 := hc15; try simp only [Bool.or_eq_true, Bool.and_eq_true, Bool.or_eq_false_iff, Bool.and_eq_false_iff, Bool.not_eq_true', Bool.not_eq_false', decide_eq_true_eq, decide_eq_false_iff_not, Bool.not_true, Bool.not_false] at hc15
   obtain rfl : i = xs.length := by omega
   rw [List.take_length] at hF
   refine wp_exit ?_
   refine hK4 _ _ ?_
   refine wp_seq_k fun khK12 hK12 => ?_
   refine wp_region_lit ?_
   refine l_at hF rfl rfl rfl (x_move (hF.tmp 6 rfl)) ?_; clear hF; intro a hF
   refine l_at hF rfl rfl rfl (x_cpl (hF.tmp 37 rfl) rfl) ?_; clear hF; intro a hF
   refine l_at hF rfl rfl rfl (x_assign (hF.tmp 38 rfl)) ?_; clear hF; intro a hF
   refine wpList_nil ?_
   refine hK12 _ _ ?_
   refine wp_ret ?_
   try simp only [Exit.then, Exit.inBlock]
   exact fin_ret hF (res1 hF rfl rfl) ⟨rfl, hH.mods⟩
set_option maxRecDepth 100000 in
set_option maxHeartbeats 1000000 in
theorem sum_calls (w0 : World) {ok : Nat → Prop} {A : Option Addr} {xs : List Int} {c : Nat} (hr : Rd (.int .u8) w0 ok A xs c) : Calls Tryd.prog 43 #[.slice A xs.length c] w0 fun e w' => e = .returned (.int .u32 (moreI 0 xs)) ∧ Mods (fun _ => False) w0 w' := by
 refine calls_of_wp Tryd.func43 rfl ?_
 have hF := Fr.enter #[.slice A xs.length c] 5 (slotsOf [.slice A xs.length c] 0) (Nat.le_of_ble_eq_true rfl) (fun i v h => by have h2 := (get_slotsOf _ 0 i v h).2; simpa only [List.getElem?_toArray, Nat.sub_zero] using h2)
 have hH := Hp.nil (fun _ => False) w0
 rw [Tryd.ntmps43]
 revert hF; generalize (⟨(#[.slice A xs.length c] : Array Value) ++ Array.replicate (5 - (#[.slice A xs.length c] : Array Value).size) undef, []⟩ : Act) = a; intro hF
 have hH := hH.arg 901 hr.all (fun _ h => ⟨h, fun h => h⟩)
 refine wp_seq_k fun khK1 hK1 => ?_
 refine wp_region_lit ?_
 refine l_at hF rfl rfl rfl (x_assign rfl) ?_; clear hF; intro a hF
 refine wpList_nil ?_
 refine hK1 _ _ ?_
 refine wp_seq_k fun khK2 hK2 => ?_
 refine wp_region_lit ?_
 refine l_at hF rfl rfl rfl (x_move (hF.tmp 0 rfl)) ?_; clear hF; intro a hF
 refine wpList_plain rfl fun K hK => ?_
 refine w_call hF (x_enter Tryd.func76 (by kernel_rfl) rfl (by simp only [List.map_toArray, List.map_cons, List.map_nil, hF.tmp 3 rfl] <;> rfl)) (more_calls _ 0 (hH.rd 901 rfl)) rfl rfl ?_
 rintro _ w ⟨rfl, hm_⟩; refine ⟨_, rfl, ?_⟩; clear hF; intro a hF; have hH := hH.same hm_
 refine hK _ _ ?_; clear hK K
 refine l_at hF rfl rfl rfl (x_assign (hF.tmp 4 rfl)) ?_; clear hF; intro a hF
 refine wpList_nil ?_
 refine hK2 _ _ ?_
 refine wp_ret ?_
 try simp only [Exit.then, Exit.inBlock]
 exact fin_ret hF (res1 hF rfl rfl) ⟨rfl, hH.mods⟩
end Go.Proofs.YtiiklnghnifmjaaDoor.Crc
