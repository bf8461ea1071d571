/- crc's walks. -/
import Derived.Test.YtiiklnghnifmjaaGreatDoorCrcDZc
import Derived.Test.YtiiklnghnifmjaaGreatDoorProg
set_option linter.unusedVariables false
set_option maxRecDepth 100000
set_option maxHeartbeats 1000000
set_option linter.unusedSimpArgs false
namespace Go.Proofs.YtiiklnghnifmjaaGreatDoor.Crc
open Go.RowKit Go.Proofs.YtiiklnghnifmjaaGreatDoor.Sx
theorem ty5 : TyI Tryz.prog 5 (.int .u8 0) 1 1 false := ⟨by kernel_rfl, _, Tryz.underlying5, rfl⟩
theorem ty69 : TyI Tryz.prog 69 (.int .u32 0) 1 4 false := ⟨by kernel_rfl, _, Tryz.underlying69, rfl⟩
theorem ty127 : TyI Tryz.prog 127 (.agg #[.int .u32 0, .int .u32 0, .int .u32 0, .int .u32 0, .int .u32 0, .int .u32 0, .int .u32 0, .int .u32 0, .int .u32 0, .int .u32 0, .int .u32 0, .int .u32 0, .int .u32 0, .int .u32 0, .int .u32 0, .int .u32 0]) 16 64 true := ⟨by kernel_rfl, _, Tryz.underlying127, rfl⟩
theorem table_calls (w0 : World) : Calls Tryz.prog 100 #[] w0 fun e w' => e = .returned (.agg (tabArr 16)) ∧ Mods (fun _ => False) w0 w' := by
 refine cow Tryz.func100 rfl Tryz.ntmps100 (Nat.le_of_ble_eq_true rfl) fun a F => ?_
 have H := Hp.nil (fun _ => False) w0
 refine sr fun _ hK1 => ?_
 refine lp rfl ?_
 refine w_alloc 0 F H rfl ty127 ?_
 clear F H; intro a w b0 F H
 refine wn (hK1 _ _ (sr fun _ hK2 => ?_))
 refine lp rfl ?_
 refine w_alloc 1 F H rfl ty127 ?_
 clear F H; intro a w b1 F H
 refine wn (hK2 _ _ ?_)
 refine wp_seq_k fun _ hK3 => ?_
 refine sr fun _ hK4 => la F rfl (x_move rfl) fun a F => wn (hK4 _ _ (wp_block ?_))
 refine wp_loop_ghost (fun n_ a w => ∃ k : Nat, n_ = 16 - k ∧ (k ≤ 16) ∧ Fr 23 a [(0, .pointer (some ⟨b0, 0, none⟩)), (1, .pointer (some ⟨b1, 0, none⟩)), (4, .int .u32 (k : Int))] ∧ Hp (fun _ => False) w0 w [(0, .blk b0 (.cells tabZ 127 (0, 0))), (1, .blk b1 (.cells (tabArr k) 127 (0, 0)))]) (16) ?_ ?_
 ·exact ⟨0, rfl, by omega, (((F.bare.add F 4 rfl).add F 1 rfl).add F 0 rfl), H.sub _ (sub_cons (sub_cons (sub_nil _) 1 rfl) 0 rfl)⟩
 rintro _ a w ⟨k, rfl, hq0_0, F, H⟩
 refine sr fun _ hK5 => la F rfl (x_lss (F.t 4 rfl) rfl) fun a F => wn (hK5 _ _ ?_)
 refine wp_seq_k fun _ hK6 => ?_
 refine wp_cond_split (F.t 5 rfl) (fun hc5 => ?_) (fun hc5 => ?_)
 ·have hk5_1 := hc5; try simp only [bL] at hc5
  refine wp_skip (hK6 _ _ ?_)
  refine wp_seq_k fun _ hK7 => ?_
  refine wp_block (sr fun _ hK8 => la F rfl (x_move (F.t 4 rfl)) fun a F => la F rfl (x_assign (F.t 6 rfl)) fun a F => wn (hK8 _ _ (sr fun _ hK9 => la F rfl (x_move (F.t 2 rfl)) fun a F => la F rfl (x_assign (F.t 7 rfl)) fun a F => ?_)))
  refine wn (hK9 _ _ ?_)
  refine wp_seq_k fun _ hK10 => ?_
  refine sr fun _ hK11 => la F rfl (x_move rfl) fun a F => wn (hK11 _ _ (wp_block ?_))
  refine wp_loop_ghost (fun n_ a w => ∃ i : Nat, n_ = 4 - i ∧ (i ≤ 4) ∧ Fr 23 a [(0, .pointer (some ⟨b0, 0, none⟩)), (1, .pointer (some ⟨b1, 0, none⟩)), (2, .int .u32 (k : Int)), (3, .int .u32 (stp i k)), (4, .int .u32 (k : Int)), (8, .int .i64 (i : Int))] ∧ Hp (fun _ => False) w0 w [(0, .blk b0 (.cells tabZ 127 (0, 0))), (1, .blk b1 (.cells (tabArr k) 127 (0, 0)))]) (4) ?_ ?_
  ·exact ⟨0, rfl, by omega, ((((((F.bare.add F 8 rfl).add F 4 rfl).add F 3 rfl).add F 2 rfl).add F 1 rfl).add F 0 rfl), H.sub _ (sub_cons (sub_cons (sub_nil _) 1 rfl) 0 rfl)⟩
  rintro _ a w ⟨i, rfl, hq2_0, F, H⟩
  refine sr fun _ hK12 => la F rfl (x_lss (F.t 8 rfl) rfl) fun a F => wn (hK12 _ _ ?_)
  refine wp_seq_k fun _ hK13 => ?_
  refine wp_cond_split (F.t 9 rfl) (fun hc9 => ?_) (fun hc9 => ?_)
  ·have hk9_2 := hc9; try simp only [bL] at hc9
   refine wp_skip (hK13 _ _ ?_)
   refine wp_seq_k fun _ hK14 => ?_
   refine wp_block ?_
   refine wp_region_lit ?_
   refine la F rfl (x_move (F.t 3 rfl)) fun a F => la F rfl (x_shr (F.t 10 rfl) rfl (by omega) rfl) fun a F => la F rfl (x_move (F.t 3 rfl)) fun a F => la F rfl (x_bits (by simp) (F.t 12 rfl) rfl rfl) fun a F => la F rfl (x_neg (F.t 13 rfl) rfl) fun a F => la F rfl (x_bits (by simp) (F.t 14 rfl) rfl rfl) fun a F => la F rfl (x_bits (by simp) (F.t 11 rfl) (F.t 15 rfl) rfl) fun a F => la F rfl (x_assign (F.t 16 rfl)) fun a F => ?_
   refine wn (hK14 _ _ ?_)
   refine wp_region_lit ?_
   refine la F rfl (x_add (F.t 8 rfl) rfl (w64 (by omega) (by omega))) fun a F => la F rfl (x_move (F.t 17 rfl)) fun a F => ?_
   refine wpList_nil ?_
   exact ⟨_, by omega, ⟨i + 1, rfl, by omega, ((((((F.bare.add F 8 rfl).add F 4 rfl).add F 3 rfl).add F 2 rfl).add F 1 rfl).add F 0 rfl), H.sub _ (sub_cons (sub_cons (sub_nil _) 1 rfl) 0 rfl)⟩⟩
  have hk9_3 := hc9; try simp only [bL] at hc9
  obtain rfl : i = 4 := by omega
  refine wp_exit ?_
  refine hK10 _ _ ?_
  refine wp_region_lit ?_
  refine la F rfl (x_move (F.t 2 rfl)) fun a F => la F rfl (x_move (F.t 3 rfl)) fun a F => la F rfl (x_iaddr_arr Tryz.underlying127 ty69 (F.t 1 rfl) (F.t 18 rfl) (by omega) (by omega)) fun a F => ?_
  refine lp rfl ?_
  refine w_store 1 H ty69 rfl (F.t 20 rfl) (F.t 19 rfl) rfl (one1 rfl rfl) (by rw [tabArr_size]; omega) ?_
  clear H; intro w H
  refine wn (hK7 _ _ ?_)
  refine wp_region_lit ?_
  refine la F rfl (x_add (F.t 4 rfl) rfl (wu32 (by omega) (by omega))) fun a F => la F rfl (x_move (F.t 21 rfl)) fun a F => ?_
  refine wpList_nil ?_
  have hstep : Hp (fun _ => False) w0 w [(0, .blk b0 (.cells tabZ 127 (0, 0))), (1, .blk b1 (.cells (tabArr (k + 1)) 127 (0, 0)))] := by
   have h2 : Hp (fun _ => False) w0 w [(0, .blk b0 (.cells tabZ 127 (0, 0))), (1, .blk b1 (.cells (spl (tabArr k) (0 + (k : Int).toNat * 1) #[.int .u32 (stp 4 k)]) 127 (0, 0)))] := H.sub _ (sub_cons (sub_cons (sub_nil _) 1 rfl) 0 rfl)
   rwa [tab_step k hc5] at h2
  exact ⟨_, by omega, ⟨k + 1, rfl, by omega, (((F.bare.add F 4 rfl).add F 1 rfl).add F 0 rfl), hstep⟩⟩
 have hk5_4 := hc5; try simp only [bL] at hc5
 obtain rfl : k = 16 := by omega
 refine wp_exit ?_
 refine hK3 _ _ (sr fun _ hK15 => la F rfl (x_loadn ty127 (F.t 1 rfl) (tabArr_size 16) (blk_whole (H.at 1 rfl))) fun a F => ?_)
 refine lp rfl ?_
 refine w_storeA 0 H ty127 rfl (F.t 0 rfl) (F.t 22 rfl) (tabArr_size 16) (tab_one 16) rfl ?_
 clear H; intro w H
 refine wn (hK15 _ _ ?_)
 refine wp_ret ?_
 try simp only [Exit.then, Exit.inBlock]
 exact fin_ret F (resc F rfl rfl (H.at 0 rfl) ty127 (tabArr_size 16)) ⟨rfl, H.mods⟩
theorem more_calls (w0 : World) (sum : Int) {ok : Nat → Prop} {A : Option Addr} {xs : List Int} {c : Nat} (hr : Rd (.int .u8) w0 ok A xs c) : Calls Tryz.prog 69 #[.int .u32 sum, .slice A xs.length c] w0 fun e w' => e = .returned (.int .u32 (moreI sum xs)) ∧ Mods (fun _ => False) w0 w' := by
 refine cow Tryz.func69 rfl Tryz.ntmps69 (Nat.le_of_ble_eq_true rfl) fun a F => ?_
 have H := Hp.nil (fun _ => False) w0
 have H := H.arg 901 hr.all (fun _ h => ⟨h, fun h => h⟩)
 have hle := hr.le; unfold maxLen at hle
 refine sr fun _ hK1 => la F rfl (x_assign rfl) fun a F => wn (hK1 _ _ (sr fun _ hK2 => ?_))
 refine lp rfl ?_
 refine w_call F (x_enter Tryz.func100 (by kernel_rfl) rfl (by simp only [bM] <;> rfl)) (table_calls _) rfl rfl ?_
 rintro _ w ⟨rfl, hm_⟩; refine ⟨_, rfl, ?_⟩; clear F; intro a F; have H := H.same hm_
 refine lp rfl ?_
 refine w_alloc 5 F H rfl ty127 ?_
 clear F H; intro a w b5 F H
 refine lp rfl ?_
 refine w_storeA 5 H ty127 rfl (F.t 5 rfl) (F.t 9 rfl) (tabArr_size 16) (tab_one 16) rfl ?_
 clear H; intro w H
 refine wn (hK2 _ _ (sr fun _ hK3 => la F rfl (x_move (F.t 0 rfl)) fun a F => la F rfl (x_cpl (F.t 10 rfl) rfl) fun a F => la F rfl (x_assign (F.t 11 rfl)) fun a F => wn (hK3 _ _ ?_)))
 refine wp_seq_k fun _ hK4 => ?_
 refine sr fun _ hK5 => la F rfl (x_move (F.t 1 rfl)) fun a F => la F rfl (x_len_slice Tryz.underlying27 (F.t 12 rfl)) fun a F => la F rfl (x_move rfl) fun a F => wn (hK5 _ _ (wp_block ?_))
 refine wp_loop_ghost (fun n_ a w => ∃ i : Nat, n_ = xs.length - i ∧ (i ≤ xs.length) ∧ Fr 39 a [(5, .pointer (some ⟨b5, 0, none⟩)), (6, .int .u32 ((xs.take i).foldl byteI (cpl sum))), (12, .slice A xs.length c), (13, .int .i64 (xs.length : Int)), (14, .int .i64 (i : Int))] ∧ Hp (fun _ => False) w0 w [(901, .rd_ (.int .u8) A xs c (fun k => k < w0.heap.size)), (5, .blk b5 (.cells (tabArr 16) 127 (0, 0)))]) (xs.length) ?_ ?_
 ·exact ⟨0, rfl, by omega, (((((F.bare.add F 14 rfl).add F 13 rfl).add F 12 rfl).add F 6 rfl).add F 5 rfl), H.sub _ (sub_cons (sub_cons (sub_nil _) 5 rfl) 901 rfl)⟩
 rintro _ a w ⟨i, rfl, hq0_0, F, H⟩
 refine sr fun _ hK6 => la F rfl (x_lss (F.t 14 rfl) (F.t 13 rfl)) fun a F => wn (hK6 _ _ ?_)
 refine wp_seq_k fun _ hK7 => ?_
 refine wp_cond_split (F.t 15 rfl) (fun hc15 => ?_) (fun hc15 => ?_)
 ·have hk15_1 := hc15; try simp only [bL] at hc15
  refine wp_skip (hK7 _ _ ?_)
  refine wp_seq_k fun _ hK8 => ?_
  refine wp_block (sr fun _ hK9 => la F rfl (x_iaddr_A Tryz.underlying27 ty5 ((H.rd 901 rfl)) (F.t 12 rfl) (F.t 14 rfl) (by omega) (by omega) _) fun a F => la F rfl (x_load1 ty5 (F.t 16 rfl) (((H.rd 901 rfl)).cellA (gi_some (i := (i : Int)) (by omega) (by omega)))) fun a F => la F rfl (x_assign (F.t 17 rfl)) fun a F => wn (hK9 _ _ (sr fun _ hK10 => la F rfl (x_move (F.t 6 rfl)) fun a F => ?_)))
  refine la F rfl (x_move (F.t 8 rfl)) fun a F => la F rfl (x_conv Tryz.underlying69 ⟨_, Tryz.underlying5⟩ (F.t 19 rfl) rfl) fun a F => la F rfl (x_bits (by simp) (F.t 18 rfl) (F.t 20 rfl) rfl) fun a F => la F rfl (x_assign (F.t 21 rfl)) fun a F => wn (hK10 _ _ (sr fun _ hK11 => la F rfl (x_move (F.t 6 rfl)) fun a F => la F rfl (x_shr (F.t 22 rfl) rfl (by omega) rfl) fun a F => ?_))
  refine la F rfl (x_move (F.t 6 rfl)) fun a F => la F rfl (x_bits (by simp) (F.t 24 rfl) rfl rfl) fun a F => la F rfl (x_iaddr_arr Tryz.underlying127 ty69 (F.t 5 rfl) (F.t 25 rfl) (and15_lo _) (and15_hi _)) fun a F => la F rfl (x_load1 ty69 (F.t 26 rfl) (blk_cell (H.at 5 rfl) _ (tabArr_at (and15_lo _) (and15_hi _)))) fun a F => la F rfl (x_bits (by simp) (F.t 23 rfl) (F.t 27 rfl) rfl) fun a F => la F rfl (x_assign (F.t 28 rfl)) fun a F => wn (hK11 _ _ ?_)
  refine wp_region_lit ?_
  refine la F rfl (x_move (F.t 6 rfl)) fun a F => la F rfl (x_shr (F.t 29 rfl) rfl (by omega) rfl) fun a F => la F rfl (x_move (F.t 6 rfl)) fun a F => la F rfl (x_bits (by simp) (F.t 31 rfl) rfl rfl) fun a F => la F rfl (x_iaddr_arr Tryz.underlying127 ty69 (F.t 5 rfl) (F.t 32 rfl) (and15_lo _) (and15_hi _)) fun a F => la F rfl (x_load1 ty69 (F.t 33 rfl) (blk_cell (H.at 5 rfl) _ (tabArr_at (and15_lo _) (and15_hi _)))) fun a F => la F rfl (x_bits (by simp) (F.t 30 rfl) (F.t 34 rfl) rfl) fun a F => la F rfl (x_assign (F.t 35 rfl)) fun a F => ?_
  refine wn (hK8 _ _ ?_)
  refine wp_region_lit ?_
  refine la F rfl (x_add (F.t 14 rfl) rfl (w64 (by omega) (by omega))) fun a F => la F rfl (x_move (F.t 36 rfl)) fun a F => ?_
  refine wpList_nil ?_
  have hFs : Fr 39 a [(5, .pointer (some ⟨b5, 0, none⟩)), (6, .int .u32 (byteI ((xs.take i).foldl byteI (cpl sum)) (gi xs i))), (12, .slice A xs.length c), (13, .int .i64 (xs.length : Int)), (14, .int .i64 ((i + 1 : Nat) : Int))] := (((((F.bare.add F 14 rfl).add F 13 rfl).add F 12 rfl).add F 6 rfl).add F 5 rfl)
  rw [← fold_step hc15] at hFs
  exact ⟨_, by omega, ⟨i + 1, rfl, by omega, hFs, H.sub _ (sub_cons (sub_cons (sub_nil _) 5 rfl) 901 rfl)⟩⟩
 have hk15_2 := hc15; try simp only [bL] at hc15
 obtain rfl : i = xs.length := by omega
 rw [List.take_length] at F
 refine wp_exit ?_
 refine hK4 _ _ (sr fun _ hK12 => la F rfl (x_move (F.t 6 rfl)) fun a F => la F rfl (x_cpl (F.t 37 rfl) rfl) fun a F => la F rfl (x_assign (F.t 38 rfl)) fun a F => wn (hK12 _ _ ?_))
 refine wp_ret ?_
 try simp only [Exit.then, Exit.inBlock]
 exact fin_ret F (res1 F rfl rfl) ⟨rfl, H.mods⟩
theorem sum_calls (w0 : World) {ok : Nat → Prop} {A : Option Addr} {xs : List Int} {c : Nat} (hr : Rd (.int .u8) w0 ok A xs c) : Calls Tryz.prog 31 #[.slice A xs.length c] w0 fun e w' => e = .returned (.int .u32 (moreI 0 xs)) ∧ Mods (fun _ => False) w0 w' := by
 refine cow Tryz.func31 rfl Tryz.ntmps31 (Nat.le_of_ble_eq_true rfl) fun a F => ?_
 have H := Hp.nil (fun _ => False) w0
 have H := H.arg 901 hr.all (fun _ h => ⟨h, fun h => h⟩)
 refine sr fun _ hK1 => la F rfl (x_assign rfl) fun a F => wn (hK1 _ _ (sr fun _ hK2 => la F rfl (x_move (F.t 0 rfl)) fun a F => ?_))
 refine lp rfl ?_
 refine w_call F (x_enter Tryz.func69 (by kernel_rfl) rfl (by simp only [bM, F.t 3 rfl] <;> rfl)) (more_calls _ 0 (H.rd 901 rfl)) rfl rfl ?_
 rintro _ w ⟨rfl, hm_⟩; refine ⟨_, rfl, ?_⟩; clear F; intro a F; have H := H.same hm_
 refine la F rfl (x_assign (F.t 4 rfl)) fun a F => wn (hK2 _ _ ?_)
 refine wp_ret ?_
 try simp only [Exit.then, Exit.inBlock]
 exact fin_ret F (res1 F rfl rfl) ⟨rfl, H.mods⟩
end Go.Proofs.YtiiklnghnifmjaaGreatDoor.Crc
