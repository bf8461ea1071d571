/- The laws of messages, walked. -/
import Derived.Test.YtiiklnghnifmjaaGreatDoorMsgAZb
set_option linter.unusedVariables false
set_option maxRecDepth 100000
set_option maxHeartbeats 1000000
set_option linter.unusedSimpArgs false
namespace Go.Proofs.YtiiklnghnifmjaaGreatDoor.Act
open Go.RowKit Go.Proofs.YtiiklnghnifmjaaGreatDoor.Sx Go.Proofs.YtiiklnghnifmjaaGreatDoor.Cod Go.Proofs.YtiiklnghnifmjaaGreatDoor.Num
theorem fitsT_calls (w0 : World) {t : TimerD} {okt0 : Nat → Prop} {At0 : Option Addr} {ct0 : Nat} (hrt0 : Rd StE w0 okt0 At0 t.steps ct0) : Calls Tryz.prog 97 #[.agg #[.string (strOfNums t.name), .int .i64 t.ver, .int .u64 t.tick, .int .u64 t.every, .slice At0 t.steps.length ct0]] w0 fun e w' => ∃ b : Bool, e = .returned (.bool b) ∧ Mods (fun _ => False) w0 w' := by
 refine cow Tryz.func97 rfl Tryz.ntmps97 (Nat.le_of_ble_eq_true rfl) fun a F => ?_
 have H := Hp.nil (fun _ => False) w0
 have H := H.arg 900 hrt0.all (fun _ h => ⟨h, fun h => h⟩)
 have hlet0 := hrt0.le; unfold maxLen at hlet0
 refine sr fun _ hK1 => ?_
 refine lp rfl ?_
 refine w_box 1 F H rfl (F.t 0 rfl) ?_
 clear F H; intro a w b1 F H
 refine la F rfl (x_assign rfl) fun a F => ?_
 refine wn (hK1 _ _ ?_)
 refine wp_seq_k fun _ hK2 => ?_
 refine sr fun _ hK3 => ?_
 refine la F rfl (x_assign rfl) fun a F => ?_
 refine wn (hK3 _ _ ?_)
 refine wp_block ?_
 refine wp_loop_ghost (fun n_ a w => ∃ k : Nat, n_ = t.steps.length - k ∧ (k ≤ t.steps.length) ∧ Fr 37 a [(1, .pointer (some ⟨b1, 0, none⟩)), (3, .int .i64 (k : Int))] ∧ Hp (fun _ => False) w0 w [(900, .rd_ StE At0 t.steps ct0 (fun k => k < w0.heap.size)), (1, .blk b1 (.cells #[.string (strOfNums t.name), .int .i64 t.ver, .int .u64 t.tick, .int .u64 t.every, .slice At0 t.steps.length ct0] 64 (0, 0)))]) (t.steps.length) ?_ ?_
 ·exact ⟨0, rfl, by omega, ((F.bare.add F 3 rfl).add F 1 rfl), H.sub _ (sub_cons (sub_cons (sub_nil _) 1 rfl) 900 rfl)⟩
 rintro _ a w ⟨k, rfl, hq0_0, F, H⟩
 refine wp_seq_k fun _ hK4 => ?_
 refine sr fun _ hK5 => ?_
 refine la F rfl (x_move (F.t 3 rfl)) fun a F => ?_
 refine la F rfl (x_faddr Tryz.underlying64 rfl ty62 (by decide) (F.t 1 rfl) rfl) fun a F => ?_
 refine la F rfl (x_load1 ty62 (F.t 5 rfl) (blk_cell (H.at 1 rfl) 4 rfl)) fun a F => ?_
 refine la F rfl (x_len_slice Tryz.underlying62 (F.t 6 rfl)) fun a F => ?_
 refine la F rfl (x_lss (F.t 4 rfl) (F.t 7 rfl)) fun a F => ?_
 refine wn (hK5 _ _ ?_)
 refine wp_cond_split (F.t 8 rfl) (fun hc8 => ?_) (fun hc8 => ?_)
 ·have hk8_1 := hc8; try simp only [bL] at hc8
  refine wp_skip ?_
  refine hK4 _ _ ?_
  refine wp_seq_k fun _ hK6 => ?_
  refine wp_block ?_
  refine sr fun _ hK7 => ?_
  refine la F rfl (x_move (F.t 3 rfl)) fun a F => ?_
  refine la F rfl (x_eql (F.t 11 rfl) rfl) fun a F => ?_
  refine la F rfl (x_move (F.t 12 rfl)) fun a F => ?_
  refine split_bool F 13 rfl (fun hb13 => ?_) (fun hb13 => ?_)
  ·have hc13 := hb13; try simp only [bL] at hc13
   refine los F hb13 rfl fun a F => ?_
   refine los F hb13 rfl fun a F => ?_
   refine los F hb13 rfl fun a F => ?_
   refine los F hb13 rfl fun a F => ?_
   refine los F hb13 rfl fun a F => ?_
   refine los F hb13 rfl fun a F => ?_
   refine los F hb13 rfl fun a F => ?_
   refine los F hb13 rfl fun a F => ?_
   refine la F rfl (x_pickT (F.t 13 rfl) hb13 rfl) fun a F => ?_
   refine la F rfl (x_move (F.t 22 rfl)) fun a F => ?_
   refine lo F rfl fun a F => ?_
   refine lo F rfl fun a F => ?_
   refine lo F rfl fun a F => ?_
   refine lo F rfl fun a F => ?_
   refine lo F rfl fun a F => ?_
   refine lo F rfl fun a F => ?_
   refine lo F rfl fun a F => ?_
   refine lo F rfl fun a F => ?_
   refine la F rfl (x_pickT (F.t 23 rfl) rfl rfl) fun a F => ?_
   refine wn (hK7 _ _ ?_)
   refine wp_cond_true (F.t 32 rfl) ?_
   refine sr fun _ hK8 => ?_
   refine la F rfl (x_assign rfl) fun a F => ?_
   refine wn (hK8 _ _ ?_)
   refine wp_ret ?_
   try simp only [Exit.then, Exit.inBlock]
   exact fin_ret F (res1 (v := .bool false) F rfl rfl) ⟨_, rfl, H.mods⟩
  have hc13 := hb13; try simp only [bL] at hc13
  obtain ⟨hf2_0, hf2_1, hf2_2, hf2_3, hfw2⟩ := rd_st ((H.rd 900 rfl)) (gst_some (xs := t.steps) (i := (k : Int)) (by omega) (by omega))
  have H := H.subcels 900 rfl 2499 hfw2 (Rd.inok ((H.rd 900 rfl)) (by omega) _)
  have H := H.subcel 900 rfl 2500 hf2_0 (Rd.inok ((H.rd 900 rfl)) (by omega) _)
  have H := H.subcel 900 rfl 2501 hf2_1 (Rd.inok ((H.rd 900 rfl)) (by omega) _)
  have H := H.subcel 900 rfl 2502 hf2_2 (Rd.inok ((H.rd 900 rfl)) (by omega) _)
  have H := H.subcel 900 rfl 2503 hf2_3 (Rd.inok ((H.rd 900 rfl)) (by omega) _)
  refine lgs F hb13 rfl (x_faddr Tryz.underlying64 rfl ty62 (by decide) (F.t 1 rfl) rfl) fun a F => ?_
  refine lgs F hb13 rfl (x_load1 ty62 (F.t 14 rfl) (blk_cell (H.at 1 rfl) 4 rfl)) fun a F => ?_
  refine lgs F hb13 rfl (x_move (F.t 3 rfl)) fun a F => ?_
  refine lgs F hb13 rfl (x_iaddr_A Tryz.underlying62 ty91 ((H.rd 900 rfl)) (F.t 15 rfl) (F.t 16 rfl) (by omega) (by omega) _) fun a F => ?_
  refine lgs F hb13 rfl (x_faddrA ((H.rd 900 rfl)) (by omega) _ Tryz.underlying91 rfl ty9 (by decide) (F.t 17 rfl) rfl) fun a F => ?_
  refine lgs F hb13 rfl (x_load1 ty9 (F.t 18 rfl) (H.holds 2501 _ rfl)) fun a F => ?_
  refine lgs F hb13 rfl (x_len_sn (xs := ((gst t.steps (k : Int)).2.1)) Tryz.underlying9 (F.t 19 rfl)) fun a F => ?_
  refine lgs F hb13 rfl (x_gtr (F.t 20 rfl) rfl) fun a F => ?_
  refine la F rfl (x_pickF (F.t 13 rfl) hb13 (F.t 21 rfl)) fun a F => ?_
  refine la F rfl (x_move (F.t 22 rfl)) fun a F => ?_
  refine split_bool F 23 rfl (fun hb23 => ?_) (fun hb23 => ?_)
  ·have hc23 := hb23; try simp only [bL] at hc23
   refine los F hb23 rfl fun a F => ?_
   refine los F hb23 rfl fun a F => ?_
   refine los F hb23 rfl fun a F => ?_
   refine los F hb23 rfl fun a F => ?_
   refine los F hb23 rfl fun a F => ?_
   refine los F hb23 rfl fun a F => ?_
   refine los F hb23 rfl fun a F => ?_
   refine los F hb23 rfl fun a F => ?_
   refine la F rfl (x_pickT (F.t 23 rfl) hb23 rfl) fun a F => ?_
   refine wn (hK7 _ _ ?_)
   refine wp_cond_true (F.t 32 rfl) ?_
   refine sr fun _ hK9 => ?_
   refine la F rfl (x_assign rfl) fun a F => ?_
   refine wn (hK9 _ _ ?_)
   refine wp_ret ?_
   try simp only [Exit.then, Exit.inBlock]
   exact fin_ret F (res1 (v := .bool false) F rfl rfl) ⟨_, rfl, H.mods⟩
  have hc23 := hb23; try simp only [bL] at hc23
  refine lgs F hb23 rfl (x_faddr Tryz.underlying64 rfl ty62 (by decide) (F.t 1 rfl) rfl) fun a F => ?_
  refine lgs F hb23 rfl (x_load1 ty62 (F.t 24 rfl) (blk_cell (H.at 1 rfl) 4 rfl)) fun a F => ?_
  refine lgs F hb23 rfl (x_move (F.t 3 rfl)) fun a F => ?_
  refine lgs F hb23 rfl (x_iaddr_A Tryz.underlying62 ty91 ((H.rd 900 rfl)) (F.t 25 rfl) (F.t 26 rfl) (by omega) (by omega) _) fun a F => ?_
  refine lgs F hb23 rfl (x_faddrA ((H.rd 900 rfl)) (by omega) _ Tryz.underlying91 rfl ty9 (by decide) (F.t 27 rfl) rfl) fun a F => ?_
  refine lgs F hb23 rfl (x_load1 ty9 (F.t 28 rfl) (H.holds 2502 _ rfl)) fun a F => ?_
  refine lgs F hb23 rfl (x_len_sn (xs := ((gst t.steps (k : Int)).2.2.1)) Tryz.underlying9 (F.t 29 rfl)) fun a F => ?_
  refine lgs F hb23 rfl (x_gtr (F.t 30 rfl) rfl) fun a F => ?_
  refine la F rfl (x_pickF (F.t 23 rfl) hb23 (F.t 31 rfl)) fun a F => ?_
  refine wn (hK7 _ _ ?_)
  refine wp_cond_split (F.t 32 rfl) (fun hc32 => ?_) (fun hc32 => ?_)
  ·have hk32_2 := hc32; try simp only [bL] at hc32
   refine sr fun _ hK10 => ?_
   refine la F rfl (x_assign rfl) fun a F => ?_
   refine wn (hK10 _ _ ?_)
   refine wp_ret ?_
   try simp only [Exit.then, Exit.inBlock]
   exact fin_ret F (res1 (v := .bool false) F rfl rfl) ⟨_, rfl, H.mods⟩
  have hk32_3 := hc32; try simp only [bL] at hc32
  refine wp_skip ?_
  refine hK6 _ _ ?_
  refine wp_region_lit ?_
  refine la F rfl (x_move (F.t 3 rfl)) fun a F => ?_
  refine la F rfl (x_add (F.t 9 rfl) rfl (w64 (by omega) (by omega))) fun a F => ?_
  refine la F rfl (x_assign (F.t 10 rfl)) fun a F => ?_
  refine wpList_nil ?_
  exact ⟨_, by omega, ⟨k + 1, rfl, by omega, ((F.bare.add F 3 rfl).add F 1 rfl), H.sub _ (sub_cons (sub_cons (sub_nil _) 1 rfl) 900 rfl)⟩⟩
 have hk8_4 := hc8; try simp only [bL] at hc8
 refine wp_exit ?_
 refine hK2 _ _ ?_
 refine sr fun _ hK11 => ?_
 refine la F rfl (x_faddr Tryz.underlying64 rfl ty9 (by decide) (F.t 1 rfl) rfl) fun a F => ?_
 refine la F rfl (x_load1 ty9 (F.t 33 rfl) (blk_cell (H.at 1 rfl) 0 rfl)) fun a F => ?_
 refine la F rfl (x_len_sn (xs := t.name) Tryz.underlying9 (F.t 34 rfl)) fun a F => ?_
 refine la F rfl (x_leq (F.t 35 rfl) rfl) fun a F => ?_
 refine la F rfl (x_assign (F.t 36 rfl)) fun a F => ?_
 refine wn (hK11 _ _ ?_)
 refine wp_ret ?_
 try simp only [Exit.then, Exit.inBlock]
 exact fin_ret F (res1 (v := .bool (decide ((t.name.length : Int) ≤ 100))) F rfl rfl) ⟨_, rfl, H.mods⟩
theorem fitsC_calls (w0 : World) {c : ChangeD} {okc0 : Nat → Prop} {Ac0 : Option Addr} {cc0 : Nat} (hrc0 : Rd StE w0 okc0 Ac0 c.timer.steps cc0) : Calls Tryz.prog 65 #[.agg #[.int .i64 c.kind, .string (strOfNums c.key), .string (strOfNums c.value), .string (strOfNums c.timer.name), .int .i64 c.timer.ver, .int .u64 c.timer.tick, .int .u64 c.timer.every, .slice Ac0 c.timer.steps.length cc0]] w0 fun e w' => ∃ b : Bool, e = .returned (.bool b) ∧ Mods (fun _ => False) w0 w' := by
 refine cow Tryz.func65 rfl Tryz.ntmps65 (Nat.le_of_ble_eq_true rfl) fun a F => ?_
 have H := Hp.nil (fun _ => False) w0
 have H := H.arg 900 hrc0.all (fun _ h => ⟨h, fun h => h⟩)
 have hlec0 := hrc0.le; unfold maxLen at hlec0
 refine sr fun _ hK1 => ?_
 refine lp rfl ?_
 refine w_box 1 F H rfl (F.t 0 rfl) ?_
 clear F H; intro a w b1 F H
 refine la F rfl (x_assign rfl) fun a F => ?_
 refine wn (hK1 _ _ ?_)
 refine sr fun _ hK2 => ?_
 refine la F rfl (x_faddr Tryz.underlying66 rfl ty9 (by decide) (F.t 1 rfl) rfl) fun a F => ?_
 refine la F rfl (x_load1 ty9 (F.t 3 rfl) (blk_cell (H.at 1 rfl) 1 rfl)) fun a F => ?_
 refine la F rfl (x_len_sn (xs := c.key) Tryz.underlying9 (F.t 4 rfl)) fun a F => ?_
 refine la F rfl (x_leq (F.t 5 rfl) rfl) fun a F => ?_
 refine la F rfl (x_move (F.t 6 rfl)) fun a F => ?_
 refine split_bool F 7 rfl (fun hb7 => ?_) (fun hb7 => ?_)
 ·have hc7 := hb7; try simp only [bL] at hc7
  refine lgs F hb7 rfl (x_faddr Tryz.underlying66 rfl ty9 (by decide) (F.t 1 rfl) rfl) fun a F => ?_
  refine lgs F hb7 rfl (x_load1 ty9 (F.t 8 rfl) (blk_cell (H.at 1 rfl) 2 rfl)) fun a F => ?_
  refine lgs F hb7 rfl (x_len_sn (xs := c.value) Tryz.underlying9 (F.t 9 rfl)) fun a F => ?_
  refine lgs F hb7 rfl (x_leq (F.t 10 rfl) rfl) fun a F => ?_
  refine la F rfl (x_pickT (F.t 7 rfl) hb7 (F.t 11 rfl)) fun a F => ?_
  refine la F rfl (x_move (F.t 12 rfl)) fun a F => ?_
  refine split_bool F 13 rfl (fun hb13 => ?_) (fun hb13 => ?_)
  ·have hc13 := hb13; try simp only [bL] at hc13
   refine lgs F hb13 rfl (x_faddr Tryz.underlying66 rfl ty64 (by decide) (F.t 1 rfl) rfl) fun a F => ?_
   refine lgs F hb13 rfl (x_loadn (cs := #[.string (strOfNums c.timer.name), .int .i64 c.timer.ver, .int .u64 c.timer.tick, .int .u64 c.timer.every, .slice Ac0 c.timer.steps.length cc0]) ty64 (F.t 14 rfl) rfl (blk_sub (H.at 1 rfl) 3 5 rfl)) fun a F => ?_
   refine lpo ((wo F rfl).trans (by rw [hb13]; rfl)) ?_
   refine w_call F (x_enter Tryz.func97 (by kernel_rfl) rfl (by simp only [bM, F.t 15 rfl] <;> rfl)) (fitsT_calls _ ((H.rd 900 rfl))) rfl rfl ?_
   rintro _ w ⟨bt_, rfl, hm_⟩; refine ⟨_, rfl, ?_⟩; clear F; intro a F; have H := H.same hm_
   refine la F rfl (x_pickT (F.t 13 rfl) hb13 (F.t 16 rfl)) fun a F => ?_
   refine la F rfl (x_assign (F.t 17 rfl)) fun a F => ?_
   refine wn (hK2 _ _ ?_)
   refine wp_ret ?_
   try simp only [Exit.then, Exit.inBlock]
   exact fin_ret F (res1 (v := .bool bt_) F rfl rfl) ⟨_, rfl, H.mods⟩
  have hc13 := hb13; try simp only [bL] at hc13
  refine los F hb13 rfl fun a F => ?_
  refine los F hb13 rfl fun a F => ?_
  refine los F hb13 rfl fun a F => ?_
  refine la F rfl (x_pickF (F.t 13 rfl) hb13 rfl) fun a F => ?_
  refine la F rfl (x_assign (F.t 17 rfl)) fun a F => ?_
  refine wn (hK2 _ _ ?_)
  refine wp_ret ?_
  try simp only [Exit.then, Exit.inBlock]
  exact fin_ret F (res1 (v := .bool false) F rfl rfl) ⟨_, rfl, H.mods⟩
 have hc7 := hb7; try simp only [bL] at hc7
 refine los F hb7 rfl fun a F => ?_
 refine los F hb7 rfl fun a F => ?_
 refine los F hb7 rfl fun a F => ?_
 refine los F hb7 rfl fun a F => ?_
 refine la F rfl (x_pickF (F.t 7 rfl) hb7 rfl) fun a F => ?_
 refine la F rfl (x_move (F.t 12 rfl)) fun a F => ?_
 refine lo F rfl fun a F => ?_
 refine lo F rfl fun a F => ?_
 refine lo F rfl fun a F => ?_
 refine la F rfl (x_pickF (F.t 13 rfl) rfl rfl) fun a F => ?_
 refine la F rfl (x_assign (F.t 17 rfl)) fun a F => ?_
 refine wn (hK2 _ _ ?_)
 refine wp_ret ?_
 try simp only [Exit.then, Exit.inBlock]
 exact fin_ret F (res1 (v := .bool false) F rfl rfl) ⟨_, rfl, H.mods⟩
theorem fitsAll_calls (w0 : World) {ok : Nat → Prop} {A : Option Addr} {xs : List ChangeD} {c : Nat} (hr : Rd ChgE w0 ok A xs c) : Calls Tryz.prog 27 #[.slice A xs.length c] w0 fun e w' => ∃ b : Bool, e = .returned (.bool b) ∧ Mods (fun _ => False) w0 w' := by
 refine cow Tryz.func27 rfl Tryz.ntmps27 (Nat.le_of_ble_eq_true rfl) fun a F => ?_
 have H := Hp.nil (fun _ => False) w0
 have H := H.arg 901 hr.all (fun _ h => ⟨h, fun h => h⟩)
 have hle901 := hr.le; unfold maxLen at hle901
 refine sr fun _ hK1 => ?_
 refine la F rfl (x_assign rfl) fun a F => ?_
 refine wn (hK1 _ _ ?_)
 refine wp_seq_k fun _ hK2 => ?_
 refine sr fun _ hK3 => ?_
 refine la F rfl (x_assign rfl) fun a F => ?_
 refine wn (hK3 _ _ ?_)
 refine wp_block ?_
 refine wp_loop_ghost (fun n_ a w => ∃ k : Nat, n_ = xs.length - k ∧ (k ≤ xs.length) ∧ Fr 22 a [(0, .slice A xs.length c), (3, .int .i64 (k : Int))] ∧ Hp (fun _ => False) w0 w [(901, .rd_ ChgE A xs c (fun k => k < w0.heap.size))]) (xs.length) ?_ ?_
 ·exact ⟨0, rfl, by omega, ((F.bare.add F 3 rfl).add F 0 rfl), H.sub _ (sub_cons (sub_nil _) 901 rfl)⟩
 rintro _ a w ⟨k, rfl, hq0_0, F, H⟩
 refine wp_seq_k fun _ hK4 => ?_
 refine sr fun _ hK5 => ?_
 refine la F rfl (x_move (F.t 3 rfl)) fun a F => ?_
 refine la F rfl (x_move (F.t 0 rfl)) fun a F => ?_
 refine la F rfl (x_len_slice Tryz.underlying24 (F.t 6 rfl)) fun a F => ?_
 refine la F rfl (x_lss (F.t 5 rfl) (F.t 7 rfl)) fun a F => ?_
 refine wn (hK5 _ _ ?_)
 refine wp_cond_split (F.t 8 rfl) (fun hc8 => ?_) (fun hc8 => ?_)
 ·have hk8_1 := hc8; try simp only [bL] at hc8
  refine wp_skip ?_
  refine hK4 _ _ ?_
  refine wp_seq_k fun _ hK6 => ?_
  refine wp_block ?_
  refine sr fun _ hK7 => ?_
  obtain ⟨fA1, fc1, hfr1, hf1_0, hf1_1, hf1_2, hf1_3, hf1_4, hf1_5, hf1_6, hf1_7, hfw1⟩ := rd_chg ((H.rd 901 rfl)) (gchg_some (xs := xs) (i := (k : Int)) (by omega) (by omega))
  have H := H.subrd 901 rfl 1007 hfr1 (fun _ h => h)
  have H := H.subcels 901 rfl 1499 hfw1 (Rd.inok ((H.rd 901 rfl)) (by omega) _)
  have H := H.subcel 901 rfl 1500 hf1_0 (Rd.inok ((H.rd 901 rfl)) (by omega) _)
  have H := H.subcel 901 rfl 1501 hf1_1 (Rd.inok ((H.rd 901 rfl)) (by omega) _)
  have H := H.subcel 901 rfl 1502 hf1_2 (Rd.inok ((H.rd 901 rfl)) (by omega) _)
  have H := H.subcel 901 rfl 1503 hf1_3 (Rd.inok ((H.rd 901 rfl)) (by omega) _)
  have H := H.subcel 901 rfl 1504 hf1_4 (Rd.inok ((H.rd 901 rfl)) (by omega) _)
  have H := H.subcel 901 rfl 1505 hf1_5 (Rd.inok ((H.rd 901 rfl)) (by omega) _)
  have H := H.subcel 901 rfl 1506 hf1_6 (Rd.inok ((H.rd 901 rfl)) (by omega) _)
  have H := H.subcel 901 rfl 1507 hf1_7 (Rd.inok ((H.rd 901 rfl)) (by omega) _)
  refine la F rfl (x_move (F.t 0 rfl)) fun a F => ?_
  refine la F rfl (x_move (F.t 3 rfl)) fun a F => ?_
  refine la F rfl (x_iaddr_A Tryz.underlying24 ty66 ((H.rd 901 rfl)) (F.t 11 rfl) (F.t 12 rfl) (by omega) (by omega) _) fun a F => ?_
  refine la F rfl (x_loadn ty66 (F.t 13 rfl) rfl (H.holds 1499 _ rfl)) fun a F => ?_
  refine lp rfl ?_
  refine w_call F (x_enter Tryz.func65 (by kernel_rfl) rfl (by simp only [bM, F.t 14 rfl] <;> rfl)) (fitsC_calls _ ((H.rd 1007 rfl))) rfl rfl ?_
  rintro _ w ⟨bc_, rfl, hm_⟩; refine ⟨_, rfl, ?_⟩; clear F; intro a F; have H := H.same hm_
  refine la F rfl (x_assign (F.t 15 rfl)) fun a F => ?_
  refine wn (hK7 _ _ ?_)
  refine sr fun _ hK8 => ?_
  refine la F rfl (x_move (F.t 4 rfl)) fun a F => ?_
  refine la F rfl (x_not (F.t 16 rfl)) fun a F => ?_
  refine la F rfl (x_move (F.t 17 rfl)) fun a F => ?_
  refine split_bool F 18 rfl (fun hb18 => ?_) (fun hb18 => ?_)
  ·have hc18 := hb18; try simp only [bL] at hc18
   refine los F hb18 rfl fun a F => ?_
   refine los F hb18 rfl fun a F => ?_
   refine la F rfl (x_pickT (F.t 18 rfl) hb18 rfl) fun a F => ?_
   refine wn (hK8 _ _ ?_)
   refine wp_cond_true (F.t 21 rfl) ?_
   refine sr fun _ hK9 => ?_
   refine la F rfl (x_assign rfl) fun a F => ?_
   refine wn (hK9 _ _ ?_)
   refine wp_ret ?_
   try simp only [Exit.then, Exit.inBlock]
   exact fin_ret F (res1 (v := .bool false) F rfl rfl) ⟨_, rfl, H.mods⟩
  have hc18 := hb18; try simp only [bL] at hc18
  refine lgs F hb18 rfl (x_move (F.t 3 rfl)) fun a F => ?_
  refine lgs F hb18 rfl (x_eql (F.t 19 rfl) rfl) fun a F => ?_
  refine la F rfl (x_pickF (F.t 18 rfl) hb18 (F.t 20 rfl)) fun a F => ?_
  refine wn (hK8 _ _ ?_)
  refine wp_cond_split (F.t 21 rfl) (fun hc21 => ?_) (fun hc21 => ?_)
  ·have hk21_2 := hc21; try simp only [bL] at hc21
   refine sr fun _ hK10 => ?_
   refine la F rfl (x_assign rfl) fun a F => ?_
   refine wn (hK10 _ _ ?_)
   refine wp_ret ?_
   try simp only [Exit.then, Exit.inBlock]
   exact fin_ret F (res1 (v := .bool false) F rfl rfl) ⟨_, rfl, H.mods⟩
  have hk21_3 := hc21; try simp only [bL] at hc21
  refine wp_skip ?_
  refine hK6 _ _ ?_
  refine wp_region_lit ?_
  refine la F rfl (x_move (F.t 3 rfl)) fun a F => ?_
  refine la F rfl (x_add (F.t 9 rfl) rfl (w64 (by omega) (by omega))) fun a F => ?_
  refine la F rfl (x_assign (F.t 10 rfl)) fun a F => ?_
  refine wpList_nil ?_
  exact ⟨_, by omega, ⟨k + 1, rfl, by omega, ((F.bare.add F 3 rfl).add F 0 rfl), H.sub _ (sub_cons (sub_nil _) 901 rfl)⟩⟩
 have hk8_4 := hc8; try simp only [bL] at hc8
 refine wp_exit ?_
 refine hK2 _ _ ?_
 refine sr fun _ hK11 => ?_
 refine la F rfl (x_assign rfl) fun a F => ?_
 refine wn (hK11 _ _ ?_)
 refine wp_ret ?_
 try simp only [Exit.then, Exit.inBlock]
 exact fin_ret F (res1 (v := .bool true) F rfl rfl) ⟨_, rfl, H.mods⟩
theorem fitsM_calls (w0 : World) {m : MessageD} {okm0 : Nat → Prop} {Am0 : Option Addr} {cm0 : Nat} (hrm0 : Rd (Rep.int .i64) w0 okm0 Am0 m.nodes cm0) {okm1 : Nat → Prop} {Am1 : Option Addr} {cm1 : Nat} (hrm1 : Rd ChgE w0 okm1 Am1 m.changes cm1) : Calls Tryz.prog 5 #[.agg #[.int .i64 m.kind, .int .i64 m.src, .int .i64 m.dst, .int .i64 m.tx, .slice Am0 m.nodes.length cm0, .slice Am1 m.changes.length cm1]] w0 fun e w' => ∃ b : Bool, e = .returned (.bool b) ∧ Mods (fun _ => False) w0 w' := by
 refine cow Tryz.func5 rfl Tryz.ntmps5 (Nat.le_of_ble_eq_true rfl) fun a F => ?_
 have H := Hp.nil (fun _ => False) w0
 have H := H.arg 900 hrm0.all (fun _ h => ⟨h, fun h => h⟩)
 have hlem0 := hrm0.le; unfold maxLen at hlem0
 have H := H.arg 901 hrm1.all (fun _ h => ⟨h, fun h => h⟩)
 have hlem1 := hrm1.le; unfold maxLen at hlem1
 refine sr fun _ hK1 => ?_
 refine lp rfl ?_
 refine w_box 1 F H rfl (F.t 0 rfl) ?_
 clear F H; intro a w b1 F H
 refine la F rfl (x_assign rfl) fun a F => ?_
 refine wn (hK1 _ _ ?_)
 refine sr fun _ hK2 => ?_
 refine la F rfl (x_faddr Tryz.underlying26 rfl ty24 (by decide) (F.t 1 rfl) rfl) fun a F => ?_
 refine la F rfl (x_load1 ty24 (F.t 4 rfl) (blk_cell (H.at 1 rfl) 5 rfl)) fun a F => ?_
 refine lp rfl ?_
 refine w_call F (x_enter Tryz.func27 (by kernel_rfl) rfl (by simp only [bM, F.t 5 rfl] <;> rfl)) (fitsAll_calls _ ((H.rd 901 rfl))) rfl rfl ?_
 rintro _ w ⟨ba_, rfl, hm_⟩; refine ⟨_, rfl, ?_⟩; clear F; intro a F; have H := H.same hm_
 refine la F rfl (x_assign (F.t 6 rfl)) fun a F => ?_
 refine wn (hK2 _ _ ?_)
 refine sr fun _ hK3 => ?_
 refine la F rfl (x_move (F.t 3 rfl)) fun a F => ?_
 refine la F rfl (x_move (F.t 7 rfl)) fun a F => ?_
 refine split_bool F 8 rfl (fun hb8 => ?_) (fun hb8 => ?_)
 ·have hc8 := hb8; try simp only [bL] at hc8
  refine lgs F hb8 rfl (x_faddr Tryz.underlying26 rfl ty24 (by decide) (F.t 1 rfl) rfl) fun a F => ?_
  refine lgs F hb8 rfl (x_load1 ty24 (F.t 9 rfl) (blk_cell (H.at 1 rfl) 5 rfl)) fun a F => ?_
  refine lgs F hb8 rfl (x_len_slice Tryz.underlying24 (F.t 10 rfl)) fun a F => ?_
  refine lgs F hb8 rfl (x_leq (F.t 11 rfl) rfl) fun a F => ?_
  refine la F rfl (x_pickT (F.t 8 rfl) hb8 (F.t 12 rfl)) fun a F => ?_
  refine la F rfl (x_move (F.t 13 rfl)) fun a F => ?_
  refine split_bool F 14 rfl (fun hb14 => ?_) (fun hb14 => ?_)
  ·have hc14 := hb14; try simp only [bL] at hc14
   refine lgs F hb14 rfl (x_faddr Tryz.underlying26 rfl ty23 (by decide) (F.t 1 rfl) rfl) fun a F => ?_
   refine lgs F hb14 rfl (x_load1 ty23 (F.t 15 rfl) (blk_cell (H.at 1 rfl) 4 rfl)) fun a F => ?_
   refine lgs F hb14 rfl (x_len_slice Tryz.underlying23 (F.t 16 rfl)) fun a F => ?_
   refine lgs F hb14 rfl (x_leq (F.t 17 rfl) rfl) fun a F => ?_
   refine la F rfl (x_pickT (F.t 14 rfl) hb14 (F.t 18 rfl)) fun a F => ?_
   refine la F rfl (x_assign (F.t 19 rfl)) fun a F => ?_
   refine wn (hK3 _ _ ?_)
   refine wp_ret ?_
   try simp only [Exit.then, Exit.inBlock]
   exact fin_ret F (res1 (v := .bool (decide ((m.nodes.length : Int) ≤ 50))) F rfl rfl) ⟨_, rfl, H.mods⟩
  have hc14 := hb14; try simp only [bL] at hc14
  refine los F hb14 rfl fun a F => ?_
  refine los F hb14 rfl fun a F => ?_
  refine los F hb14 rfl fun a F => ?_
  refine los F hb14 rfl fun a F => ?_
  refine la F rfl (x_pickF (F.t 14 rfl) hb14 rfl) fun a F => ?_
  refine la F rfl (x_assign (F.t 19 rfl)) fun a F => ?_
  refine wn (hK3 _ _ ?_)
  refine wp_ret ?_
  try simp only [Exit.then, Exit.inBlock]
  exact fin_ret F (res1 (v := .bool false) F rfl rfl) ⟨_, rfl, H.mods⟩
 have hc8 := hb8; try simp only [bL] at hc8
 refine los F hb8 rfl fun a F => ?_
 refine los F hb8 rfl fun a F => ?_
 refine los F hb8 rfl fun a F => ?_
 refine los F hb8 rfl fun a F => ?_
 refine la F rfl (x_pickF (F.t 8 rfl) hb8 rfl) fun a F => ?_
 refine la F rfl (x_move (F.t 13 rfl)) fun a F => ?_
 refine lo F rfl fun a F => ?_
 refine lo F rfl fun a F => ?_
 refine lo F rfl fun a F => ?_
 refine lo F rfl fun a F => ?_
 refine la F rfl (x_pickF (F.t 14 rfl) rfl rfl) fun a F => ?_
 refine la F rfl (x_assign (F.t 19 rfl)) fun a F => ?_
 refine wn (hK3 _ _ ?_)
 refine wp_ret ?_
 try simp only [Exit.then, Exit.inBlock]
 exact fin_ret F (res1 (v := .bool false) F rfl rfl) ⟨_, rfl, H.mods⟩
theorem malive_calls (w0 : World) {pp : Bool} (hL : LibAt pp w0) : Calls Tryz.prog 6 #[] w0 fun e w' => e = .returned (.bool true) ∧ Mods (fun _ => False) w0 w' := by
 refine cow Tryz.func6 rfl Tryz.ntmps6 (Nat.le_of_ble_eq_true rfl) fun a F => ?_
 have H := Hp.nil (fun _ => False) w0
 have H := H.libN 990 hL
 refine sr fun _ hK1 => ?_
 refine la F rfl (x_assign rfl) fun a F => ?_
 refine wn (hK1 _ _ ?_)
 refine sr fun _ hK2 => ?_
 refine la F rfl (x_buildS (cells := #[.int .i64 2, .int .i64 1, .int .i64 2, .int .i64 300, .slice none 0 0, .slice none 0 0]) (places := #[(0, 1), (1, 1), (2, 1), (3, 1), (4, 1), (5, 1)]) Tryz.underlying26 ty26 (by kernel_rfl) (by simp only [bM] <;> rfl) rfl) fun a F => ?_
 refine lp rfl ?_
 refine w_call F (x_enter Tryz.func7 (by kernel_rfl) rfl (by simp only [bM, F.t 4 rfl] <;> rfl)) (encM_calls (m := msgA) (Am0 := none) (cm0 := 0) (Am1 := none) (cm1 := 0) _ (H.holds 990 _ rfl) (Rd.nil (.int .i64) _ (fun _ => False)) (Rd.nil ChgE _ (fun _ => False)) msgA_B) rfl rfl ?_
 rintro _ w ⟨vr6, rfl, hm_, hr_⟩; refine ⟨_, rfl, ?_⟩; clear F; intro a F; have H := Hp.rowOut H 6 hm_ hr_; obtain ⟨Ar6, cr6, rfl⟩ := (H.row 6 rfl).form
 refine la F rfl (x_move (F.t 5 rfl)) fun a F => ?_
 refine la F rfl (x_extract (F.t 3 rfl) rfl) fun a F => ?_
 refine la F rfl (x_extract (F.t 3 rfl) rfl) fun a F => ?_
 refine la F rfl (x_assign (F.t 6 rfl)) fun a F => ?_
 refine la F rfl (x_assign (F.t 7 rfl)) fun a F => ?_
 refine wn (hK2 _ _ ?_)
 refine sr fun _ hK3 => ?_
 rw [encME_yes msgA_right] at F
 refine la F rfl (x_move (F.t 2 rfl)) fun a F => ?_
 refine la F rfl (x_eql (F.t 8 rfl) rfl) fun a F => ?_
 refine la F rfl (x_move (F.t 9 rfl)) fun a F => ?_
 refine lg F rfl (x_move (F.t 1 rfl)) fun a F => ?_
 refine lg F rfl (x_len_slice Tryz.underlying27 (F.t 11 rfl)) fun a F => ?_
 rw [msgA_len] at F
 refine lg F rfl (x_eql (F.t 12 rfl) rfl) fun a F => ?_
 refine la F rfl (x_pickT (F.t 10 rfl) rfl (F.t 13 rfl)) fun a F => ?_
 refine la F rfl (x_move (F.t 14 rfl)) fun a F => ?_
 refine lg F rfl (x_move (F.t 1 rfl)) fun a F => ?_
 refine lg F rfl (x_slice_h Tryz.underlying27 ty5 (F.t 16 rfl) rfl (by omega) (by rw [msgA_len]; decide) (Row.rd (ok' := fun k_ => (fun _ => False) k_ ∨ (.slice Ar6 (encM msgA).length cr6 : Value).ownBlock = some k_) (H.row 6 rfl) (fun _ hk_ _ => .inl hk_) (fun _ hk_ => .inr hk_)).1) fun a F => ?_
 refine lg F rfl (x_b2s Tryz.underlying27 Tryz.underlying5 Tryz.underlying9 ((Rd.take (Row.rd (ok' := fun k_ => (fun _ => False) k_ ∨ (.slice Ar6 (encM msgA).length cr6 : Value).ownBlock = some k_) (H.row 6 rfl) (fun _ hk_ _ => .inl hk_) (fun _ hk_ => .inr hk_)) (Int.toNat 11))) (F.t 17 rfl)) fun a F => ?_
 rw [msgA_head] at F
 refine lg F rfl (x_eqs (F.t 18 rfl) (show _ = Value.string (strOfNums ([1, 0, 3, 2, 1, 2, 2, 0, 2, 1, 44] : List Int)) by kernel_rfl)) fun a F => ?_
 refine la F rfl (x_pickT (F.t 15 rfl) rfl (F.t 19 rfl)) fun a F => ?_
 refine la F rfl (x_assign (F.t 20 rfl)) fun a F => ?_
 refine wn (hK3 _ _ ?_)
 refine wp_ret ?_
 try simp only [Exit.then, Exit.inBlock]
 exact fin_ret F (res1 (v := .bool true) F rfl rfl) ⟨rfl, H.mods⟩
end Go.Proofs.YtiiklnghnifmjaaGreatDoor.Act
